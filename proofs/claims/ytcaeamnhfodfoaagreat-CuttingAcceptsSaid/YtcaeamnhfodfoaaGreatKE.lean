import Derived.Test.YtcaeamnhfodfoaaGreatKD
import GoSem.ClaimChange
import Derived.Carry
import Derived.ChangeSame
import Derived.ChangeShapes
import Derived.OpenShut
import Derived.Test.YtcaeamnhfodfoaaGreatRows
import Derived.ProofKit
set_option linter.all false
section
namespace Go.aS.Cd
open Go Go.Proofs
set_option maxRecDepth 100000
set_option maxHeartbeats 4000000
def Zy (F:Nat→List Zn) (hq:HS):Prop:= ∃ (k0 k1 k2 k3 k4:Nat) (y0 y1 y2 y3 y4:List (List C)),hq=[(4, .row 1 [[.own 8 2 0 k0],[.own 12 2 0 k1],[.own 16 2 0 k2],[.own 20 2 0 k3],[.own 24 2 0 k4]]),(8, .row 2 y0),(12, .row 2 y1),(16, .row 2 y2),(20, .row 2 y3),(24, .row 2 y4)]∧fB k0 y0 (F 0)∧fB k1 y1 (F 1)∧fB k2 y2 (F 2)∧fB k3 y3 (F 3)∧fB k4 y4 (F 4)
theorem Rp (hS:fL Tryz.prog 63 64) (e0 e1 e2 e3 e4:List T) (ln wd rx ry:Int) (sizes places plies:Lz) (hy: ∀e,e∈plies→ ∃l q,e=[tI l, .av 4 q]∧BK q) (kT:plies.length≤1000000) (hB: ∀e,e∈plies→(nL 1 e).length≤1000) (hT: ∀i,(partsOf (plies.take i)).length≤100000) (ew: ∀e,e∈plies→ ∀q,q∈nL 1 e→0≤nI 0 q∧nI 0 q < 5):Tg 34 [mc ln wd rx ry sizes places plies,oL 7 [e0,e1,e2,e3,e4]] (LY 5 (partsOf plies)):=by
 have hZ: ∀c:Int,(bI c (partsOf plies)).length≤100000:=fun c=>by have h1:=jI c (partsOf plies);have h2:=hT plies.length;rw[List.take_of_length_le (Nat.le_refl _)]at h2;omega
 refine aK ?_
 refine ae Tryz.func34 ?_
 repeat' (conv=>whnf
          first
  |(refine aA (fun h=>?_) (fun h=>?_))
  |(refine And.intro ⟨by simp,by simp,by simp,by simp⟩ ?_)
  |(have wK:=sV.2;have mQ:=sV.1;have ve:r1=0∨r1=1∨r1=2∨r1=3∨r1=4:=(by omega);clear mQ wK;rcases ve with rfl|rfl|rfl|rfl|rfl)
  |(have mQ:=AY;have A6:=h;simp at A6;have ve:k=0∨k=1∨k=2∨k=3∨k=4:=(by omega);clear mQ A6;rcases ve with rfl|rfl|rfl|rfl|rfl)
  |(refine And.intro ⟨by simp,by simp⟩ ?_)
  |(refine au (xs:=plies) hy (by omega) (by omega) ?_;rintro _ ⟨l,ps,rfl,hq⟩ hs;have E8:=ew _ (List.mem_of_getElem? hs);have Ly:ps.length≤1000:=hB _ (List.mem_of_getElem? hs);have OO:=hT i)
  |(refine au (xs:=ps) hq (by omega) (by omega) ?_;rintro _ ⟨r1,f1,t1,a1,rfl⟩ bO;have sV:=E8 _ (List.mem_of_getElem? bO);simp only[nI,List.getElem?_cons_zero]at sV)
  |(have hb0:=p0.kP (B:=101000) (by omega);refine And.intro ⟨hb0.1.symm,by simp[aU];omega,by simp[maxLen];omega⟩ ?_)
  |(have oT:=p1.kP (B:=101000) (by omega);refine And.intro ⟨oT.1.symm,by simp[aU];omega,by simp[maxLen];omega⟩ ?_)
  |(have nw:=p2.kP (B:=101000) (by omega);refine And.intro ⟨nw.1.symm,by simp[aU];omega,by simp[maxLen];omega⟩ ?_)
  |(have OZ:=p3.kP (B:=101000) (by omega);refine And.intro ⟨OZ.1.symm,by simp[aU];omega,by simp[maxLen];omega⟩ ?_)
  |(have YI:=p4.kP (B:=101000) (by omega);refine And.intro ⟨YI.1.symm,by simp[aU];omega,by simp[maxLen];omega⟩ ?_)
  |(have h6:=fH (z:=bI ((0:Nat):Int) (partsOf plies)) h eE;refine And.intro ⟨by omega,h⟩ ?_)
  |(have h6:=fH (z:=bI ((1:Nat):Int) (partsOf plies)) h eE;refine And.intro ⟨by omega,h⟩ ?_)
  |(have h6:=fH (z:=bI ((2:Nat):Int) (partsOf plies)) h eE;refine And.intro ⟨by omega,h⟩ ?_)
  |(have h6:=fH (z:=bI ((3:Nat):Int) (partsOf plies)) h eE;refine And.intro ⟨by omega,h⟩ ?_)
  |(have h6:=fH (z:=bI ((4:Nat):Int) (partsOf plies)) h eE;refine And.intro ⟨by omega,h⟩ ?_)
  |(have lV:IntKind.i64.wrap (i4 - 1)=i4 - 1:=bj (by omega) (by omega);generalize IntKind.i64.wrap (i4 - 1)=j1 at lV⊢;refine And.intro ⟨by omega,by omega⟩ ?_)
  |(refine And.intro (by kernel_rfl) ?_)
  |(refine eV [8] rfl (cS hS (bI ((0:Nat):Int) (partsOf plies)) (hZ _)) rfl (jF rfl (rfl:az _ (rZ (bI ((0:Nat):Int) (partsOf plies))))) ?_;rintro _ _ ⟨rfl,rfl⟩;obtain⟨zl,hz⟩: ∃zl,zl=cH (bI ((0:Nat):Int) (partsOf plies)):=⟨_,rfl⟩;rw[←hz];have jS:zl.length≤100000:=(by rw[hz,aO];exact hZ _);have eE:zl.length=(bI ((0:Nat):Int) (partsOf plies)).length:=(by rw[hz,aO]))
  |(refine eV [12] rfl (cS hS (bI ((1:Nat):Int) (partsOf plies)) (hZ _)) rfl (jF rfl (rfl:az _ (rZ (bI ((1:Nat):Int) (partsOf plies))))) ?_;rintro _ _ ⟨rfl,rfl⟩;obtain⟨zl,hz⟩: ∃zl,zl=cH (bI ((1:Nat):Int) (partsOf plies)):=⟨_,rfl⟩;rw[←hz];have jS:zl.length≤100000:=(by rw[hz,aO];exact hZ _);have eE:zl.length=(bI ((1:Nat):Int) (partsOf plies)).length:=(by rw[hz,aO]))
  |(refine eV [16] rfl (cS hS (bI ((2:Nat):Int) (partsOf plies)) (hZ _)) rfl (jF rfl (rfl:az _ (rZ (bI ((2:Nat):Int) (partsOf plies))))) ?_;rintro _ _ ⟨rfl,rfl⟩;obtain⟨zl,hz⟩: ∃zl,zl=cH (bI ((2:Nat):Int) (partsOf plies)):=⟨_,rfl⟩;rw[←hz];have jS:zl.length≤100000:=(by rw[hz,aO];exact hZ _);have eE:zl.length=(bI ((2:Nat):Int) (partsOf plies)).length:=(by rw[hz,aO]))
  |(refine eV [20] rfl (cS hS (bI ((3:Nat):Int) (partsOf plies)) (hZ _)) rfl (jF rfl (rfl:az _ (rZ (bI ((3:Nat):Int) (partsOf plies))))) ?_;rintro _ _ ⟨rfl,rfl⟩;obtain⟨zl,hz⟩: ∃zl,zl=cH (bI ((3:Nat):Int) (partsOf plies)):=⟨_,rfl⟩;rw[←hz];have jS:zl.length≤100000:=(by rw[hz,aO];exact hZ _);have eE:zl.length=(bI ((3:Nat):Int) (partsOf plies)).length:=(by rw[hz,aO]))
  |(refine eV [24] rfl (cS hS (bI ((4:Nat):Int) (partsOf plies)) (hZ _)) rfl (jF rfl (rfl:az _ (rZ (bI ((4:Nat):Int) (partsOf plies))))) ?_;rintro _ _ ⟨rfl,rfl⟩;obtain⟨zl,hz⟩: ∃zl,zl=cH (bI ((4:Nat):Int) (partsOf plies)):=⟨_,rfl⟩;rw[←hz];have jS:zl.length≤100000:=(by rw[hz,aO];exact hZ _);have eE:zl.length=(bI ((4:Nat):Int) (partsOf plies)).length:=(by rw[hz,aO]))
  |(refine cv (xs:=rZ zl) (az.ak (az.ak (xs:=rZ zl) rfl _) _) (xw zl) (by rw[cP];omega) ?_;first|(rintro _ ⟨a6,b6,rfl⟩ kU;have:=lU)|rintro _ ⟨a5,b5,rfl⟩ lU)
  |exact dA rfl (bP 1 rfl) (bX rfl) ⟨_,by rw[cR (r:=0) (by omega) hz (cj hi4 lV kU lU (by omega))]⟩
  |exact dA rfl (bP 1 rfl) (bX rfl) ⟨_,by rw[cR (r:=1) (by omega) hz (cj hi4 lV kU lU (by omega))]⟩
  |exact dA rfl (bP 1 rfl) (bX rfl) ⟨_,by rw[cR (r:=2) (by omega) hz (cj hi4 lV kU lU (by omega))]⟩
  |exact dA rfl (bP 1 rfl) (bX rfl) ⟨_,by rw[cR (r:=3) (by omega) hz (cj hi4 lV kU lU (by omega))]⟩
  |exact dA rfl (bP 1 rfl) (bX rfl) ⟨_,by rw[cR (r:=4) (by omega) hz (cj hi4 lV kU lU (by omega))]⟩
  |(have h7:((5:Nat):Int)≤k:=(by simp at h;omega);exact dA rfl (oD [(8,_,_),(12,_,_),(16,_,_),(20,_,_),(24,_,_)] rfl rfl rfl rfl ⟨⟨_,rfl,rfl,(cP _).symm⟩,⟨_,rfl,rfl,(cP _).symm⟩,⟨_,rfl,rfl,(cP _).symm⟩,⟨_,rfl,rfl,(cP _).symm⟩,⟨_,rfl,rfl,(cP _).symm⟩,trivial⟩) (bX rfl) ⟨_,by rw[jl h7 hall]⟩)
  |(have hgd:=eE;clear hgd;apply aL [6,12,13,49,50,51] [(6,0),(6,1),(6,2),(6,3),(6,4)] [13] (O8 zl) (zl.length) [iV .i64 1];(conv=>whnf);exact⟨rfl,rfl,rfl,rfl⟩;exact rfl;exact rfl;exact⟨1,by omega,by omega,by omega,rfl,qi.one zl⟩;rintro _ _ ⟨i4,hi4,Tf,rfl,rfl,nX⟩)
  |(have hgd:=h6;clear hgd;refine aj [6,12,13,49,50,51] [(6,0),(6,1),(6,2),(6,3),(6,4)] ?_;(conv=>whnf);exact⟨rfl,_,[_],⟨i4+1,by omega,by omega,rfl,by rw[bj (by omega) (by omega)],nX.next hi4 lV kU lU (by omega)⟩,rfl,(by simp only[eJ]<;>rfl),rfl,by omega⟩)
  |(have hgd:=hs;clear hgd;apply bW [6,18,19,20,25,26,27] [(6,0),(6,1),(6,2),(6,3),(6,4)] [27] (Of Zy (partsOf (plies.take i)) ps) (ps.length) [iV .i64 0];(conv=>whnf);exact⟨rfl,rfl,rfl,rfl⟩;exact rfl;exact rfl;exact⟨0,by omega,rfl,rfl,⟨_,_,_,_,_,_,_,_,_,_,rfl,p0.nil _,p1.nil _,p2.nil _,p3.nil _,p4.nil _⟩⟩;rintro _ _ _ ⟨j,hj,rfl,rfl,⟨k0,k1,k2,k3,k4,y0,y1,y2,y3,y4,rfl,p0,p1,p2,p3,p4⟩⟩)
  |(have hgd:=bO;clear hgd;refine aj [6,18,19,20,25,26,27] [(6,0),(6,1),(6,2),(6,3),(6,4)] ?_;(conv=>whnf);first|exact⟨rfl,_,[_],⟨j+1,by omega,rfl,by rw[bj (by omega) (by omega)];rfl,⟨_,_,_,_,_,_,_,_,_,_,rfl,p0.hit bO (by simp) _,p1.eU bO (by decide) _,p2.eU bO (by decide) _,p3.eU bO (by decide) _,p4.eU bO (by decide) _⟩⟩,rfl,rfl,by omega⟩|exact⟨rfl,_,[_],⟨j+1,by omega,rfl,by rw[bj (by omega) (by omega)];rfl,⟨_,_,_,_,_,_,_,_,_,_,rfl,p0.eU bO (by decide) _,p1.hit bO (by simp) _,p2.eU bO (by decide) _,p3.eU bO (by decide) _,p4.eU bO (by decide) _⟩⟩,rfl,rfl,by omega⟩|exact⟨rfl,_,[_],⟨j+1,by omega,rfl,by rw[bj (by omega) (by omega)];rfl,⟨_,_,_,_,_,_,_,_,_,_,rfl,p0.eU bO (by decide) _,p1.eU bO (by decide) _,p2.hit bO (by simp) _,p3.eU bO (by decide) _,p4.eU bO (by decide) _⟩⟩,rfl,rfl,by omega⟩|exact⟨rfl,_,[_],⟨j+1,by omega,rfl,by rw[bj (by omega) (by omega)];rfl,⟨_,_,_,_,_,_,_,_,_,_,rfl,p0.eU bO (by decide) _,p1.eU bO (by decide) _,p2.eU bO (by decide) _,p3.hit bO (by simp) _,p4.eU bO (by decide) _⟩⟩,rfl,rfl,by omega⟩|exact⟨rfl,_,[_],⟨j+1,by omega,rfl,by rw[bj (by omega) (by omega)];rfl,⟨_,_,_,_,_,_,_,_,_,_,rfl,p0.eU bO (by decide) _,p1.eU bO (by decide) _,p2.eU bO (by decide) _,p3.eU bO (by decide) _,p4.hit bO (by simp) _⟩⟩,rfl,rfl,by omega⟩)
  |(have hgd:=hi;clear hgd;apply bW [6,49,50,51] [(6,0),(6,1),(6,2),(6,3),(6,4)] [51] (Oe Zy 5 (fun r=>bI (r:Int) (partsOf plies))) (5) [iV .i64 0];(conv=>whnf);exact⟨rfl,rfl,rfl,rfl⟩;exact rfl;exact rfl;exact⟨0,by omega,by omega,rfl,rfl,⟨_,_,_,_,_,_,_,_,_,_,rfl,p0.all (by omega) _,p1.all (by omega) _,p2.all (by omega) _,p3.all (by omega) _,p4.all (by omega) _⟩,fun r hr=>by omega⟩;rintro _ _ _ ⟨k,AY,fC,rfl,rfl,⟨_,_,_,_,_,_,_,_,_,_,rfl,⟨rfl,rfl⟩,⟨rfl,rfl⟩,⟨rfl,rfl⟩,⟨rfl,rfl⟩,⟨rfl,rfl⟩⟩,hall⟩)
  |(have hgd:=eE;clear hgd;refine aj [6,49,50,51] [(6,0),(6,1),(6,2),(6,3),(6,4)] ?_;(conv=>whnf);first|exact⟨rfl,_,[_],⟨1,by omega,by omega,rfl,rfl,⟨_,_,_,_,_,_,_,_,_,_,rfl,fB.sort hz rfl (az.ak (az.ak (az.ak (xs:=rZ zl) rfl _) _) _),⟨rfl,az.ak (az.ak (xs:=rZ _) rfl _) _⟩,⟨rfl,az.ak (az.ak (xs:=rZ _) rfl _) _⟩,⟨rfl,az.ak (az.ak (xs:=rZ _) rfl _) _⟩,⟨rfl,az.ak (az.ak (xs:=rZ _) rfl _) _⟩⟩,ct (c:=0) hall hz (nX.all (fI (z:=bI ((0:Nat):Int) (partsOf plies)) h eE))⟩,rfl,rfl,by omega⟩|exact⟨rfl,_,[_],⟨2,by omega,by omega,rfl,rfl,⟨_,_,_,_,_,_,_,_,_,_,rfl,⟨rfl,az.ak (az.ak (xs:=rZ _) rfl _) _⟩,fB.sort hz rfl (az.ak (az.ak (az.ak (xs:=rZ zl) rfl _) _) _),⟨rfl,az.ak (az.ak (xs:=rZ _) rfl _) _⟩,⟨rfl,az.ak (az.ak (xs:=rZ _) rfl _) _⟩,⟨rfl,az.ak (az.ak (xs:=rZ _) rfl _) _⟩⟩,ct (c:=1) hall hz (nX.all (fI (z:=bI ((1:Nat):Int) (partsOf plies)) h eE))⟩,rfl,rfl,by omega⟩|exact⟨rfl,_,[_],⟨3,by omega,by omega,rfl,rfl,⟨_,_,_,_,_,_,_,_,_,_,rfl,⟨rfl,az.ak (az.ak (xs:=rZ _) rfl _) _⟩,⟨rfl,az.ak (az.ak (xs:=rZ _) rfl _) _⟩,fB.sort hz rfl (az.ak (az.ak (az.ak (xs:=rZ zl) rfl _) _) _),⟨rfl,az.ak (az.ak (xs:=rZ _) rfl _) _⟩,⟨rfl,az.ak (az.ak (xs:=rZ _) rfl _) _⟩⟩,ct (c:=2) hall hz (nX.all (fI (z:=bI ((2:Nat):Int) (partsOf plies)) h eE))⟩,rfl,rfl,by omega⟩|exact⟨rfl,_,[_],⟨4,by omega,by omega,rfl,rfl,⟨_,_,_,_,_,_,_,_,_,_,rfl,⟨rfl,az.ak (az.ak (xs:=rZ _) rfl _) _⟩,⟨rfl,az.ak (az.ak (xs:=rZ _) rfl _) _⟩,⟨rfl,az.ak (az.ak (xs:=rZ _) rfl _) _⟩,fB.sort hz rfl (az.ak (az.ak (az.ak (xs:=rZ zl) rfl _) _) _),⟨rfl,az.ak (az.ak (xs:=rZ _) rfl _) _⟩⟩,ct (c:=3) hall hz (nX.all (fI (z:=bI ((3:Nat):Int) (partsOf plies)) h eE))⟩,rfl,rfl,by omega⟩|exact⟨rfl,_,[_],⟨5,by omega,by omega,rfl,rfl,⟨_,_,_,_,_,_,_,_,_,_,rfl,⟨rfl,az.ak (az.ak (xs:=rZ _) rfl _) _⟩,⟨rfl,az.ak (az.ak (xs:=rZ _) rfl _) _⟩,⟨rfl,az.ak (az.ak (xs:=rZ _) rfl _) _⟩,⟨rfl,az.ak (az.ak (xs:=rZ _) rfl _) _⟩,fB.sort hz rfl (az.ak (az.ak (az.ak (xs:=rZ zl) rfl _) _) _)⟩,ct (c:=4) hall hz (nX.all (fI (z:=bI ((4:Nat):Int) (partsOf plies)) h eE))⟩,rfl,rfl,by omega⟩)
  |(apply gn [6,18,19,20] [(6,0),(6,1),(6,2),(6,3),(6,4)] [20] (Og Zy plies) (plies.length) [iV .i64 0] (dP.trans (dP.fD 24 0 0 2 rfl rfl rfl) (dP.trans (dP.fD 24 1 0 2 rfl rfl rfl) (dP.trans (dP.fD 24 2 0 2 rfl rfl rfl) (dP.trans (dP.fD 24 3 0 2 rfl rfl rfl) (dP.fD 24 4 0 2 rfl rfl rfl)))));(conv=>whnf);exact⟨rfl,rfl,rfl,rfl⟩;exact rfl;exact rfl;exact⟨0,by omega,rfl,rfl,⟨_,_,_,_,_,_,_,_,_,_,rfl,⟨rfl,rfl⟩,⟨rfl,rfl⟩,⟨rfl,rfl⟩,⟨rfl,rfl⟩,⟨rfl,rfl⟩⟩⟩;rintro _ _ _ ⟨i,hi,rfl,rfl,⟨k0,k1,k2,k3,k4,y0,y1,y2,y3,y4,rfl,p0,p1,p2,p3,p4⟩⟩)
  |(have hgd:=hj;clear hgd;refine aj [6,18,19,20] [(6,0),(6,1),(6,2),(6,3),(6,4)] ?_;(conv=>whnf);exact⟨rfl,_,[_],⟨i+1,by omega,rfl,by rw[bj (by omega) (by omega)];rfl,⟨_,_,_,_,_,_,_,_,_,_,rfl,p0.qk hs (by omega) _,p1.qk hs (by omega) _,p2.qk hs (by omega) _,p3.qk hs (by omega) _,p4.qk hs (by omega) _⟩⟩,rfl,rfl,by omega⟩))
 all_goals (conv=>whnf)
end Go.aS.Cd
end
section
namespace Go.aS.Cd
open Go Go.Proofs
set_option maxRecDepth 100000
set_option maxHeartbeats 4000000
def Zx (F:Nat→List Zn) (hq:HS):Prop:= ∃ (k0 k1 k2 k3 k4 k5:Nat) (y0 y1 y2 y3 y4 y5:List (List C)),hq=[(4, .row 1 [[.own 8 2 0 k0],[.own 12 2 0 k1],[.own 16 2 0 k2],[.own 20 2 0 k3],[.own 24 2 0 k4],[.own 28 2 0 k5]]),(8, .row 2 y0),(12, .row 2 y1),(16, .row 2 y2),(20, .row 2 y3),(24, .row 2 y4),(28, .row 2 y5)]∧fB k0 y0 (F 0)∧fB k1 y1 (F 1)∧fB k2 y2 (F 2)∧fB k3 y3 (F 3)∧fB k4 y4 (F 4)∧fB k5 y5 (F 5)
theorem Rn (hS:fL Tryz.prog 63 64) (e0 e1 e2 e3 e4 e5:List T) (ln wd rx ry:Int) (sizes places plies:Lz) (hy: ∀e,e∈plies→ ∃l q,e=[tI l, .av 4 q]∧BK q) (kT:plies.length≤1000000) (hB: ∀e,e∈plies→(nL 1 e).length≤1000) (hT: ∀i,(partsOf (plies.take i)).length≤100000) (ew: ∀e,e∈plies→ ∀q,q∈nL 1 e→0≤nI 0 q∧nI 0 q < 6):Tg 34 [mc ln wd rx ry sizes places plies,oL 7 [e0,e1,e2,e3,e4,e5]] (LY 6 (partsOf plies)):=by
 have hZ: ∀c:Int,(bI c (partsOf plies)).length≤100000:=fun c=>by have h1:=jI c (partsOf plies);have h2:=hT plies.length;rw[List.take_of_length_le (Nat.le_refl _)]at h2;omega
 refine aK ?_
 refine ae Tryz.func34 ?_
 repeat' (conv=>whnf
          first
  |(refine aA (fun h=>?_) (fun h=>?_))
  |(refine And.intro ⟨by simp,by simp,by simp,by simp⟩ ?_)
  |(have wK:=sV.2;have mQ:=sV.1;have ve:r1=0∨r1=1∨r1=2∨r1=3∨r1=4∨r1=5:=(by omega);clear mQ wK;rcases ve with rfl|rfl|rfl|rfl|rfl|rfl)
  |(have mQ:=AY;have A6:=h;simp at A6;have ve:k=0∨k=1∨k=2∨k=3∨k=4∨k=5:=(by omega);clear mQ A6;rcases ve with rfl|rfl|rfl|rfl|rfl|rfl)
  |(refine And.intro ⟨by simp,by simp⟩ ?_)
  |(refine au (xs:=plies) hy (by omega) (by omega) ?_;rintro _ ⟨l,ps,rfl,hq⟩ hs;have E8:=ew _ (List.mem_of_getElem? hs);have Ly:ps.length≤1000:=hB _ (List.mem_of_getElem? hs);have OO:=hT i)
  |(refine au (xs:=ps) hq (by omega) (by omega) ?_;rintro _ ⟨r1,f1,t1,a1,rfl⟩ bO;have sV:=E8 _ (List.mem_of_getElem? bO);simp only[nI,List.getElem?_cons_zero]at sV)
  |(have hb0:=p0.kP (B:=101000) (by omega);refine And.intro ⟨hb0.1.symm,by simp[aU];omega,by simp[maxLen];omega⟩ ?_)
  |(have oT:=p1.kP (B:=101000) (by omega);refine And.intro ⟨oT.1.symm,by simp[aU];omega,by simp[maxLen];omega⟩ ?_)
  |(have nw:=p2.kP (B:=101000) (by omega);refine And.intro ⟨nw.1.symm,by simp[aU];omega,by simp[maxLen];omega⟩ ?_)
  |(have OZ:=p3.kP (B:=101000) (by omega);refine And.intro ⟨OZ.1.symm,by simp[aU];omega,by simp[maxLen];omega⟩ ?_)
  |(have YI:=p4.kP (B:=101000) (by omega);refine And.intro ⟨YI.1.symm,by simp[aU];omega,by simp[maxLen];omega⟩ ?_)
  |(have Ly:=p5.kP (B:=101000) (by omega);refine And.intro ⟨Ly.1.symm,by simp[aU];omega,by simp[maxLen];omega⟩ ?_)
  |(have h6:=fH (z:=bI ((0:Nat):Int) (partsOf plies)) h eE;refine And.intro ⟨by omega,h⟩ ?_)
  |(have h6:=fH (z:=bI ((1:Nat):Int) (partsOf plies)) h eE;refine And.intro ⟨by omega,h⟩ ?_)
  |(have h6:=fH (z:=bI ((2:Nat):Int) (partsOf plies)) h eE;refine And.intro ⟨by omega,h⟩ ?_)
  |(have h6:=fH (z:=bI ((3:Nat):Int) (partsOf plies)) h eE;refine And.intro ⟨by omega,h⟩ ?_)
  |(have h6:=fH (z:=bI ((4:Nat):Int) (partsOf plies)) h eE;refine And.intro ⟨by omega,h⟩ ?_)
  |(have h6:=fH (z:=bI ((5:Nat):Int) (partsOf plies)) h eE;refine And.intro ⟨by omega,h⟩ ?_)
  |(have lV:IntKind.i64.wrap (i4 - 1)=i4 - 1:=bj (by omega) (by omega);generalize IntKind.i64.wrap (i4 - 1)=j1 at lV⊢;refine And.intro ⟨by omega,by omega⟩ ?_)
  |(refine And.intro (by kernel_rfl) ?_)
  |(refine eV [8] rfl (cS hS (bI ((0:Nat):Int) (partsOf plies)) (hZ _)) rfl (jF rfl (rfl:az _ (rZ (bI ((0:Nat):Int) (partsOf plies))))) ?_;rintro _ _ ⟨rfl,rfl⟩;obtain⟨zl,hz⟩: ∃zl,zl=cH (bI ((0:Nat):Int) (partsOf plies)):=⟨_,rfl⟩;rw[←hz];have jS:zl.length≤100000:=(by rw[hz,aO];exact hZ _);have eE:zl.length=(bI ((0:Nat):Int) (partsOf plies)).length:=(by rw[hz,aO]))
  |(refine eV [12] rfl (cS hS (bI ((1:Nat):Int) (partsOf plies)) (hZ _)) rfl (jF rfl (rfl:az _ (rZ (bI ((1:Nat):Int) (partsOf plies))))) ?_;rintro _ _ ⟨rfl,rfl⟩;obtain⟨zl,hz⟩: ∃zl,zl=cH (bI ((1:Nat):Int) (partsOf plies)):=⟨_,rfl⟩;rw[←hz];have jS:zl.length≤100000:=(by rw[hz,aO];exact hZ _);have eE:zl.length=(bI ((1:Nat):Int) (partsOf plies)).length:=(by rw[hz,aO]))
  |(refine eV [16] rfl (cS hS (bI ((2:Nat):Int) (partsOf plies)) (hZ _)) rfl (jF rfl (rfl:az _ (rZ (bI ((2:Nat):Int) (partsOf plies))))) ?_;rintro _ _ ⟨rfl,rfl⟩;obtain⟨zl,hz⟩: ∃zl,zl=cH (bI ((2:Nat):Int) (partsOf plies)):=⟨_,rfl⟩;rw[←hz];have jS:zl.length≤100000:=(by rw[hz,aO];exact hZ _);have eE:zl.length=(bI ((2:Nat):Int) (partsOf plies)).length:=(by rw[hz,aO]))
  |(refine eV [20] rfl (cS hS (bI ((3:Nat):Int) (partsOf plies)) (hZ _)) rfl (jF rfl (rfl:az _ (rZ (bI ((3:Nat):Int) (partsOf plies))))) ?_;rintro _ _ ⟨rfl,rfl⟩;obtain⟨zl,hz⟩: ∃zl,zl=cH (bI ((3:Nat):Int) (partsOf plies)):=⟨_,rfl⟩;rw[←hz];have jS:zl.length≤100000:=(by rw[hz,aO];exact hZ _);have eE:zl.length=(bI ((3:Nat):Int) (partsOf plies)).length:=(by rw[hz,aO]))
  |(refine eV [24] rfl (cS hS (bI ((4:Nat):Int) (partsOf plies)) (hZ _)) rfl (jF rfl (rfl:az _ (rZ (bI ((4:Nat):Int) (partsOf plies))))) ?_;rintro _ _ ⟨rfl,rfl⟩;obtain⟨zl,hz⟩: ∃zl,zl=cH (bI ((4:Nat):Int) (partsOf plies)):=⟨_,rfl⟩;rw[←hz];have jS:zl.length≤100000:=(by rw[hz,aO];exact hZ _);have eE:zl.length=(bI ((4:Nat):Int) (partsOf plies)).length:=(by rw[hz,aO]))
  |(refine eV [28] rfl (cS hS (bI ((5:Nat):Int) (partsOf plies)) (hZ _)) rfl (jF rfl (rfl:az _ (rZ (bI ((5:Nat):Int) (partsOf plies))))) ?_;rintro _ _ ⟨rfl,rfl⟩;obtain⟨zl,hz⟩: ∃zl,zl=cH (bI ((5:Nat):Int) (partsOf plies)):=⟨_,rfl⟩;rw[←hz];have jS:zl.length≤100000:=(by rw[hz,aO];exact hZ _);have eE:zl.length=(bI ((5:Nat):Int) (partsOf plies)).length:=(by rw[hz,aO]))
  |(refine cv (xs:=rZ zl) (az.ak (az.ak (xs:=rZ zl) rfl _) _) (xw zl) (by rw[cP];omega) ?_;first|(rintro _ ⟨a6,b6,rfl⟩ kU;have:=lU)|rintro _ ⟨a5,b5,rfl⟩ lU)
  |exact dA rfl (bP 1 rfl) (bX rfl) ⟨_,by rw[cR (r:=0) (by omega) hz (cj hi4 lV kU lU (by omega))]⟩
  |exact dA rfl (bP 1 rfl) (bX rfl) ⟨_,by rw[cR (r:=1) (by omega) hz (cj hi4 lV kU lU (by omega))]⟩
  |exact dA rfl (bP 1 rfl) (bX rfl) ⟨_,by rw[cR (r:=2) (by omega) hz (cj hi4 lV kU lU (by omega))]⟩
  |exact dA rfl (bP 1 rfl) (bX rfl) ⟨_,by rw[cR (r:=3) (by omega) hz (cj hi4 lV kU lU (by omega))]⟩
  |exact dA rfl (bP 1 rfl) (bX rfl) ⟨_,by rw[cR (r:=4) (by omega) hz (cj hi4 lV kU lU (by omega))]⟩
  |exact dA rfl (bP 1 rfl) (bX rfl) ⟨_,by rw[cR (r:=5) (by omega) hz (cj hi4 lV kU lU (by omega))]⟩
  |(have h7:((6:Nat):Int)≤k:=(by simp at h;omega);exact dA rfl (oD [(8,_,_),(12,_,_),(16,_,_),(20,_,_),(24,_,_),(28,_,_)] rfl rfl rfl rfl ⟨⟨_,rfl,rfl,(cP _).symm⟩,⟨_,rfl,rfl,(cP _).symm⟩,⟨_,rfl,rfl,(cP _).symm⟩,⟨_,rfl,rfl,(cP _).symm⟩,⟨_,rfl,rfl,(cP _).symm⟩,⟨_,rfl,rfl,(cP _).symm⟩,trivial⟩) (bX rfl) ⟨_,by rw[jl h7 hall]⟩)
  |(have hgd:=eE;clear hgd;apply aL [6,12,13,49,50,51] [(6,0),(6,1),(6,2),(6,3),(6,4),(6,5)] [13] (O8 zl) (zl.length) [iV .i64 1];(conv=>whnf);exact⟨rfl,rfl,rfl,rfl⟩;exact rfl;exact rfl;exact⟨1,by omega,by omega,by omega,rfl,qi.one zl⟩;rintro _ _ ⟨i4,hi4,Tf,rfl,rfl,nX⟩)
  |(have hgd:=h6;clear hgd;refine aj [6,12,13,49,50,51] [(6,0),(6,1),(6,2),(6,3),(6,4),(6,5)] ?_;(conv=>whnf);exact⟨rfl,_,[_],⟨i4+1,by omega,by omega,rfl,by rw[bj (by omega) (by omega)],nX.next hi4 lV kU lU (by omega)⟩,rfl,(by simp only[eJ]<;>rfl),rfl,by omega⟩)
  |(have hgd:=hs;clear hgd;apply bW [6,18,19,20,25,26,27] [(6,0),(6,1),(6,2),(6,3),(6,4),(6,5)] [27] (Of Zx (partsOf (plies.take i)) ps) (ps.length) [iV .i64 0];(conv=>whnf);exact⟨rfl,rfl,rfl,rfl⟩;exact rfl;exact rfl;exact⟨0,by omega,rfl,rfl,⟨_,_,_,_,_,_,_,_,_,_,_,_,rfl,p0.nil _,p1.nil _,p2.nil _,p3.nil _,p4.nil _,p5.nil _⟩⟩;rintro _ _ _ ⟨j,hj,rfl,rfl,⟨k0,k1,k2,k3,k4,k5,y0,y1,y2,y3,y4,y5,rfl,p0,p1,p2,p3,p4,p5⟩⟩)
  |(have hgd:=bO;clear hgd;refine aj [6,18,19,20,25,26,27] [(6,0),(6,1),(6,2),(6,3),(6,4),(6,5)] ?_;(conv=>whnf);first|exact⟨rfl,_,[_],⟨j+1,by omega,rfl,by rw[bj (by omega) (by omega)];rfl,⟨_,_,_,_,_,_,_,_,_,_,_,_,rfl,p0.hit bO (by simp) _,p1.eU bO (by decide) _,p2.eU bO (by decide) _,p3.eU bO (by decide) _,p4.eU bO (by decide) _,p5.eU bO (by decide) _⟩⟩,rfl,rfl,by omega⟩|exact⟨rfl,_,[_],⟨j+1,by omega,rfl,by rw[bj (by omega) (by omega)];rfl,⟨_,_,_,_,_,_,_,_,_,_,_,_,rfl,p0.eU bO (by decide) _,p1.hit bO (by simp) _,p2.eU bO (by decide) _,p3.eU bO (by decide) _,p4.eU bO (by decide) _,p5.eU bO (by decide) _⟩⟩,rfl,rfl,by omega⟩|exact⟨rfl,_,[_],⟨j+1,by omega,rfl,by rw[bj (by omega) (by omega)];rfl,⟨_,_,_,_,_,_,_,_,_,_,_,_,rfl,p0.eU bO (by decide) _,p1.eU bO (by decide) _,p2.hit bO (by simp) _,p3.eU bO (by decide) _,p4.eU bO (by decide) _,p5.eU bO (by decide) _⟩⟩,rfl,rfl,by omega⟩|exact⟨rfl,_,[_],⟨j+1,by omega,rfl,by rw[bj (by omega) (by omega)];rfl,⟨_,_,_,_,_,_,_,_,_,_,_,_,rfl,p0.eU bO (by decide) _,p1.eU bO (by decide) _,p2.eU bO (by decide) _,p3.hit bO (by simp) _,p4.eU bO (by decide) _,p5.eU bO (by decide) _⟩⟩,rfl,rfl,by omega⟩|exact⟨rfl,_,[_],⟨j+1,by omega,rfl,by rw[bj (by omega) (by omega)];rfl,⟨_,_,_,_,_,_,_,_,_,_,_,_,rfl,p0.eU bO (by decide) _,p1.eU bO (by decide) _,p2.eU bO (by decide) _,p3.eU bO (by decide) _,p4.hit bO (by simp) _,p5.eU bO (by decide) _⟩⟩,rfl,rfl,by omega⟩|exact⟨rfl,_,[_],⟨j+1,by omega,rfl,by rw[bj (by omega) (by omega)];rfl,⟨_,_,_,_,_,_,_,_,_,_,_,_,rfl,p0.eU bO (by decide) _,p1.eU bO (by decide) _,p2.eU bO (by decide) _,p3.eU bO (by decide) _,p4.eU bO (by decide) _,p5.hit bO (by simp) _⟩⟩,rfl,rfl,by omega⟩)
  |(have hgd:=hi;clear hgd;apply bW [6,49,50,51] [(6,0),(6,1),(6,2),(6,3),(6,4),(6,5)] [51] (Oe Zx 6 (fun r=>bI (r:Int) (partsOf plies))) (6) [iV .i64 0];(conv=>whnf);exact⟨rfl,rfl,rfl,rfl⟩;exact rfl;exact rfl;exact⟨0,by omega,by omega,rfl,rfl,⟨_,_,_,_,_,_,_,_,_,_,_,_,rfl,p0.all (by omega) _,p1.all (by omega) _,p2.all (by omega) _,p3.all (by omega) _,p4.all (by omega) _,p5.all (by omega) _⟩,fun r hr=>by omega⟩;rintro _ _ _ ⟨k,AY,fC,rfl,rfl,⟨_,_,_,_,_,_,_,_,_,_,_,_,rfl,⟨rfl,rfl⟩,⟨rfl,rfl⟩,⟨rfl,rfl⟩,⟨rfl,rfl⟩,⟨rfl,rfl⟩,⟨rfl,rfl⟩⟩,hall⟩)
  |(have hgd:=eE;clear hgd;refine aj [6,49,50,51] [(6,0),(6,1),(6,2),(6,3),(6,4),(6,5)] ?_;(conv=>whnf);first|exact⟨rfl,_,[_],⟨1,by omega,by omega,rfl,rfl,⟨_,_,_,_,_,_,_,_,_,_,_,_,rfl,fB.sort hz rfl (az.ak (az.ak (az.ak (xs:=rZ zl) rfl _) _) _),⟨rfl,az.ak (az.ak (xs:=rZ _) rfl _) _⟩,⟨rfl,az.ak (az.ak (xs:=rZ _) rfl _) _⟩,⟨rfl,az.ak (az.ak (xs:=rZ _) rfl _) _⟩,⟨rfl,az.ak (az.ak (xs:=rZ _) rfl _) _⟩,⟨rfl,az.ak (az.ak (xs:=rZ _) rfl _) _⟩⟩,ct (c:=0) hall hz (nX.all (fI (z:=bI ((0:Nat):Int) (partsOf plies)) h eE))⟩,rfl,rfl,by omega⟩|exact⟨rfl,_,[_],⟨2,by omega,by omega,rfl,rfl,⟨_,_,_,_,_,_,_,_,_,_,_,_,rfl,⟨rfl,az.ak (az.ak (xs:=rZ _) rfl _) _⟩,fB.sort hz rfl (az.ak (az.ak (az.ak (xs:=rZ zl) rfl _) _) _),⟨rfl,az.ak (az.ak (xs:=rZ _) rfl _) _⟩,⟨rfl,az.ak (az.ak (xs:=rZ _) rfl _) _⟩,⟨rfl,az.ak (az.ak (xs:=rZ _) rfl _) _⟩,⟨rfl,az.ak (az.ak (xs:=rZ _) rfl _) _⟩⟩,ct (c:=1) hall hz (nX.all (fI (z:=bI ((1:Nat):Int) (partsOf plies)) h eE))⟩,rfl,rfl,by omega⟩|exact⟨rfl,_,[_],⟨3,by omega,by omega,rfl,rfl,⟨_,_,_,_,_,_,_,_,_,_,_,_,rfl,⟨rfl,az.ak (az.ak (xs:=rZ _) rfl _) _⟩,⟨rfl,az.ak (az.ak (xs:=rZ _) rfl _) _⟩,fB.sort hz rfl (az.ak (az.ak (az.ak (xs:=rZ zl) rfl _) _) _),⟨rfl,az.ak (az.ak (xs:=rZ _) rfl _) _⟩,⟨rfl,az.ak (az.ak (xs:=rZ _) rfl _) _⟩,⟨rfl,az.ak (az.ak (xs:=rZ _) rfl _) _⟩⟩,ct (c:=2) hall hz (nX.all (fI (z:=bI ((2:Nat):Int) (partsOf plies)) h eE))⟩,rfl,rfl,by omega⟩|exact⟨rfl,_,[_],⟨4,by omega,by omega,rfl,rfl,⟨_,_,_,_,_,_,_,_,_,_,_,_,rfl,⟨rfl,az.ak (az.ak (xs:=rZ _) rfl _) _⟩,⟨rfl,az.ak (az.ak (xs:=rZ _) rfl _) _⟩,⟨rfl,az.ak (az.ak (xs:=rZ _) rfl _) _⟩,fB.sort hz rfl (az.ak (az.ak (az.ak (xs:=rZ zl) rfl _) _) _),⟨rfl,az.ak (az.ak (xs:=rZ _) rfl _) _⟩,⟨rfl,az.ak (az.ak (xs:=rZ _) rfl _) _⟩⟩,ct (c:=3) hall hz (nX.all (fI (z:=bI ((3:Nat):Int) (partsOf plies)) h eE))⟩,rfl,rfl,by omega⟩|exact⟨rfl,_,[_],⟨5,by omega,by omega,rfl,rfl,⟨_,_,_,_,_,_,_,_,_,_,_,_,rfl,⟨rfl,az.ak (az.ak (xs:=rZ _) rfl _) _⟩,⟨rfl,az.ak (az.ak (xs:=rZ _) rfl _) _⟩,⟨rfl,az.ak (az.ak (xs:=rZ _) rfl _) _⟩,⟨rfl,az.ak (az.ak (xs:=rZ _) rfl _) _⟩,fB.sort hz rfl (az.ak (az.ak (az.ak (xs:=rZ zl) rfl _) _) _),⟨rfl,az.ak (az.ak (xs:=rZ _) rfl _) _⟩⟩,ct (c:=4) hall hz (nX.all (fI (z:=bI ((4:Nat):Int) (partsOf plies)) h eE))⟩,rfl,rfl,by omega⟩|exact⟨rfl,_,[_],⟨6,by omega,by omega,rfl,rfl,⟨_,_,_,_,_,_,_,_,_,_,_,_,rfl,⟨rfl,az.ak (az.ak (xs:=rZ _) rfl _) _⟩,⟨rfl,az.ak (az.ak (xs:=rZ _) rfl _) _⟩,⟨rfl,az.ak (az.ak (xs:=rZ _) rfl _) _⟩,⟨rfl,az.ak (az.ak (xs:=rZ _) rfl _) _⟩,⟨rfl,az.ak (az.ak (xs:=rZ _) rfl _) _⟩,fB.sort hz rfl (az.ak (az.ak (az.ak (xs:=rZ zl) rfl _) _) _)⟩,ct (c:=5) hall hz (nX.all (fI (z:=bI ((5:Nat):Int) (partsOf plies)) h eE))⟩,rfl,rfl,by omega⟩)
  |(apply gn [6,18,19,20] [(6,0),(6,1),(6,2),(6,3),(6,4),(6,5)] [20] (Og Zx plies) (plies.length) [iV .i64 0] (dP.trans (dP.fD 24 0 0 2 rfl rfl rfl) (dP.trans (dP.fD 24 1 0 2 rfl rfl rfl) (dP.trans (dP.fD 24 2 0 2 rfl rfl rfl) (dP.trans (dP.fD 24 3 0 2 rfl rfl rfl) (dP.trans (dP.fD 24 4 0 2 rfl rfl rfl) (dP.fD 24 5 0 2 rfl rfl rfl))))));(conv=>whnf);exact⟨rfl,rfl,rfl,rfl⟩;exact rfl;exact rfl;exact⟨0,by omega,rfl,rfl,⟨_,_,_,_,_,_,_,_,_,_,_,_,rfl,⟨rfl,rfl⟩,⟨rfl,rfl⟩,⟨rfl,rfl⟩,⟨rfl,rfl⟩,⟨rfl,rfl⟩,⟨rfl,rfl⟩⟩⟩;rintro _ _ _ ⟨i,hi,rfl,rfl,⟨k0,k1,k2,k3,k4,k5,y0,y1,y2,y3,y4,y5,rfl,p0,p1,p2,p3,p4,p5⟩⟩)
  |(have hgd:=hj;clear hgd;refine aj [6,18,19,20] [(6,0),(6,1),(6,2),(6,3),(6,4),(6,5)] ?_;(conv=>whnf);exact⟨rfl,_,[_],⟨i+1,by omega,rfl,by rw[bj (by omega) (by omega)];rfl,⟨_,_,_,_,_,_,_,_,_,_,_,_,rfl,p0.qk hs (by omega) _,p1.qk hs (by omega) _,p2.qk hs (by omega) _,p3.qk hs (by omega) _,p4.qk hs (by omega) _,p5.qk hs (by omega) _⟩⟩,rfl,rfl,by omega⟩))
 all_goals (conv=>whnf)
end Go.aS.Cd
end
section
namespace Go.aS.Cd
open Go Go.Proofs
set_option maxRecDepth 100000
set_option maxHeartbeats 1000000
variable [BM]
abbrev zW (plies:Lz):Prop:= ∀e,e∈plies→ ∃l q,e=[tI l, .av 4 q]∧BK q
theorem yz (ah:Lz) (hr:ah.length≤6) (ln wd rx ry:Int) (sizes places plies:Lz) (hy:zW plies) (kT:plies.length≤1000000) (hB: ∀e,e∈plies→(nL 1 e).length≤1000) (hT: ∀i,(partsOf (plies.take i)).length≤100000) (ew: ∀e,e∈plies→ ∀q,q∈nL 1 e→0≤nI 0 q∧nI 0 q < (ah.length:Int)):
 Tg 34 [mc ln wd rx ry sizes places plies,oL 7 ah] (LY ah.length (partsOf plies)):=by
 match ah,hr,ew with
 | [],_,ew=>exact Rw jo ln wd rx ry sizes places plies hy kT hB hT ew
 | [e0],_,ew=>exact Ru jo e0 ln wd rx ry sizes places plies hy kT hB hT ew
 | [e0,e1],_,ew=>exact Rt jo e0 e1 ln wd rx ry sizes places plies hy kT hB hT ew
 | [e0,e1,e2],_,ew=>exact Rr jo e0 e1 e2 ln wd rx ry sizes places plies hy kT hB hT ew
 | [e0,e1,e2,e3],_,ew=>exact Rq jo e0 e1 e2 e3 ln wd rx ry sizes places plies hy kT hB hT ew
 | [e0,e1,e2,e3,e4],_,ew=>exact Rp jo e0 e1 e2 e3 e4 ln wd rx ry sizes places plies hy kT hB hT ew
 | [e0,e1,e2,e3,e4,e5],_,ew=>exact Rn jo e0 e1 e2 e3 e4 e5 ln wd rx ry sizes places plies hy kT hB hT ew
 |_::_::_::_::_::_::_::r,hr,_=>simp at hr
theorem xz {B:Nat}: ∀ {plies:Lz},(∀e,e∈plies→(nL 1 e).length≤B)→(partsOf plies).length≤plies.length * B
 | [],_=>by simp[partsOf]
 |e::r,h=>by
  have h1:=xz (plies:=r) (fun x hx=>h x (List.mem_cons_of_mem _ hx))
  have h2:=h e List.mem_cons_self
  simp only[partsOf,List.flatMap_cons,List.length_append,List.length_cons,Nat.add_mul,Nat.one_mul]at h1⊢
  omega
theorem Ck {plies:Lz} (h: ∀e,e∈plies→(nL 1 e).length≤1000) (hl:plies.length≤40) (i:Nat):(partsOf (plies.take i)).length≤100000:=by
 have h1:=xz (plies:=plies.take i) (fun e he=>h e (List.mem_of_mem_take he))
 have h2:(plies.take i).length≤40:=by rw[List.length_take];omega
 have h3:(plies.take i).length * 1000≤40 * 1000:=Nat.mul_le_mul_right _ h2
 omega
def Zh (ln wd:Int) (aC ah aR:Lz) (e:List T):Prop:=zV ln wd aC ah aR (nI 0 e) (nL 1 e)
structure SpL (ln wd:Int) (aC ah aR plies:Lz):Prop where
 cl:ClF ln wd aC ah aR
 n:plies.length≤40
 all: ∀e,e∈plies→Zh ln wd aC ah aR e
 us:xa ah.length (partsOf plies)=true
theorem MB {ln wd:Int} {aC ah aR:Lz} {e:List T} (h:Zh ln wd aC ah aR e): ∀q,q∈nL 1 e→0≤nI 0 q∧nI 0 q < (ah.length:Int):=by
 intro q hq
 obtain⟨i,hi,rfl⟩:=List.getElem_of_mem hq
 exact(h.all i _ (by simp[hi])).1.1.1
theorem yB (ln wd rx ry:Int) (sizes places plies aC ah aR:Lz) (hp:vY aC) (hR:FB ah) (BW:ah.length≤6) (hlo:Is aR) (hy:zW plies) (kT:plies.length≤1000000) (hB: ∀e,e∈plies→(nL 1 e).length≤1000):Tg 16 [mc ln wd rx ry sizes places plies,oL 1 aC,oL 7 ah,oL 1 aR] (nP (fun n=>n=0↔SpL ln wd aC ah aR plies)):=by
 refine ae Tryz.func16 ?_
 repeat' (conv=>whnf
          first
  |(refine aA (fun h=>?_) (fun h=>?_))
  |(refine bR (fun h=>?_) (fun h=>?_))
  |(refine aG (fun h=>?_) (fun h=>?_))
  |(refine au (xs:=plies) hy (by omega) (by omega) ?_;rintro _ ⟨l,ps,rfl,hps⟩ hs)
  |(refine ag rfl (oz ln wd rx ry sizes places aC ah aR hp hR (by simp only[maxLen];omega)) ?_;rintro _ ⟨n,rfl,hn⟩)
  |(refine ag rfl (qA ln wd rx ry sizes places aC ah aR hp hR (by simp only[maxLen];omega) hlo (hn.1 (by assumption)).rs.aR l ps hps (by have h3:ps.length≤1000:=hB _ (List.mem_of_getElem? hs);simp only[maxLen];omega)) ?_;rintro _ ⟨n2,rfl,S4⟩)
  |(refine ag rfl (yz ah BW ln wd rx ry sizes places plies hy kT hB (Ck hB (by omega)) (fun e he=>MB (hpre.all (by omega) e he))) ?_;rintro _ ⟨z,rfl⟩)
  |exact iK rfl rfl (iff_of_false (by assumption) (fun hh=>absurd (hn.2 hh.cl) (by assumption)))
  |exact iK rfl rfl (iff_of_false (by decide) (fun hh=>by have h1:=hh.n;omega))
  |exact iK rfl rfl (iff_of_false (by assumption) (fun hh=>absurd (S4.2 (hh.all _ (List.mem_of_getElem? hs))) (by assumption)))
  |exact iK rfl rfl (iff_of_false (by decide) (fun hh=>absurd hh.us (GG (by assumption))))
  |exact iK rfl rfl (iff_of_true rfl ⟨hn.1 (by assumption),by omega,hpre.all (by omega),gV (by assumption)⟩)
  |(apply bH [1,2,3,4,29,30,31] [] [31] [(4,7)] (VA (Zh ln wd aC ah aR) plies [[[tI ln,tI wd,tI rx,tI ry, .av 1 sizes, .av 7 places, .av 2 plies]]]) (plies.length) [iV .i64 0];(conv=>whnf);exact⟨rfl,rfl,rfl,rfl⟩;exact rfl;exact rfl;exact .cons (az.ak (xs:=[[tI ln,tI wd,tI rx,tI ry, .av 1 sizes, .av 7 places, .av 2 plies]]) rfl _) .nil;exact⟨0,by omega,Pre.zero,rfl,rfl,rfl⟩;rintro _ _ _ ⟨i,hi,hpre,rfl,rfl,rfl⟩)
  |(refine aj [1,2,3,4,29,30,31] [] ?_;(conv=>whnf);exact⟨rfl,_,[_],_, .cons (az.ak (xs:=[[tI ln,tI wd,tI rx,tI ry, .av 1 sizes, .av 7 places, .av 2 plies]]) rfl _) .nil,VA.next (by omega) (by simp only[maxLen];omega) hpre hs (S4.1 (by assumption)),rfl,rfl,by omega⟩))
 all_goals (conv=>whnf)
def HX (ah sizes places:Lz) (e:List T) (i k:Nat) (poly:Lz):List T:=
 [tI (i:Int),tI (k:Int),tI (nI 0 e),tI (nI 0 (tf sizes (nI 0 (tf places (k:Int))))), .av 1 [[tI (nI 0 (wV (nI 0 e) (nL 1 e) poly))]],tB (LH (nI 0 e) (nL 1 e) ah poly).1]
abbrev dH (xs:Lz) (i:Nat):List T:=(xs[i]?).getD []
def jq (ah sizes places aC:Lz) (e:List T) (i j:Nat):Lz:=(List.range j).map fun k=>HX ah sizes places e i k (nL 0 (dH aC k))
def fe (ah sizes places aC plies:Lz) (i:Nat):Lz:=(List.range i).flatMap fun a=>jq ah sizes places aC (dH plies a) a aC.length
def LX (ah aC:Lz) (e:List T) (k:Nat):Prop:=w6 (nI 0 e) (nL 1 e) ah (nL 0 (dH aC k))
structure T6 (pe:Int) (ln wd:Int) (aC ah aR plies:Lz):Prop where
 pe:pe=0
 sp:SpL ln wd aC ah aR plies
 ht: ∀a k,a < plies.length→k < aC.length→LX ah aC (dH plies a) k
def GPs (ah sizes places aC plies:Lz) (p:Prop) (ts:List W):Prop:= ∃bL e,ts=[oL 6 bL,oI e]∧(e=0↔p)∧(e=0→bL=fe ah sizes places aC plies plies.length)∧(¬e=0→bL=[])
def VF (row:List T) (ah sizes places aC plies:Lz) (m:Nat) (vs:List V) (xss:List (Lz)):Prop:= ∃ (i:Nat) (zs:Lz),i≤plies.length∧m=plies.length - i∧vs=[bG 8 6 zs.length,iV .i64 (i:Int)]∧xss=[[row],zs]∧zs=fe ah sizes places aC plies i∧ ∀a k,a < i→k < aC.length→LX ah aC (dH plies a) k
def VE (row:List T) (ah sizes places aC plies:Lz) (i:Nat) (m:Nat) (vs:List V) (xss:List (Lz)):Prop:= ∃ (j:Nat) (zs:Lz),j≤aC.length∧m=aC.length - j∧vs=[bG 8 6 zs.length,iV .i64 (j:Int)]∧xss=[[row],zs]∧zs=fe ah sizes places aC plies i++jq ah sizes places aC (dH plies i) i j∧ ∀k,k < j→LX ah aC (dH plies i) k
theorem sx (ah sizes places aC plies:Lz) (i:Nat):fe ah sizes places aC plies (i+1)=fe ah sizes places aC plies i++jq ah sizes places aC (dH plies i) i aC.length:=by
 simp[fe,List.range_succ]
theorem B9 (ah sizes places aC:Lz) (e:List T) (i j:Nat):jq ah sizes places aC e i (j+1)=jq ah sizes places aC e i j++[HX ah sizes places e i j (nL 0 (dH aC j))]:=by
 simp[jq,List.range_succ]
theorem Br (ah sizes places aC plies:Lz) (i:Nat):(fe ah sizes places aC plies i).length=i * aC.length:=by
 induction i with
 |zero=>simp[fe]
 |succ i ih=>rw[sx,List.length_append,ih,Nat.add_mul];simp[jq]
theorem Jq {ah sizes places aC plies zs:Lz} {i j:Nat} (hz:zs=fe ah sizes places aC plies i++jq ah sizes places aC (dH plies i) i j) (hi:i < plies.length) (hl:plies.length≤40) (jv:aC.length≤1000000) (hj:j≤aC.length):zs.length≤50000000:=by
 have h1:i * aC.length≤40 * 1000000:=Nat.mul_le_mul (by omega) jv
 have h2:zs.length=i * aC.length+j:=by rw[hz,List.length_append,Br];simp[jq]
 omega
theorem VF.next {row:List T} {ah sizes places aC plies zs:Lz} {i j:Nat} (hi:(i:Int) < (plies.length:Int)) (hl:plies.length≤40) (hj:j≤aC.length) (hj2:aC.length≤j) (jv:aC.length≤1000000) (hz:zs=fe ah sizes places aC plies i++jq ah sizes places aC (dH plies i) i j) (h1: ∀a k,a < i→k < aC.length→LX ah aC (dH plies a) k) (h2: ∀k,k < j→LX ah aC (dH plies i) k):
 VF row ah sizes places aC plies (plies.length - (i+1)) [bG 8 6 zs.length,iV .i64 (IntKind.i64.wrap ((i:Int)+1))] [[row],zs]:=by
 have e:j=aC.length:=by omega
 subst e
 refine⟨i+1,zs,by omega,rfl,by rw[bj (by omega) (by omega)];rfl,rfl,by rw[sx];exact hz,fun a k ha hk=>?_⟩
 by_cases hai:a=i
 · subst hai;exact h2 k hk
 · exact h1 a k (by omega) hk
theorem zT {xs:Lz} {i:Nat} {e:List T} (h:xs[i]? =some e):dH xs i=e:=by simp[dH,h]
theorem VE.next {row:List T} {ah sizes places aC plies zs poly:Lz} {i j n:Nat} {p q l s pJ g sz:Int} {gr:List T} {x:T} {d:Bool} {ps:Lz} (hj:(j:Int) < (aC.length:Int)) (jv:aC.length≤1000000) (hz:zs=fe ah sizes places aC plies i++jq ah sizes places aC (dH plies i) i j) (h2: ∀k,k < j→LX ah aC (dH plies i) k)
 (hy:plies[i]? =some [tI pJ, .av 4 ps]) (OS:aC[((j:Int)).toNat]? =some [.av 2 poly]) (Lp:places[((j:Int)).toNat]? =some (tI g::gr)) (hsz:sizes[g.toNat]? =some [tI sz]) (hh:w6 pJ ps ah poly) (hr:p=(i:Int)∧q=(j:Int)∧l=pJ∧s=sz∧x= .av 1 [[tI (nI 0 (wV pJ ps poly))]]∧d=(LH pJ ps ah poly).1) (hn:n=zs.length+1):
 VE row ah sizes places aC plies i (aC.length - (j+1)) [bG 8 6 n,iV .i64 (IntKind.i64.wrap ((j:Int)+1))] [[row],zs++[[tI p,tI q,tI l,tI s,x,tB d]]]:=by
 have e1:dH plies i=[tI pJ, .av 4 ps]:=zT hy
 have e2:dH aC j=[.av 2 poly]:=zT (by simpa using OS)
 have e3:tf places (j:Int)=tI g::gr:=kQ Lp
 have e4:tf sizes g=[tI sz]:=kQ hsz
 obtain⟨rfl,rfl,rfl,rfl,rfl,rfl⟩:=hr
 refine⟨j+1,_,by omega,rfl,by subst hn;rw[bj (by omega) (by omega)];simp,rfl,?_,fun k hk=>?_⟩
 · rw[B9,hz,List.append_assoc]
   congr 2
   simp only[HX,e1,e2,e3]
   show [[_,_,_,_,_,_]]=[[_,_,_,tI (nI 0 (tf sizes g)),_,_]]
   rw[e4]
   rfl
 · by_cases hkj:k=j
   · subst hkj
     unfold LX
     rw[e1,e2]
     exact hh
   · exact h2 k (by omega)
theorem MD {pe ln wd:Int} {aC ah aR plies:Lz} {i j:Nat} {pJ:Int} {ps poly:Lz} (hi:(i:Int) < (plies.length:Int)) (hj:(j:Int) < (aC.length:Int)) (hy:plies[i]? =some [tI pJ, .av 4 ps]) (OS:aC[((j:Int)).toNat]? =some [.av 2 poly]) (h:¬w6 pJ ps ah poly):¬T6 pe ln wd aC ah aR plies:=fun hh=>by
 have h1:=hh.ht i j (by omega) (by omega)
 unfold LX at h1
 rw[zT hy,zT (show aC[j]? =some [.av 2 poly] by simpa using OS)]at h1
 exact h h1
theorem MC {plies:Lz} (hy:zW plies) {i:Nat} (hi:(i:Int) < (plies.length:Int)): ∃pJ ps,plies[i]? =some [tI pJ, .av 4 ps]∧BK ps:=by
 have hlt:i < plies.length:=by omega
 obtain⟨pJ,ps,h1,h2⟩:=hy _ (List.getElem_mem hlt)
 exact⟨pJ,ps,by rw[←h1];simp[hlt],h2⟩
theorem Gw {places sizes:Lz} (hp:On places) (hz:Is sizes) (hg:C6 sizes.length places) {j:Nat} (hj:(j:Int) < (places.length:Int)): ∃g u k f q x y sz,places[((j:Int)).toNat]? =some [tI g,tI u,tI k,tB f,tI q,tI x,tI y]∧0≤g∧sizes[g.toNat]? =some [tI sz]:=by
 have hlt:j < places.length:=by omega
 obtain⟨g,u,k,f,q,x,y,h1⟩:=hp _ (List.getElem_mem hlt)
 have hs:places[j]? =some [tI g,tI u,tI k,tB f,tI q,tI x,tI y]:=by rw[←h1];simp[hlt]
 obtain⟨h2,h3⟩:=Hx hg hs
 have OX:g.toNat < sizes.length:=by omega
 obtain⟨sz,h4⟩:=hz _ (List.getElem_mem OX)
 exact⟨g,u,k,f,q,x,y,sz,by simpa using hs,h2,by rw[←h4];simp[OX]⟩
theorem vI (sn:ByteArray) (bk ms ps us ss os:Lz) (hS:iT sn bk ms ps us ss os) (ln wd rx ry:Int) (sizes places plies ah aR:Lz) (hz:Is sizes) (jS:sizes.length≤maxLen) (jv:On places) (SY:places.length≤1000000) (hR:FB ah) (BW:ah.length≤6) (hlo:Is aR) (hy:zW plies) (kT:plies.length≤1000000) (hB: ∀e,e∈plies→(nL 1 e).length≤1000) (aC:Lz) (pe:Int) (Lo:Te 15 [jt sn bk ms ps us ss os,ML ln wd rx ry sizes places] [oL 1 aC,oI pe]) (IM:pe=0→C9 sizes places bk.length aC):Tg 22 [jt sn bk ms ps us ss os,mc ln wd rx ry sizes places plies,oL 7 ah,oL 1 aR] (GPs ah sizes places aC plies (T6 pe ln wd aC ah aR plies)):=by
 refine aK ?_
 refine ae Tryz.func22 ?_
 repeat' (conv=>whnf
          first
  |(refine aA (fun h=>?_) (fun h=>?_))
  |(refine bR (fun h=>?_) (fun h=>?_))
  |(have h7:=(IM (by assumption)).2.1;refine au (xs:=aC) (IM (by assumption)).1 (by omega) (by omega) ?_;rintro _ ⟨poly,rfl,X3,X2⟩ OS;obtain⟨pJ,pp,UK,hpq⟩:=MC hy (i:=i) (by omega);have XZ:pp.length≤maxLen:=(by have h3:pp.length≤1000:=hB _ (List.mem_of_getElem? UK);simp only[maxLen];omega);obtain⟨g,u,k,f,q,x,y,sz,Lp,BS,hsz⟩:=Gw jv hz (IM (by assumption)).2.2.1 (j:=j) (by omega))
  |(have h7:=(IM (by assumption)).2.1;have h8:=(hn.1 (by assumption)).n;have h9:=Jq M8 (plies:=plies) (by omega) h8 (by omega) hj;refine And.intro ⟨by simp[tr],by simp[tr,aU];omega,by simp[tr,maxLen];omega⟩ ?_)
  |(refine ag rfl (Lo) ?_;rintro _ rfl)
  |(refine ag rfl (yB ln wd rx ry sizes places plies aC ah aR (IM (by assumption)).1 hR BW hlo hy kT hB) ?_;rintro _ ⟨n,rfl,hn⟩)
  |(refine ag rfl (td ln wd rx ry sizes places plies ah poly hR X3 X2 (i:Int) (j:Int) pJ g u k q x y sz f pp hpq XZ (by omega) (by simpa using UK) (by omega) Lp BS hsz) ?_;rintro _ ⟨p1,q1,l1,s1,x1,d1,e1,rfl,No,Th⟩)
  |exact dA rfl (bP 6 rfl) (bX rfl) ⟨_,_,rfl,iff_of_false (by assumption) (fun hh=>absurd hh.pe (by assumption)),fun h0=>absurd h0 (by assumption),fun _=>rfl⟩
  |exact dA rfl (bP 6 rfl) (bX rfl) ⟨_,_,rfl,iff_of_false (by assumption) (fun hh=>absurd (hn.2 hh.sp) (by assumption)),fun h0=>absurd h0 (by assumption),fun _=>rfl⟩
  |exact dA rfl (bP 6 rfl) (bX rfl) ⟨_,_,rfl,iff_of_false (by assumption) (MD (i:=i) (j:=j) (by omega) (by omega) UK OS (fun hh=>absurd (No.2 hh) (by assumption))),fun h0=>absurd h0 (by assumption),fun _=>rfl⟩
  |exact dA rfl (eR rfl rfl (xs:=zs) rfl (by omega)) (bX rfl) ⟨_,_,rfl,iff_of_true rfl ⟨by assumption,hn.1 (by assumption),fun a k ha hk=>hha a k (by omega) hk⟩,fun _=>by rw[fE rfl,hzs,show plies.length=i by omega],fun h=>absurd rfl h⟩
  |(apply bH [2,5,10,13,14,39,40,43,44,45] [] [13,45] [(4,7),(8,6)] (VE (EO ln wd rx ry sizes places plies) ah sizes places aC plies i) (aC.length) [bG 8 6 zs.length,iV .i64 0];(conv=>whnf);exact⟨rfl,rfl,rfl,rfl⟩;exact rfl;exact rfl;exact .cons (az.ak (xs:=[EO ln wd rx ry sizes places plies]) rfl _) (.cons (az.ak (xs:=zs) rfl _) .nil);exact⟨0,zs,by omega,rfl,rfl,rfl,by simpa[jq]using hzs,fun k hk=>by omega⟩;rintro _ _ _ ⟨j,KW,hj,rfl,rfl,rfl,M8,hhb⟩)
  |(refine aj [2,5,10,13,14,39,40,43,44,45] [] ?_;(conv=>whnf);exact⟨rfl,_,[_,_],_, .cons (az.ak (xs:=[EO ln wd rx ry sizes places plies]) rfl _) (.cons (az.ak (az.snoc (xs:=KW) rfl [tI _,tI _,tI _,tI _,_,tB _]) _) .nil),VE.next (by omega) (by have:=(IM (by assumption)).2.1;omega) M8 hhb UK OS Lp hsz (No.1 (by assumption)) (Th (by assumption)) (by simp[tr]),rfl,rfl,by omega⟩)
  |(apply eP [2,5,10,13,39,40] [] [13,40] [(4,7),(8,6)] (VF (EO ln wd rx ry sizes places plies) ah sizes places aC plies) (plies.length) [bG 8 6 0,iV .i64 0] (dP.iU 13 6 rfl);(conv=>whnf);exact⟨rfl,rfl,rfl,rfl⟩;exact rfl;exact rfl;exact .cons (az.ak (xs:=[EO ln wd rx ry sizes places plies]) rfl _) (.cons (az.ak az.nil _) .nil);exact⟨0,[],by omega,rfl,rfl,rfl,rfl,fun a k ha=>by omega⟩;rintro _ _ _ ⟨i,zs,hi,rfl,rfl,rfl,hzs,hha⟩)
  |(refine aj [2,5,10,13,39,40] [] ?_;(conv=>whnf);exact⟨rfl,_,[_,_],_, .cons (az.ak (xs:=[EO ln wd rx ry sizes places plies]) rfl _) (.cons (az.ak (xs:=KW) rfl _) .nil),VF.next (by omega) (hn.1 (by assumption)).n hj (by omega) (by have:=(IM (by assumption)).2.1;omega) M8 hha hhb,rfl,rfl,by omega⟩))
 all_goals (conv=>whnf)
end Go.aS.Cd
end
section
namespace Go.aS.Cd
open Go Go.Proofs
set_option maxRecDepth 100000
set_option maxHeartbeats 1000000
def Vu (lay:List T) (N:Nat) (m:Nat) (vs:List V) (xss:List (Lz)):Prop:= ∃i:Nat,i≤N∧m=N - i∧vs=[iV .i64 (i:Int)]∧xss=[[lay]]
theorem Vu.next {lay:List T} {N i:Nat} (hi:(i:Int) < (N:Int)) (hl:N≤maxLen):Vu lay N (N - (i+1)) [iV .i64 (IntKind.i64.wrap ((i:Int)+1))] [[lay]]:=
 ⟨i+1,by omega,rfl,by simp only[maxLen]at hl;rw[bj (by omega) (by omega)];rfl,rfl⟩
theorem L8 {xs:Lz} {e:List T} {n:Int} {K:List T→Prop} (h:xs[n.toNat]? =some e) (h0:0≤n) (hk:K e):0≤n∧ ∃e,xs[n.toNat]? =some e∧K e:=⟨h0,e,h,hk⟩
def O9 (row:List T) (N:Nat) (m:Nat) (vs:List V) (xss:List (Lz)):Prop:= ∃ (i:Nat) (s:Int),i≤N∧m=N - i∧vs=[iV .i64 s,iV .i64 (i:Int)]∧xss=[[row]]
theorem O9.next {row:List T} {N i:Nat} {s:Int} (hi:(i:Int) < (N:Int)) (hl:N≤maxLen):O9 row N (N - (i+1)) [iV .i64 s,iV .i64 (IntKind.i64.wrap ((i:Int)+1))] [[row]]:=
 ⟨i+1,s,by omega,rfl,by simp only[maxLen]at hl;rw[bj (by omega) (by omega)];rfl,rfl⟩
theorem oV (sn:ByteArray) (bk ms ps us ss os:Lz) (hS:iT sn bk ms ps us ss os) (g:Int):Tg 37 [jt sn bk ms ps us ss os,oI g] GB:=by
 have jv:=hS.jv
 have IE:=hS.IE
 refine ae Tryz.func37 ?_
 repeat' (conv=>whnf
          first
  |(refine aA (fun h=>?_) (fun h=>?_))
  |(refine L8 hs (by omega) ?_)
  |(refine au (xs:=es) jg (by omega) (by omega) ?_;rintro _ ⟨ed,ln,rfl,hed,US,alS⟩ bO)
  |(refine au (xs:=us) hS.fR (by omega) (by omega) ?_;rintro _ ⟨a,b,c,rfl⟩ IF)
  |(refine au (xs:=ps) hS.hps (by omega) (by omega) ?_;rintro _ ⟨nm,es,g2,ns,cs,ws,mt,rfl,hnm,⟨jg,hem⟩,⟨hn,hnl⟩,⟨hcs,amE⟩,hw,z7⟩ hs)
  |exact gB rfl rfl
  |(apply bH [1,2,8,9] [] [8,9] [(4,7)] (O9 (ox sn bk ms ps us ss os) us.length) (us.length) [iV .i64 0,iV .i64 0];(conv=>whnf);exact⟨rfl,rfl,rfl,rfl⟩;exact rfl;exact rfl;exact .cons (az.ak (xs:=[ox sn bk ms ps us ss os]) rfl _) .nil;exact⟨0,0,by omega,rfl,rfl,rfl⟩;rintro _ _ _ ⟨k,sm,hk,rfl,rfl,rfl⟩)
  |(refine aj [1,2,8,9] [] ?_;(conv=>whnf);exact⟨rfl,_,[_,_],_, .cons (az.ak (xs:=[ox sn bk ms ps us ss os]) rfl _) .nil,O9.next (by omega) IE,rfl,rfl,by omega⟩)
  |(apply bH [1,2,5,6,7] [] [6,7] [(4,7)] (O9 (ox sn bk ms ps us ss os) 17) (17) [iV .i64 0,iV .i64 0];(conv=>whnf);exact⟨rfl,rfl,rfl,rfl⟩;exact rfl;exact rfl;exact .cons (az.ak (xs:=[ox sn bk ms ps us ss os]) rfl _) .nil;exact⟨0,0,by omega,rfl,rfl,rfl⟩;rintro _ _ _ ⟨j,sm,hj,rfl,rfl,rfl⟩)
  |(refine aj [1,2,5,6,7] [] ?_;(conv=>whnf);exact⟨rfl,_,[_,_],_, .cons (az.ak (xs:=[ox sn bk ms ps us ss os]) rfl _) .nil,O9.next (by omega) (by decide),rfl,rfl,by omega⟩)
  |(apply bH [1,2,5] [] [5] [(4,7)] (Vu (ox sn bk ms ps us ss os) ps.length) (ps.length) [iV .i64 0];(conv=>whnf);exact⟨rfl,rfl,rfl,rfl⟩;exact rfl;exact rfl;exact .cons (az.ak (xs:=[ox sn bk ms ps us ss os]) rfl _) .nil;exact⟨0,by omega,rfl,rfl,rfl⟩;rintro _ _ _ ⟨i,hi,rfl,rfl,rfl⟩)
  |(refine aj [1,2,5] [] ?_;(conv=>whnf);exact⟨rfl,_,[_],_, .cons (az.ak (xs:=[ox sn bk ms ps us ss os]) rfl _) .nil,Vu.next (by omega) jv,rfl,rfl,by omega⟩))
 all_goals (conv=>whnf)
end Go.aS.Cd
end
section
namespace Go.aS.Cd
open Go Go.Proofs
set_option maxRecDepth 100000
set_option maxHeartbeats 1000000
variable [BM]
def Pq6 (e:List T):Prop:=(nL 1 e).length≤6
structure FwS (np nr:Nat) (plies:Lz):Prop where
 p:np≤12
 r:nr≤6
 q: ∀e,e∈plies→Pq6 e
theorem qP (plies ah:Lz) (hy:zW plies) (kT:plies.length≤maxLen) (hR:FB ah) (BW:ah.length≤maxLen):Tg 47 [oL 2 plies,oL 7 ah, .one (.t iA)] (Un (FwS plies.length ah.length plies)):=by
 refine ae Tryz.func47 ?_
 repeat' (conv=>whnf
          first
  |(refine aA (fun h=>?_) (fun h=>?_))
  |(refine au (xs:=plies) hy (by omega) (by omega) ?_;rintro _ ⟨l,q,rfl,hq⟩ hs)
  |(refine au (xs:=ah) hR (by omega) (by omega) ?_;rintro _ ⟨id,w1,l1,a2,b2,c2,fl,rfl,bJ,hfl,E6⟩ qM)
  |exact O4 rfl rfl (fun hb=>absurd hb (by decide))
  |exact O4 rfl rfl (fun _=>⟨by omega,by omega,hp.all (by omega)⟩)
  |(apply aL [2,9] [] [9] (RI 0) (0) [iV .i64 0];(conv=>whnf);exact⟨rfl,rfl,rfl,rfl⟩;exact rfl;exact rfl;exact RI.zero;rintro _ _ ⟨i3,hi3,rfl,rfl⟩)
  |(apply aL [1,2,8] [] [8] (RI ah.length) (ah.length) [iV .i64 0];(conv=>whnf);exact⟨rfl,rfl,rfl,rfl⟩;exact rfl;exact rfl;exact RI.zero;rintro _ _ ⟨i2,hi2,rfl,rfl⟩)
  |(refine aj [1,2,8] [] ?_;(conv=>whnf);exact⟨rfl,_,[_],RI.succ (N:=ah.length) (i:=i2) (by omega) BW,rfl,rfl,rfl,by omega⟩)
  |(apply aL [0,1,2,7] [] [7] (RQ Pq6 plies) (plies.length) [iV .i64 0];(conv=>whnf);exact⟨rfl,rfl,rfl,rfl⟩;exact rfl;exact rfl;exact RQ.zero;rintro _ _ ⟨i,hi,hp,rfl,rfl⟩)
  |(refine aj [0,1,2,7] [] ?_;(conv=>whnf);exact⟨rfl,_,[_],RQ.next (by omega) kT hp hs (show q.length≤6 by omega),rfl,rfl,rfl,by omega⟩))
 all_goals (conv=>whnf)
structure PI (sizes places plies ah aR:Lz):Prop where
 q:places.length≤20
 l:aR.length≤12
 f:FwS plies.length ah.length plies
theorem qO (sn:ByteArray) (bk ms ps us ss os:Lz) (hS:iT sn bk ms ps us ss os) (ln wd rx ry:Int) (sizes places plies ah aR:Lz) (hy:zW plies) (kT:plies.length≤maxLen) (hR:FB ah) (BW:ah.length≤maxLen):Tg 26 [jt sn bk ms ps us ss os,mc ln wd rx ry sizes places plies,oL 7 ah,oL 1 aR] (Un (PI sizes places plies ah aR)):=by
 refine ae Tryz.func26 ?_
 repeat' (conv=>whnf
          first
  |(refine aA (fun h=>?_) (fun h=>?_))
  |(refine aG (fun h=>?_) (fun h=>?_))
  |(refine ag rfl (oV sn bk ms ps us ss os hS _) ?_;rintro _ ⟨b1,rfl⟩)
  |(refine ag rfl (qP plies ah hy kT hR BW) ?_;rintro _ ⟨b2,rfl,nw⟩)
  |exact O4 rfl rfl (fun hb=>absurd hb (by decide))
  |exact O4 rfl rfl (fun hb=>⟨by omega,by omega,nw hb⟩))
 all_goals (conv=>whnf)
abbrev UG (sn:ByteArray) (bk ms ps us ss os:Lz) (ln wd rx ry:Int) (sizes places plies ah aR:Lz):W:=
 .agg [.t (.val (.string sn)), .t (.av 1 bk), .t (.av 1 ms), .t (.av 7 ps), .t (.av 3 us), .t (.av 6 ss), .t (.av 5 os), .t (tI ln), .t (tI wd), .t (tI rx), .t (tI ry), .t (.av 1 sizes), .t (.av 7 places), .t (.av 2 plies), .t (.av 7 ah), .t (.av 1 aR)]
abbrev ctT (sn:ByteArray) (bk ms ps us ss os:Lz) (ln wd rx ry:Int) (sizes places plies ah aR:Lz):List T:=
 [.val (.string sn), .av 1 bk, .av 1 ms, .av 7 ps, .av 3 us, .av 6 ss, .av 5 os,tI ln,tI wd,tI rx,tI ry, .av 1 sizes, .av 7 places, .av 2 plies, .av 7 ah, .av 1 aR]
theorem qQ (sn:ByteArray) (bk ms ps us ss os:Lz) (hS:iT sn bk ms ps us ss os) (ln wd rx ry:Int) (sizes places plies ah aR:Lz) (hy:zW plies) (kT:plies.length≤maxLen) (hR:FB ah) (BW:ah.length≤maxLen):Tg 8 [UG sn bk ms ps us ss os ln wd rx ry sizes places plies ah aR] (Un (PI sizes places plies ah aR)):=by
 refine ae Tryz.func8 ?_
 repeat' (conv=>whnf
          first
  |(refine ag rfl (qO sn bk ms ps us ss os hS ln wd rx ry sizes places plies ah aR hy kT hR BW) ?_;rintro _ ⟨b2,rfl,nw⟩)
  |exact O4 rfl rfl nw)
 all_goals (conv=>whnf)
structure OC (sn:ByteArray) (bk ms ps us ss os sizes places plies ah aR:Lz):Prop where
 WD:iT sn bk ms ps us ss os
 hz:Is sizes
 jS:sizes.length≤maxLen
 hp:On places
 jv:places.length≤maxLen
 hy:zW plies
 kT:plies.length≤maxLen
 hR:FB ah
 BW:ah.length≤maxLen
 hlo:Is aR
def Bw (size:Int) (c:List T):Bool:=decide (nI 3 c=size)&& !nB 5 c
def Zv (e:List T):Prop:= ∃p q l s x d,e=[tI p,tI q,tI l,tI s,x,tB d]
def VO (size:Int) (bL:Lz) (m:Nat) (vs:List V):Prop:= ∃ (i:Nat) (n:Int),i≤bL.length∧m=bL.length - i∧vs=[iV .i64 n,iV .i64 (i:Int)]∧n=((bL.take i).countP (Bw size):Int)
theorem Bv {size:Int} {bL:Lz} {i:Nat} {e:List T} (hs:bL[((i:Int)).toNat]? =some e):(bL.take (i+1)).countP (Bw size)=(bL.take i).countP (Bw size)+if Bw size e=true then 1 else 0:=by
 have hs':bL[i]? =some e:=by simpa using hs
 rw[List.take_add_one,hs',List.countP_append]
 simp[List.countP_cons]
theorem VO.hit {size p q l s:Int} {x:T} {d:Bool} {bL:Lz} {i:Nat} {n:Int} (hi:(i:Int) < (bL.length:Int)) (hl:bL.length≤1000000) (hn:n=((bL.take i).countP (Bw size):Int)) (hs:bL[((i:Int)).toNat]? =some [tI p,tI q,tI l,tI s,x,tB d]) (h1:s=size) (h2:(!d)=true):VO size bL (bL.length - (i+1)) [iV .i64 (IntKind.i64.wrap (n+1)),iV .i64 (IntKind.i64.wrap ((i:Int)+1))]:=by
 have hb:(bL.take i).countP (Bw size)≤i:=Nat.le_trans List.countP_le_length (by rw[List.length_take];omega)
 refine⟨i+1,n+1,by omega,rfl,by rw[bj (by omega) (by omega),bj (by omega) (by omega)];rfl,?_⟩
 rw[Bv hs,if_pos (by subst h1;simp[Bw,nI,nB];simpa using h2),hn]
 rfl
theorem VO.eU {size p q l s:Int} {x:T} {d:Bool} {bL:Lz} {i:Nat} {n:Int} (hi:(i:Int) < (bL.length:Int)) (hl:bL.length≤1000000) (hn:n=((bL.take i).countP (Bw size):Int)) (hs:bL[((i:Int)).toNat]? =some [tI p,tI q,tI l,tI s,x,tB d]) (h:s≠size∨(!d)=false):VO size bL (bL.length - (i+1)) [iV .i64 n,iV .i64 (IntKind.i64.wrap ((i:Int)+1))]:=by
 refine⟨i+1,n,by omega,rfl,by rw[bj (by omega) (by omega)];rfl,?_⟩
 rw[Bv hs,if_neg (by
  rcases h with h|h
  · simp[Bw,nI,h]
  · simp[Bw,nI,nB];intro _;simpa using h),hn]
 rfl
end Go.aS.Cd
end
section
namespace Go.aS.Cd
open Go Go.Proofs
set_option maxRecDepth 100000
set_option maxHeartbeats 1000000
variable [BM]
theorem uJ {ah sizes places aC plies:Lz} {n:Nat} {c:List T} (h:c∈fe ah sizes places aC plies n): ∃a k,a < n∧k < aC.length∧c=HX ah sizes places (dH plies a) a k (nL 0 (dH aC k)):=by
 simp only[fe,jq,List.mem_flatMap,List.mem_range,List.mem_map]at h
 obtain⟨a,ha,k,hk,rfl⟩:=h
 exact⟨a,k,ha,hk,rfl⟩
def szP (sizes:Lz) (e:List T):Int:=nI 0 (tf sizes (nI 0 e))
def IB (sizes:Lz) (s:Int) (e:List T):Bool:=decide (szP sizes e=s)
def Jw (c:List T):Bool:= !nB 5 c
def Jx (s:Int) (c:List T):Bool:=decide (nI 3 c < s)&& !nB 5 c
theorem lt_succ (bL:Lz) (s:Nat):bL.countP (Jx ((s:Int)+1))=bL.countP (Jx (s:Int))+bL.countP (Bw (s:Int)):=by
 induction bL with
 |nil=>rfl
 |cons c r ih=>
  simp only[List.countP_cons,ih]
  have:(if Jx ((s:Int)+1) c=true then 1 else 0)=(if Jx (s:Int) c=true then 1 else 0)+(if Bw (s:Int) c=true then 1 else 0):=by
   cases hb:nB 5 c with
   |true=>simp[Jx,Bw,hb]
   |false=>
    simp only[Jx,Bw,hb,Bool.not_false,Bool.and_true,decide_eq_true_eq]
    by_cases h1:nI 3 c < (s:Int)
    · rw[if_pos (by omega),if_pos h1,if_neg (by omega)]
    · by_cases h2:nI 3 c=(s:Int)
      · rw[if_pos (by omega),if_neg h1,if_pos h2]
      · rw[if_neg (by omega),if_neg h1,if_neg h2]
  omega
end Go.aS.Cd
end
section
namespace Go.aS
open Go
def TZ (R:TypeId→List T→Prop):List Field→List T→Prop
 | [],ts=>ts=[]
 |f::fs,ts=> ∃a b,ts=a++b∧R f.type a∧TZ R fs b
def TT (P:Program):Nat→TypeId→List T→Prop
 |0,_,_=>False
 |d+1,t,ts=>
  match P.underlying t with
  |some .bool=> ∃b,ts=[.val (.bool b)]
  |some (.int k)=> ∃n,ts=[.val (.int k n)]∧(Lit.int k n).wf=true
  |some .string=> ∃s,ts=[.val (.string s)]∧s.size≤maxLen
  |some (.slice e)=> ∃xs,ts=[.av (P.cellsOf e) xs]∧xs.length≤maxLen∧ ∀x,x∈xs→TT P d e x
  |some (.struct fs)=>TZ (TT P d) fs.toList ts
  |_=>False
def rC (P:Program):Nat→List Field→Option Nat
 |off,[]=>some off
 |off,f::r=>if f.offset=off then rC P (off+P.cellsOf f.type) r else none
def gK (P:Program):Nat→TypeId→Bool
 |0,_=>false
 |d+1,t=>
  match P.underlying t with
  |some .bool|some (.int _)|some .string=>P.cellsOf t==1
  |some (.slice e)=>P.cellsOf t==1&&decide (0 < P.cellsOf e)&&gK P d e
  |some (.struct fs)=>rC P 0 fs.toList==some (P.cellsOf t)&&fs.toList.all fun f=>gK P d f.type
  |_=>false
def LV (w:World) (ts:List T) (cs:List Value):Prop:=
 ts.length=cs.length∧ ∀ (i:Nat) (t:T) (x:Value),ts[i]? =some t→cs[i]? =some x→RT w (fun _=>False) t x
theorem LV.append {w:World} {a b:List T} {c d:List Value} (h:LV w a c) (k:LV w b d):LV w (a++b) (c++d):=by
 refine⟨by simp[h.1,k.1],fun i t x ht hx=>?_⟩
 by_cases hi:i < a.length
 · rw[List.getElem?_append_left hi]at ht
   rw[List.getElem?_append_left (by rw[←h.1];exact hi)]at hx
   exact h.2 i t x ht hx
 · rw[List.getElem?_append_right (by omega)]at ht
   rw[List.getElem?_append_right (by rw[←h.1];omega), ←h.1]at hx
   exact k.2 _ t x ht hx
theorem pI {α β:Type} {f:α→Option β}: ∀ {l:List α} {r:List β},l.mapM f=some r→r.length=l.length∧ ∀ (i:Nat) (x:α),l[i]? =some x→ ∃y,r[i]? =some y∧f x=some y
 | [],r,h=>by simp at h;subst h;simp
 |x::l,r,h=>by
  simp only[List.mapM_cons,Option.bind_eq_bind,Option.bind_eq_some_iff]at h
  obtain⟨y,hy,r',dr,h⟩:=h
  simp only[pure,Option.some.injEq]at h
  subst h
  obtain⟨h1,h2⟩:=pI dr
  refine⟨by simp[h1],fun i z hz=>?_⟩
  cases i with
  |zero=>simp only[List.getElem?_cons_zero,Option.some.injEq]at hz;subst hz;exact⟨y,rfl,hy⟩
  |succ i=>simpa using h2 i z (by simpa using hz)
theorem CS {w:World} {b off n:Nat} {cs:List Value} (h:w.cells? 0 ⟨b,off,none⟩ n=some cs):cs.length=n∧ ∀ (j:Nat) (x:Value),cs[j]? =some x→w.cell? ⟨b,off+j,none⟩=some x:=by
 unfold World.cells? at h
 simp only[Nat.zero_le,if_true]at h
 obtain⟨h1,h2⟩:=pI h
 simp only[List.length_range]at h1
 refine⟨h1,fun j x hx=>?_⟩
 have hj:j < n:=by rw[←h1];exact(List.getElem?_eq_some_iff.1 hx).1
 obtain⟨y,hy,hc⟩:=h2 j j (by simp[hj])
 rw[hx]at hy
 simp only[Option.some.injEq]at hy
 subst hy
 simpa[Addr.add_lit]using hc
theorem Ek {α:Type} (cs:List α) (off n:Nat):(cs.drop off).take n++cs.drop (off+n)=cs.drop off:=by
 rw[←List.drop_drop]
 exact List.take_append_drop n (cs.drop off)
theorem xf {H:Type} {enc:TypeId×Value→H} {P:Program} {w:World}: ∀ (d:Nat) (t:TypeId),gK P d t=true→ ∀ (fuel:Nat) (sp:Nat→Bool) (hd:Bool) (cs:List Value) (x:DataW H×List MemPlace),
 DataW.trod enc P w 0 sp hd fuel t cs=some x→cs.length=P.cellsOf t→ ∃ts,LV w ts cs∧TT P d t ts:=by
 intro d
 induction d with
 |zero=>intro t h;simp[gK]at h
 |succ d ih=>
  intro t hok fuel sp hd cs x h hlen
  cases fuel with
  |zero=>simp[DataW.trod]at h
  |succ fuel=>
   have one: ∀ {v:Value} {q:T},cs=[v]→RT w (fun _=>False) q v→LV w [q] cs:=by
    intro v q hcs hr
    subst hcs
    refine⟨rfl,fun i t x ht hx=>?_⟩
    cases i with
    |zero=>simp only[List.getElem?_cons_zero,Option.some.injEq]at ht hx;subst ht;subst hx;exact hr
    |succ i=>simp at ht
   unfold gK at hok
   unfold TT
   cases hu:P.underlying t with
   |none=>simp[hu]at hok
   |some Y3=>
    simp only[hu]at hok
    cases Y3 with
    |bool=>
     simp only[beq_iff_eq]at hok
     rw[hok]at hlen
     obtain⟨v,rfl⟩:=List.length_eq_one_iff.1 hlen
     simp only[DataW.trod,hu]at h
     cases v<;>simp at h
     exact⟨_,one rfl (.val rfl),_,rfl⟩
    |int k=>
     simp only[beq_iff_eq]at hok
     rw[hok]at hlen
     obtain⟨v,rfl⟩:=List.length_eq_one_iff.1 hlen
     simp only[DataW.trod,hu]at h
     cases v<;>simp at h
     obtain⟨⟨rfl,hwf⟩,_⟩:=h
     exact⟨_,one rfl (.val rfl),_,rfl,hwf⟩
    |string=>
     simp only[beq_iff_eq]at hok
     rw[hok]at hlen
     obtain⟨v,rfl⟩:=List.length_eq_one_iff.1 hlen
     simp only[DataW.trod,hu]at h
     cases v<;>simp at h
     exact⟨_,one rfl (.val rfl),_,rfl,h.1⟩
    |slice e=>
     simp only[Bool.and_eq_true,beq_iff_eq,decide_eq_true_eq]at hok
     obtain⟨⟨hone,hpos⟩,hde⟩:=hok
     rw[hone]at hlen
     obtain⟨v,rfl⟩:=List.length_eq_one_iff.1 hlen
     cases v with
     |slice a len cap=>
      cases a with
      |none=>
       have h0:len=0∧cap=0:=by
        cases len<;>cases cap<;>simp[DataW.trod,hu]at h<;>simp
       obtain⟨rfl,rfl⟩:=h0
       exact⟨_,one rfl (.nil (sz:=P.cellsOf e)),[],rfl,by simp,by simp⟩
      |some a=>
       simp only[DataW.trod,hu]at h
       split at h
       · rename_i hc
         obtain⟨_,hlc,hcm⟩:=hc
         simp only[Option.bind_eq_some_iff]at h
         obtain⟨elems,hel,_⟩:=h
         obtain⟨k1,k2⟩:=pI hel
         simp only[List.length_range]at k1
         by_cases hz:len=0
         · subst hz
           exact⟨_,one rfl (.nil (sz:=P.cellsOf e)),[],rfl,by simp,by simp⟩
         ·
          have Tm: ∀i,i < len→ ∃ci xi,w.cells? 0 (a.add (i * P.cellsOf e)) (P.cellsOf e)=some ci∧DataW.trod enc P w 0 sp hd fuel e ci=some xi:=by
           intro i hi
           obtain⟨y,_,hy⟩:=k2 i i (by simp[hi])
           simp only[Option.bind_eq_some_iff]at hy
           obtain⟨ci,h1,h2⟩:=hy
           exact⟨ci,y,h1,h2⟩
          have Lm:a.spot=none:=by
           obtain⟨ci,_,h1,_⟩:=Tm 0 (by omega)
           simp only[Nat.zero_mul,Addr.add_zero']at h1
           unfold World.cells? at h1
           simp only[Nat.zero_le,if_true]at h1
           obtain⟨_,q2⟩:=pI h1
           obtain⟨y,_,hy⟩:=q2 0 0 (by simp[hpos])
           simp only[Addr.add_zero']at hy
           unfold World.cell? at hy
           split at hy
           · split at hy
             · simp at hy
             · rename_i hs;simpa using hs
           · simp at hy
          obtain⟨b,off,spot⟩:=a
          simp only at Lm
          subst Lm
          have hch: ∀i, ∃ts:List T,i < len→ ∃ci,(ci.length=P.cellsOf e∧ ∀ (j:Nat) (x:Value),ci[j]? =some x→w.cell? ⟨b,off+i * P.cellsOf e+j,none⟩=some x)∧LV w ts ci∧TT P d e ts:=by
           intro i
           by_cases hi:i < len
           · obtain⟨ci,xi,h1,h2⟩:=Tm i hi
             rw[Addr.add_lit]at h1
             have hg:=CS h1
             obtain⟨ts,t1,t2⟩:=ih e hde fuel sp hd ci xi h2 hg.1
             exact⟨ts,fun _=>⟨ci,hg,t1,t2⟩⟩
           · exact⟨[],fun h=>absurd h hi⟩
          obtain⟨g,hg⟩:=Classical.axiomOfChoice hch
          have hxs: ∀ (i:Nat) (el:List T),((List.range len).map g)[i]? =some el→i < len∧el=g i:=by
           intro i el hel
           have hi:i < len:=by have:=(List.getElem?_eq_some_iff.1 hel).1;simpa using this
           simp[hi]at hel
           exact⟨hi,hel.symm⟩
          have hbs:b < w.heap.size:=by
           obtain⟨ci,⟨q1,q2⟩,_⟩:=hg 0 (by omega)
           have h0:0 < ci.length:=by rw[q1];exact hpos
           have:=q2 0 ci[0] (by simp[h0])
           rcases Nat.lt_or_ge b w.heap.size with hl|hl
           · exact hl
           · simp[World.cell?,Array.getElem?_eq_none hl]at this
          refine⟨_,one rfl (.av (sz:=P.cellsOf e) (xs:=(List.range len).map g) (fun i j=>(w.cell? ⟨b,off+i * P.cellsOf e+j,none⟩).getD undef) (by simp) hlc hbs (fun h=>h) ?_ ?_ ?_),(List.range len).map g,rfl,by simp;omega,?_⟩
          · intro el hel
            simp only[List.mem_map,List.mem_range]at hel
            obtain⟨i,hi,rfl⟩:=hel
            obtain⟨ci,q1,q2,_⟩:=hg i hi
            rw[q2.1,q1.1]
          · intro i el j c hel hj
            obtain⟨hi,rfl⟩:=hxs i el hel
            obtain⟨ci,q1,q2,_⟩:=hg i hi
            have BQ:j < ci.length:=by rw[←q2.1];exact(List.getElem?_eq_some_iff.1 hj).1
            rw[q1.2 j ci[j] (by simp[BQ])];rfl
          · intro i el j c hel hj
            obtain⟨hi,rfl⟩:=hxs i el hel
            obtain⟨ci,q1,q2,_⟩:=hg i hi
            have BQ:j < ci.length:=by rw[←q2.1];exact(List.getElem?_eq_some_iff.1 hj).1
            rw[q1.2 j ci[j] (by simp[BQ])]
            exact q2.2 j c ci[j] hj (by simp[BQ])
          · intro el hel
            simp only[List.mem_map,List.mem_range]at hel
            obtain⟨i,hi,rfl⟩:=hel
            exact(hg i hi).choose_spec.2.2
       · simp at h
     |_=>simp[DataW.trod,hu]at h
    |struct fs=>
     simp only[Bool.and_eq_true,beq_iff_eq,List.all_eq_true]at hok
     obtain⟨XF,hall⟩:=hok
     simp only[DataW.trod,hu]at h
     rw[if_pos hlen]at h
     simp only[Option.map_eq_some_iff]at h
     obtain⟨xs,hxs,_⟩:=h
     have go: ∀ (l:List Field) (off:Nat) (ys:List (DataW H×List MemPlace)),(∀f,f∈l→gK P d f.type=true)→rC P off l=some cs.length→off≤cs.length→
      l.mapM (fun f=>DataW.trod enc P w 0 sp hd fuel f.type ((cs.drop f.offset).take (P.cellsOf f.type)))=some ys→ ∃ts,LV w ts (cs.drop off)∧TZ (TT P d) l ts:=by
      intro l
      induction l with
      |nil=>
       intro off ys _ ht X7 _
       simp only[rC,Option.some.injEq]at ht
       subst ht
       exact⟨[],⟨by simp,by simp⟩,rfl⟩
      |cons f l ihl=>
       intro off ys hf ht X7 hm
       simp only[rC]at ht
       split at ht
       · rename_i hfo
         simp only[List.mapM_cons,Option.bind_eq_bind,Option.bind_eq_some_iff]at hm
         obtain⟨y,hy,ys',Xv,_⟩:=hm
         have hend:off+P.cellsOf f.type≤cs.length:=by
          have mono: ∀ (l:List Field) (o e:Nat),rC P o l=some e→o≤e:=by
           intro l
           induction l with
           |nil=>intro o e h;simp only[rC,Option.some.injEq]at h;omega
           |cons f l ih=>intro o e h;simp only[rC]at h;split at h;exact Nat.le_trans (Nat.le_add_right _ _) (ih _ _ h);simp at h
          exact mono l _ _ ht
         obtain⟨ts2,r2,t2⟩:=ihl (off+P.cellsOf f.type) ys' (fun g hg=>hf g (by simp[hg])) ht hend Xv
         rw[hfo]at hy
         obtain⟨ts1,r1,t1⟩:=ih f.type (hf f (by simp)) fuel sp hd _ y hy (by simp;omega)
         refine⟨ts1++ts2,?_,ts1,ts2,rfl,t1,t2⟩
         rw[←Ek cs off (P.cellsOf f.type)]
         exact r1.append r2
       · simp at ht
     have:=go fs.toList 0 xs (fun f hf=>hall f hf) (by rw[XF,hlen]) (Nat.zero_le _) hxs
     simpa using this
    |_=>simp at hok
end Go.aS
end
section
namespace Go.aS
open Go Go.RowKit Go.ChangeShapes Go.WideShapes
variable {H:Type} {enc:TypeId×Value→H} {P:Program}
def Le (P:Program) (t:TypeId) (ts:List T):W:=
 match iQ P t with
 |some true=> .agg (ts.map .t)
 |_=>match ts with
  | [x]=> .one (.t x)
  |_=> .agg (ts.map .t)
theorem Ie {W:World} {sp:Nat→Bool} {base d:Nat} {t:TypeId} {v:Value} {x:DataW H} {p:List MemPlace} {ρ:Env} (hok:Value.okWide P W .any base t v) (hr:DataW.Trod enc P W 0 sp true t v x p) (hd:gK P (d+1) t=true):
 ∃ts,TT P (d+1) t ts∧RW W (fun _=>False) ρ (Le P t ts) v:=by
 obtain⟨fuel,hr⟩:=hr
 unfold Value.okWide at hok
 have zp:=hd
 unfold gK at zp
 cases hu:P.underlying t with
 |none=>simp[hu]at zp
 |some Y3=>
  simp only[hu]at hok zp
  have pZ:iQ P t=some false→v.oneCell'=true→P.cellsOf t=1→ ∃ts,TT P (d+1) t ts∧RW W (fun _=>False) ρ (Le P t ts) v:=by
   intro hagg hv hone
   have hvc:v.cells.toList=[v]:=by cases v<;>simp[Value.oneCell']at hv<;>rfl
   rw[hvc]at hr
   obtain⟨ts,h1,h2⟩:=xf (d+1) t hd fuel sp true [v] _ hr (by simp[hone])
   refine⟨ts,h2,?_⟩
   have hl:ts.length=1:=by simpa using h1.1
   obtain⟨q,rfl⟩:=List.length_eq_one_iff.1 hl
   simp only[Le,hagg]
   exact⟨h1.2 0 q v rfl rfl,hv⟩
  cases Y3 with
  |struct fs=>
   simp only at hok
   obtain⟨cs,rfl,hsz,_⟩:=hok
   obtain⟨ts,h1,h2⟩:=xf (d+1) t hd fuel sp true cs.toList _ hr (by simpa using hsz)
   refine⟨ts,h2,?_⟩
   have hagg:iQ P t=some true:=by simp[iQ,hu]
   simp only[Le,hagg]
   refine⟨cs,rfl,by simpa using h1.1,fun k c x hk hx=>?_⟩
   simp only[List.getElem?_map,Option.map_eq_some_iff]at hk
   obtain⟨q,hq,rfl⟩:=hk
   have:=h1.2 k q x hq (by simpa using hx)
   exact⟨this,this.cell⟩
  |bool=>
   simp only[beq_iff_eq]at zp
   refine pZ (by simp[iQ,hu]) ?_ zp
   cases v<;>simp_all[Cell.okWide,Cell.ok,Value.oneCell']
  |int k=>
   simp only[beq_iff_eq]at zp
   refine pZ (by simp[iQ,hu]) ?_ zp
   cases v<;>simp_all[Cell.okWide,Cell.ok,Value.oneCell']
  |string=>
   simp only[beq_iff_eq]at zp
   refine pZ (by simp[iQ,hu]) ?_ zp
   cases v<;>simp_all[Cell.okWide,Cell.ok,Value.oneCell']
  |slice e=>
   simp only[Bool.and_eq_true,beq_iff_eq]at zp
   refine pZ (by simp[iQ,hu]) ?_ zp.1.1
   cases v<;>simp_all[Cell.okWide,Cell.ok,Value.oneCell']
  |_=>simp at zp
def Typed (P:Program) (d:Nat):List TypeId→List W→Prop
 | [],us=>us=[]
 |t::ts,us=> ∃a r,us=Le P t a::r∧TT P d t a∧Typed P d ts r
theorem yd {W:World} {base d:Nat} {ρ:Env}: ∀ {ts:List TypeId} {vs:List Value} {ds:List (DataW H)} {ps:List MemPlace},DataW.TrodAll enc P W 0 (fun _=>true) true ts vs ds ps→
 (∀ (j:Nat) (t:TypeId) (v:Value),ts[j]? =some t→vs[j]? =some v→Value.okWide P W .any base t v)→(∀t,t∈ts→gK P (d+1) t=true)→ ∃us,Typed P (d+1) ts us∧wY W (fun _=>False) ρ us vs
 | [],vs,ds,ps,h,_,_=>by
   obtain⟨rfl,_⟩:=trodAll_nil h
   exact⟨[],rfl,rfl,by simp⟩
 |t::ts,vs,ds,ps,h,hval,UY=>by
  obtain⟨v,vs',x,ds',p,q,rfl,rfl,rfl,h1,h2⟩:=trodAll_cons h
  obtain⟨a,ha,UO⟩:=Ie (ρ:=ρ) (hval 0 t v rfl rfl) h1 (UY t (by simp))
  obtain⟨us,hu,hl,XT⟩:=yd (ρ:=ρ) h2 (fun j t' v' ht hv=>hval (j+1) t' v' (by simpa using ht) (by simpa using hv)) (fun t' ht=>UY t' (by simp[ht]))
  refine⟨Le P t a::us,⟨a,us,rfl,ha,hu⟩,by simp[hl],fun k u y hk hy=>?_⟩
  cases k with
  |zero=>
   simp only[List.getElem?_cons_zero,Option.some.injEq]at hk hy
   subst hk
   subst hy
   exact UO
  |succ k=>exact XT k u y (by simpa using hk) (by simpa using hy)
theorem vR (hl:laidOutB P=true) {W W':World} (hb:Below W.heap.size W W'): ∀ {ts:List TypeId} {vs:List Value} {ds:List (DataW H)} {ps:List MemPlace},DataW.TrodAll enc P W 0 (fun _=>true) true ts vs ds ps→
 (∀t,t∈ts→P.readableRec t=true∧t < P.types.size)→DataW.TrodAll enc P W' 0 (fun b=>decide (b < W.heap.size)) true ts vs ds ps
 | [],vs,ds,ps,h,_=>by
   obtain⟨rfl,rfl,rfl⟩:=trodAll_nil h
   exact trodAll_mk0
 |t::ts,vs,ds,ps,h,ht=>by
  have hlt:=h.lt
  obtain⟨v,vs',x,ds',p,q,rfl,rfl,rfl,h1,h2⟩:=trodAll_cons h
  have h3:=Below.trod hl (ht t (by simp)).1 (ht t (by simp)).2 h1 hb (fun z hz=>hlt z (by simp[hz]))
  exact trodAll_cons_mk h3 (vR hl hb h2 (fun t' h'=>ht t' (by simp[h'])))
theorem zR {W W':World} (h:df (fun b=>W.heap.size≤b) W W'):Below W.heap.size W W':=
 ⟨h.os,h.tape,h.output,h.size,fun k hk=>h.block k hk (by omega)⟩
theorem EP {f:FuncId} {fn:Func} {s:ChangeSpec} {d:Nat} {W:World} {base:Nat} {args:Array Value} {ds gs:List (DataW H)} {before:List MemPlace}
 (hl:laidOutB P=true) (hvars:s.vars=[]) (hres:fn.resultTypes= #[4]) (Tq:P.underlying 4=some .bool) (SP: ∀ds:List (DataW H),ds.length=fn.params.size→(s.fn H ds).results=[.lit (.bool true)]∧(s.fn H ds).args=ds∧(s.fn H ds).vars=[])
 (UY: ∀t,t∈fn.params.toList→gK P (d+1) t=true) (hrd: ∀t,t∈fn.params.toList→P.readableRec t=true∧t < P.types.size)
 (TA: ∀us,Typed P (d+1) fn.params.toList us→Fn P f us [] (.w (.one (.t (.val (.bool true))))) [])
 (hval: ∀ (j:Nat) t v,fn.params[j]? =some t→args[j]? =some v→Value.okWide P W .any base t v)
 (Tj:zX (fun b=>W.heap.size≤b) (fun _=>False) W)
 (hW:DataW.Whole enc P fn.params.toList s.vars false W args.toList ds gs before):
 Calls P f args W fun e W'=> ∃v,e= .returned v∧s.post enc P fn false true false false W args v W':=by
 have hW':=hW
 obtain⟨p,q,hA,hV,rfl,hfz,E0⟩:=hW
 rw[hvars]at hV
 obtain⟨rfl,rfl⟩:=trodVars_none hV
 obtain⟨us,hu,XT⟩:=yd (ρ:=fun _=>none) hA (fun j t v ht hv=>hval j t v (by simpa using ht) (by simpa using hv)) UY
 have hH:HR (fun b=>o7 (fun _=>none) [] b∨W.heap.size≤b) (fun _=>False) (fun _=>none) (bt 4) [] W:=
  ⟨rfl,rfl,fun t v hv=>by simp[find]at hv,fun id b hb=>by simp[find]at hb,fun id id' b b' c hb=>by simp[find]at hb,fun _ _=>rfl,fun _ h=>h.elim,fun b hb=> .inr hb,Tj.sub (fun b hb hm=>hm.elim (fun ho=>by obtain⟨_,_,hf,_⟩:=ho;simp[find]at hf) (fun hl=>hl)) (fun _ h=>h)⟩
 refine(TA us hu W (fun _=>False) (fun _=>none) args hH XT).mono ?_
 rintro e W' ⟨x,A',ρ',F',rfl,hv,_,dJ,_,_⟩
 have hM:(fun b=>o7 (fun _=>none) [] b∨W.heap.size≤b)=fun b=>W.heap.size≤b:=by funext b;simp[o7,find]
 rw[hM]at dJ
 have hb:=zR dJ
 have hx:x= .bool true:=V.bn (u:= .w (.one (.t (.val (.bool true))))) rfl hv
 subst hx
 have hlen:ds.length=fn.params.size:=by
  have len: ∀ {ts:List TypeId} {vs:List Value} {ds:List (DataW H)} {ps:List MemPlace},DataW.TrodAll enc P W 0 (fun _=>true) true ts vs ds ps→ds.length=ts.length:=by
   intro ts
   induction ts with
   |nil=>intro vs ds ps h;obtain⟨_,rfl,_⟩:=trodAll_nil h;rfl
   |cons t ts ih=>intro vs ds ps h;obtain⟨_,_,_,_,_,_,_,rfl,_,_,h2⟩:=trodAll_cons h;simp[ih h2]
  simpa using len hA
 obtain⟨s1,s2,s3⟩:=SP (ds++[]) (by simpa using hlen)
 refine⟨_,rfl,ds,[],_,[],p,[],hW',?_,?_,?_,hb.frame _,fun h=>by simp at h⟩
 · rw[s1,hres]
   exact trodAll_mk1 ⟨1,by simp[DataW.trod,Value.cells,Tq]⟩
 · rw[s2]
   simpa using vR hl hb hA hrd
 · rw[s3,hvars]
   rfl
end Go.aS
end
section
namespace Go.aS.Cd
open Go Go.Proofs
set_option maxRecDepth 100000
set_option maxHeartbeats 1000000
def GTr (ts:List W):Prop:=ts=[oB true]
inductive Sh where
 |int
 |u8
 |bool
 |str
 |sl (cs:List Sh)
mutual
def IsT:Sh→T→Prop
 | .int,t=> ∃n,t= .val (.int .i64 n)
 | .u8,t=> ∃n:Int,t= .val (.int .u8 n)∧0≤n∧n < 256
 | .bool,t=> ∃b,t= .val (.bool b)
 | .str,t=> ∃s,t= .val (.string s)∧s.size≤maxLen
 | .sl cs,t=> ∃xs,t= .av cs.length xs∧xs.length≤maxLen∧ ∀x,x∈xs→iI cs x
def iI:List Sh→List T→Prop
 | [],ts=>ts=[]
 |s::r,ts=> ∃t q,ts=t::q∧IsT s t∧iI r q
end
def pA (f:TypeId→Option (List Sh)):List Field→Option (List Sh)
 | []=>some []
 |x::r=>match f x.type,pA f r with
  |some a,some b=>some (a++b)
  |_,_=>none
def shapeOf (P:Program):Nat→TypeId→Option (List Sh)
 |0,_=>none
 |d+1,t=>match P.underlying t with
  |some .bool=>some [.bool]
  |some (.int .i64)=>some [.int]
  |some (.int .u8)=>some [.u8]
  |some .string=>some [.str]
  |some (.slice e)=>match shapeOf P d e with
   |some cs=>if P.cellsOf e=cs.length then some [.sl cs]else none
   |none=>none
  |some (.struct fs)=>pA (shapeOf P d) fs.toList
  |_=>none
theorem iI.append: ∀ {a b:List Sh} {x y:List T},iI a x→iI b y→iI (a++b) (x++y)
 | [],b,x,y,h,k=>by simp only[iI]at h;subst h;exact k
 |s::r,b,x,y,h,k=>by
  obtain⟨t,q,rfl,h1,h2⟩:=h
  exact⟨t,q++y,rfl,h1,h2.append k⟩
theorem pz {P:Program}: ∀ {d:Nat} {t:TypeId} {ts:List T} {eK:List Sh},TT P d t ts→shapeOf P d t=some eK→iI eK ts
 |0,t,ts,eK,h,_=>h.elim
 |d+1,t,ts,eK,h,hs=>by
  have fields: ∀ {fs:List Field} {ts:List T} {eK:List Sh},TZ (TT P d) fs ts→pA (shapeOf P d) fs=some eK→iI eK ts:=by
   intro fs
   induction fs with
   |nil=>
    intro ts eK h hs
    simp only[pA,Option.some.injEq]at hs
    subst hs
    simpa[iI,TZ]using h
   |cons f r ih=>
    intro ts eK h hs
    obtain⟨a,b,rfl,h1,h2⟩:=h
    simp only[pA]at hs
    split at hs
    · rename_i x y hx hy
      simp only[Option.some.injEq]at hs
      subst hs
      exact(pz h1 hx).append (ih h2 hy)
    · simp at hs
  simp only[TT]at h
  simp only[shapeOf]at hs
  split at h
  · rename_i hu
    simp only[hu,Option.some.injEq]at hs
    subst hs
    obtain⟨b,rfl⟩:=h
    exact⟨_,_,rfl,⟨b,rfl⟩,rfl⟩
  · rename_i k hu
    obtain⟨n,rfl,hw⟩:=h
    cases k<;>simp only[hu]at hs<;>simp at hs<;>subst hs
    all_goals first
     |exact⟨_,_,rfl,⟨n,rfl⟩,rfl⟩
     |(refine⟨_,_,rfl,⟨n,rfl,?_⟩,rfl⟩
       simp only[Lit.wf,Bool.and_eq_true,decide_eq_true_eq]at hw
       have h1:(0:Int)≤n:=hw.1
       have h2:n≤(255:Int):=hw.2
       exact⟨h1,by omega⟩)
  · rename_i hu
    simp only[hu,Option.some.injEq]at hs
    subst hs
    obtain⟨s,rfl,hs⟩:=h
    exact⟨_,_,rfl,⟨s,rfl,hs⟩,rfl⟩
  · rename_i e hu
    simp only[hu]at hs
    obtain⟨xs,rfl,h1,h2⟩:=h
    split at hs
    · rename_i cs hcs
      split at hs
      · rename_i hlen
        simp only[Option.some.injEq]at hs
        subst hs
        exact⟨_,_,rfl,⟨xs,by rw[hlen],h1,fun x hx=>pz (h2 x hx) hcs⟩,rfl⟩
      · simp at hs
    · simp at hs
  · rename_i fs hu
    simp only[hu]at hs
    exact fields h hs
  · exact h.elim
abbrev LJ:List Sh:=[.str, .sl [.int, .int]]
abbrev Cj:List Sh:=[.str, .sl LJ, .int, .sl [.int, .int], .sl [.int, .int], .sl [.int], .bool]
abbrev W5:List Sh:=[.str, .int, .int, .sl [.int], .sl [.int]]
abbrev Gh:List Sh:=[.int, .int, .int, .int, .bool, .int]
abbrev Ci:List Sh:=[.int, .int, .int, .bool, .int, .int, .int]
abbrev Jp:List Sh:=[.int, .sl [.int, .int, .int, .int]]
abbrev bdS:List Sh:=[.int, .int, .int, .int, .int, .int]
abbrev ctS:List Sh:=[.int, .int, .int, .int, .sl [.int], .bool]
abbrev grS:List Sh:=[.int, .int, .int, .int, .sl [.int]]
abbrev afP:List Sh:=[.str, .sl [.str], .sl [.int], .sl Cj, .sl [.int, .int, .bool], .sl Gh, .sl W5, .int, .int, .int, .int, .sl [.int], .sl Ci, .sl Jp, .sl bdS, .sl ctS]
theorem Xm {e:List T} (h:iI [.int] e):IsI e:=by
 obtain⟨_,_,rfl,⟨a,rfl⟩,rfl⟩:=h
 exact⟨a,rfl⟩
theorem ET {xs:Lz} (h: ∀x,x∈xs→iI [.int] x):Is xs:=fun e he=>Xm (h e he)
theorem Mo {xs:Lz} (h: ∀x,x∈xs→iI [.int, .int] x):bZ xs:=fun e he=>by
 obtain⟨_,_,rfl,⟨a,rfl⟩,_,_,rfl,⟨b,rfl⟩,rfl⟩:=h e he
 exact⟨a,b,rfl⟩
theorem WG {xs:Lz} (h: ∀x,x∈xs→iI [.str] x):T0 xs:=fun e he=>by
 obtain⟨_,_,rfl,⟨a,rfl,ha⟩,rfl⟩:=h e he
 exact⟨a,rfl,ha⟩
theorem NU {xs:Lz} (h: ∀x,x∈xs→iI LJ x):jD xs:=fun e he=>by
 obtain⟨_,_,rfl,⟨s,rfl,hs⟩,_,_,rfl,⟨ys,rfl,hl,hy⟩,rfl⟩:=h e he
 exact⟨s,ys,rfl,hs,Mo hy,hl⟩
theorem WV {xs:Lz} (h: ∀x,x∈xs→iI Cj x): ∀e,e∈xs→KM e:=fun e he=>by
 obtain⟨_,_,rfl,⟨s,rfl,hs⟩,_,_,rfl,⟨es,rfl,hel,jg⟩,_,_,rfl,⟨g,rfl⟩,_,_,rfl,⟨ns,rfl,hnl,X8⟩,_,_,rfl,⟨cs,rfl,ew,hcs⟩,_,_,rfl,⟨ws,rfl,z7,EW⟩,_,_,rfl,⟨m,rfl⟩,rfl⟩:=h e he
 exact⟨s,es,g,ns,cs,ws,m,rfl,hs,⟨NU jg,hel⟩,⟨Mo X8,hnl⟩,⟨Mo hcs,ew⟩,ET EW,z7⟩
theorem Wz {xs:Lz} (h: ∀x,x∈xs→iI [.int, .int, .bool] x): ∀e,e∈xs→Ue e:=fun e he=>by
 obtain⟨_,_,rfl,⟨a,rfl⟩,_,_,rfl,⟨b,rfl⟩,_,_,rfl,⟨c,rfl⟩,rfl⟩:=h e he
 exact⟨a,b,c,rfl⟩
theorem WM {xs:Lz} (h: ∀x,x∈xs→iI Gh x): ∀e,e∈xs→Ug e:=fun e he=>by
 obtain⟨_,_,rfl,⟨a,rfl⟩,_,_,rfl,⟨b,rfl⟩,_,_,rfl,⟨c,rfl⟩,_,_,rfl,⟨d,rfl⟩,_,_,rfl,⟨q,rfl⟩,_,_,rfl,⟨f,rfl⟩,rfl⟩:=h e he
 exact⟨a,b,c,d,q,f,rfl⟩
theorem W4 {xs:Lz} (h: ∀x,x∈xs→iI W5 x): ∀e,e∈xs→Ui e:=fun e he=>by
 obtain⟨_,_,rfl,⟨s,rfl,hs⟩,_,_,rfl,⟨a,rfl⟩,_,_,rfl,⟨b,rfl⟩,_,_,rfl,⟨af,rfl,JZ,haf⟩,_,_,rfl,⟨us,rfl,IE,fR⟩,rfl⟩:=h e he
 exact⟨s,a,b,af,us,rfl,hs,⟨ET haf,JZ⟩,ET fR,IE⟩
theorem WU {xs:Lz} (h: ∀x,x∈xs→iI Ci x):On xs:=fun e he=>by
 obtain⟨_,_,rfl,⟨a,rfl⟩,_,_,rfl,⟨b,rfl⟩,_,_,rfl,⟨c,rfl⟩,_,_,rfl,⟨d,rfl⟩,_,_,rfl,⟨q,rfl⟩,_,_,rfl,⟨f,rfl⟩,_,_,rfl,⟨g,rfl⟩,rfl⟩:=h e he
 exact⟨a,b,c,d,q,f,g,rfl⟩
theorem ajX {xs:Lz} (h: ∀x,x∈xs→iI Jp x):Pys xs:=fun e he=>by
 obtain⟨_,_,rfl,⟨a,rfl⟩,_,_,rfl,⟨q,rfl,_⟩,rfl⟩:=h e he
 exact⟨a,q,rfl⟩
end Go.aS.Cd
end
section
namespace Go.aS.Cd
open Go Go.Proofs
set_option maxRecDepth 100000
set_option maxHeartbeats 1000000
abbrev K7:List Sh:=[.str, .int, .int, .int, .int, .int, .sl [.int, .int, .int, .int]]
abbrev N0:List Sh:=[.str, .sl [.str], .sl [.int], .sl Cj, .sl [.int, .int, .bool], .sl Gh, .sl W5, .int, .int, .int, .int, .sl [.int], .sl Ci, .sl Jp, .sl K7, .sl [.int]]
theorem RR {xs:Lz} (h: ∀x,x∈xs→iI [.int, .int, .int, .int] x):BK xs:=fun e he=>by
 obtain⟨_,_,rfl,⟨a,rfl⟩,_,_,rfl,⟨b,rfl⟩,_,_,rfl,⟨c,rfl⟩,_,_,rfl,⟨d,rfl⟩,rfl⟩:=h e he
 exact⟨a,b,c,d,rfl⟩
theorem WT {xs:Lz} (h: ∀x,x∈xs→iI Jp x):zW xs:=fun e he=>by
 obtain⟨_,_,rfl,⟨a,rfl⟩,_,_,rfl,⟨q,rfl,_,hq⟩,rfl⟩:=h e he
 exact⟨a,q,rfl,RR hq⟩
theorem WQ {xs:Lz} (h: ∀x,x∈xs→iI K7 x):FB xs:=fun e he=>by
 obtain⟨_,_,rfl,⟨s,rfl,hs⟩,_,_,rfl,⟨a,rfl⟩,_,_,rfl,⟨b,rfl⟩,_,_,rfl,⟨c,rfl⟩,_,_,rfl,⟨d,rfl⟩,_,_,rfl,⟨g,rfl⟩,_,_,rfl,⟨fl,rfl,hl,hf⟩,rfl⟩:=h e he
 exact⟨s,a,b,c,d,g,fl,rfl,hs,RR hf,hl⟩
theorem TL {x:List T} (h:iI N0 x): ∃ (sn:ByteArray) (bk ms ps us ss os:Lz) (ln wd rx ry:Int) (sizes places plies ah aR:Lz),x=ctT sn bk ms ps us ss os ln wd rx ry sizes places plies ah aR∧OC sn bk ms ps us ss os sizes places plies ah aR∧bk.length≤maxLen:=by
 obtain⟨_,_,rfl,⟨sn,rfl,G8⟩,_,_,rfl,⟨bk,rfl,l1,m1⟩,_,_,rfl,⟨ms,rfl,l2,m2⟩,_,_,rfl,⟨ps,rfl,l3,m3⟩,_,_,rfl,⟨us,rfl,l4,m4⟩,_,_,rfl,⟨ss,rfl,l5,m5⟩,_,_,rfl,⟨os,rfl,l6,m6⟩,
  _,_,rfl,⟨ln,rfl⟩,_,_,rfl,⟨wd,rfl⟩,_,_,rfl,⟨rx,rfl⟩,_,_,rfl,⟨ry,rfl⟩,_,_,rfl,⟨sizes,rfl,l7,m7⟩,_,_,rfl,⟨places,rfl,l8,m8⟩,_,_,rfl,⟨plies,rfl,l9,m9⟩,_,_,rfl,⟨ah,rfl,FI,m10⟩,_,_,rfl,⟨aR,rfl,Xk,m11⟩,rfl⟩:=h
 exact⟨sn,bk,ms,ps,us,ss,os,ln,wd,rx,ry,sizes,places,plies,ah,aR,rfl,⟨⟨G8,WG m1,l1,ET m2,l2,WV m3,l3,Wz m4,l4,WM m5,l5,W4 m6,l6⟩,ET m7,l7,WU m8,l8,WT m9,l9,WQ m10,FI,ET m11⟩,l1⟩
abbrev C8:Prop:=Te 9 [] [oB true]
end Go.aS.Cd
end
section
namespace Go.aS
open Go
variable {P:Program}
theorem Ee {t:TypeId} {cs:List C} (h:iR P t=some cs) (ha:(match P.info? t with|some i=>(match i.zero with|some (.agg _)=>true|_=>false)|none=>false)=true) (w:World) (A:Nat→Prop) (ρ:Env):
 ∃z,(zeroValue t).run P w= .ok z w∧RW w A ρ (.agg cs) z:=by
 obtain⟨i,z,h1,h2,h3,h4,h5⟩:=ec h w A ρ
 rw[h1]at ha
 simp only[h2]at ha
 cases z with
 |agg vs=>exact⟨_,di h1 h2 w,vs,rfl,h5⟩
 |_=>simp at ha
theorem Cn {n ctr:Nat} {t ty kt et:TypeId} {m k:Operand} {tm:TS} {hp:HS} {id clock:Nat} {es:cz} {kv:Value} {u:W} (hm:Gt n tm m= .w (.one (.map id))) (hk:(Gt n tm k).val? =some kv) (hu:P.underlying t=some (.map kt et)) (hf:find hp id=some (.mp es clock))
 (oR:gX P es.isEmpty kt kv es=some none) (hz: ∀ (w:World) (A:Nat→Prop) (ρ:Env), ∃z,(zeroValue et).run P w= .ok z w∧RW w A ρ u z):gR P n (.lookup t m k true) ty tm hp ctr (.dQ [u,bT false]) hp:=by
 rintro⟨dst',op',ty',pos',after',guard'⟩ rfl rfl
 intro M A ρ a w hr
 have vm:=hr.get m
 rw[jx,hm]at vm
 have vk:=V.bn hk (by have:=hr.get k;rw[jx]at this;exact this)
 obtain⟨b,en,q1,q2,q3,q4,q5⟩:=gF hr hf vm
 obtain⟨c1,o2,c2,c3,c4⟩:=dl oR (fo (id:=id) (clock:=clock) q4 q5) w
 cases o2 with
 |some p=>simp at c3
 |none=>
  obtain⟨z,M9,sU⟩:=hz w A ρ
  have hrun:(execOp a.eval ⟨dst', .lookup t m k true,ty',pos',after',guard'⟩).run P w= .ok (.value (.tuple #[z, .bool false])) w:=by
   simp only[execOp,Instr.lookup,Sem.run_bind,run_underlying hu,Result.andThen_ok,q2,nG q3,Sem.run_pure,vk,ej q4,c1,c2,M9,if_true]
  exact⟨_,w,A,ρ, .inl hrun,hr.sub cK,B3 sU,df.refl _ _,cU.refl _,bE.refl _ _⟩
theorem FR {n ctr:Nat} {t ty kt et:TypeId} {m k:Operand} {tm:TS} {hp:HS} {id clock:Nat} {es:cz} {kv:Value} {u:W} {Kd:Value→Prop} {K:V→HS→Prop} (hm:Gt n tm m= .w (.one (.map id))) (hf:find hp id=some (.mp es clock)) (hk:(Gt n tm k).val? =some kv) (hu:P.underlying t=some (.map kt et))
 (hz: ∀ (w:World) (A:Nat→Prop) (ρ:Env), ∃z,(zeroValue et).run P w= .ok z w∧RW w A ρ u z) (hK:gZ P kt Kd) (hkv:Kd kv) (jg: ∀p,p∈es→Kd p.1) (h1: ∀ (i:Nat) (p:Value×C×Nat),es[i]? =some p→p.1=kv→K (.dQ [cw p.2.1,bT true]) hp) (h2:(∀p,p∈es→p.1≠kv)→K (.dQ [u,bT false]) hp):
 ∃v aF,gR P n (.lookup t m k true) ty tm hp ctr v aF∧K v aF:=by
 rcases hK.at_ es kv es.isEmpty jg hkv with⟨h3,h4⟩|⟨i,⟨k0,c,born⟩,h3,h4,h5⟩
 · exact⟨_,_,Cn hm hk hu hf h3 hz,h2 h4⟩
 · exact⟨_,_,uL hm hk hu hf h3 h4,by simpa using h1 i _ h4 h5⟩
end Go.aS
namespace Go.aS.Cd
open Go Go.Proofs
set_option maxRecDepth 100000
set_option maxHeartbeats 1000000
def iD (a b:Int):Value:= .agg #[.int .i64 a, .int .i64 b]
def Zp (v:Value):Prop:= ∃a b,v=iD a b
theorem F9: ∃d,Tryz.prog.underlying 98=some (.struct d):=by
 have h:(match Tryz.prog.underlying 98 with|some (.struct _)=>true|_=>false)=true:=by kernel_rfl
 split at h
 · rename_i d hd;exact⟨d,hd⟩
 · simp at h
theorem sb2 (k:Nat) (a b:Int):Instr.sameBits (k+1) (iD a b) (iD a b)=true:=by
 simp[Instr.sameBits,iD]
theorem kG {a b c d:Int}:iD a b=iD c d↔a=c∧b=d:=by
 simp[iD]
theorem Sy:gZ Tryz.prog 98 Zp:=by
 obtain⟨d,hd⟩:=F9
 refine xJ hd ?_ ?_ ?_ ?_
 · rintro e _ ⟨a,b,rfl⟩
   exact⟨(),by cases e<;>kernel_rfl⟩
 · rintro _ _ ⟨a,b,rfl⟩ ⟨a',b',rfl⟩
   rfl
 · rintro _ _ ⟨a,b,rfl⟩ ⟨a',b',rfl⟩
   have h:=(jp (P:=Tryz.prog) (t:=98) (ks:=[0,0]) (cs:=[.t (tI a), .t (tI b)]) (ds:=[.t (tI a'), .t (tI b')]) (vs:=[.int .i64 a, .int .i64 b]) (us:=[.int .i64 a', .int .i64 b']) (b:=(a==a')&& ((b==b')&&true)) (by kernel_rfl) rfl rfl rfl).1
   refine⟨_,h,?_⟩
   rw[kG]
   simp only[Bool.and_true,Bool.and_eq_true,beq_iff_eq]
   exact⟨fun⟨p,q⟩=>⟨p.symm,q.symm⟩,fun⟨p,q⟩=>⟨p.symm,q.symm⟩⟩
 · rintro _ ⟨a,b,rfl⟩
   exact sb2 9999 a b
theorem uMC:Tryz.prog.underlying 96=some (.map 98 53):=by kernel_rfl
theorem WB:Tryz.prog.underlying 99=some (.map 98 3):=by kernel_rfl
abbrev PM:List C:=[.t (tI 0), .t (tI 0), .t (tI 0), .t (tI 0), .t (.val (.slice none 0 0)), .t (tB false)]
theorem Wj (w:World) (A:Nat→Prop) (ρ:Env): ∃z,(zeroValue 53).run Tryz.prog w= .ok z w∧RW w A ρ (.agg PM) z:=
 Ee (by kernel_rfl) (by kernel_rfl) w A ρ
def ZM (p:Prop) (ts:List W):Prop:= ∃b,ts=[oB b]∧(b=true↔p)
def Ks (xs ys:Lz) (m:Nat) (vs:List V):Prop:= ∃i:Nat,i≤xs.length∧m=xs.length - i∧vs=[iV .i64 (i:Int)]∧ ∀j:Nat,j < i→xs[j]? =ys[j]?
theorem Ks.next {xs ys:Lz} {i:Nat} {e e':List T} (h:(i:Int) < (xs.length:Int)) (hl:xs.length≤maxLen) (hp: ∀j:Nat,j < i→xs[j]? =ys[j]?) (hs:xs[((i:Int)).toNat]? =some e) (bO:ys[((i:Int)).toNat]? =some e') (he:e=e'):Ks xs ys (xs.length - (i+1)) [iV .i64 (IntKind.i64.wrap ((i:Int)+1))]:=by
 simp only[maxLen]at hl
 refine⟨i+1,by omega,rfl,by rw[bj (by omega) (by omega)];rfl,fun j hj=>?_⟩
 by_cases eF:j=i
 · subst eF
   rw[Int.toNat_natCast]at hs bO
   rw[hs,bO,he]
 · exact hp j (by omega)
theorem Ks.eq {xs ys:Lz} {i:Nat} (hl:(xs.length:Int)=(ys.length:Int)) (hi:¬ (i:Int) < (xs.length:Int)) (hp: ∀j:Nat,j < i→xs[j]? =ys[j]?):xs=ys:=by
 apply List.ext_getElem?
 intro k
 by_cases hk:k < i
 · exact hp k hk
 · rw[List.getElem?_eq_none (by omega),List.getElem?_eq_none (by omega)]
theorem GK {xs ys:Lz} (h:¬ (xs.length:Int)=(ys.length:Int)):¬xs=ys:=fun e=>h (by rw[e])
theorem Lc {xs ys:Lz} {n:Nat} {e e':List T} (h1:xs[n]? =some e) (h2:ys[n]? =some e') (h:¬e=e'):¬xs=ys:=fun he=>h (by rw[he,h2]at h1;injection h1 with h1;exact h1.symm)
theorem Mk {a b:Int} (h:¬a=b):¬ ([tI a]:List T)=[tI b]:=fun e=>h (by simpa using e)
theorem pu (xs ys:Lz) (hx:Is xs) (hy:Is ys) (hl:xs.length≤maxLen):Tg 49 [oL 1 xs,oL 1 ys] (ZM (xs=ys)):=by
 refine ae Tryz.func49 ?_
 repeat' (conv=>whnf
          first
  |(refine aA (fun h=>?_) (fun h=>?_))
  |(refine bR (fun h=>?_) (fun h=>?_))
  |(refine au (xs:=xs) hx (by omega) (by omega) ?_;rintro _ ⟨a,rfl⟩ hs)
  |(refine au (xs:=ys) hy (by omega) (by omega) ?_;rintro _ ⟨b,rfl⟩ bO)
  |(refine And.intro (by kernel_rfl) ?_)
  |exact g1 rfl rfl ⟨_,rfl,iff_of_false (by decide) (GK (by assumption))⟩
  |exact g1 rfl rfl ⟨_,rfl,iff_of_false (by decide) (Lc hs bO (Mk (by assumption)))⟩
  |exact g1 rfl rfl ⟨_,rfl,iff_of_true rfl (Ks.eq (by assumption) (by assumption) hp)⟩
  |(apply aL [0,1,12,13] [] [13] (Ks xs ys) (xs.length) [iV .i64 0];(conv=>whnf);exact⟨rfl,rfl,rfl,rfl⟩;exact rfl;exact rfl;exact⟨0,by omega,rfl,rfl,fun j hj=>by omega⟩;rintro _ _ ⟨i,hi,rfl,rfl,hp⟩)
  |(refine aj [0,1,12,13] [] ?_;(conv=>whnf);exact⟨rfl,_,[_],Ks.next (by omega) hl hp hs bO (by subst h;rfl),rfl,rfl,rfl,by omega⟩))
 all_goals (conv=>whnf)
theorem wS (p q l s p2 q2 l2 s2:Int) (rs Eu:Lz) (d d2:Bool) (hr:Is rs) (qN:Is Eu) (hl:rs.length≤maxLen):Tg 29 [MM p q l s (.av 1 rs) d,MM p2 q2 l2 s2 (.av 1 Eu) d2] (ZM (p=p2∧q=q2∧l=l2∧s=s2∧d=d2∧rs=Eu)):=by
 refine ae Tryz.func29 ?_
 repeat' (conv=>whnf
          first
  |(refine aA (fun h=>?_) (fun h=>?_))
  |(refine ag rfl (pu rs Eu hr qN hl) ?_;rintro _ ⟨bq,rfl,hq⟩)
  |exact g1 rfl rfl ⟨_,rfl,iff_of_false (by decide) (fun hh=>absurd hh.1 (by assumption))⟩
  |exact g1 rfl rfl ⟨_,rfl,iff_of_false (by decide) (fun hh=>absurd hh.2.1 (by assumption))⟩
  |exact g1 rfl rfl ⟨_,rfl,iff_of_false (by decide) (fun hh=>absurd hh.2.2.1 (by assumption))⟩
  |exact g1 rfl rfl ⟨_,rfl,iff_of_false (by decide) (fun hh=>absurd hh.2.2.2.1 (by assumption))⟩
  |exact g1 rfl rfl ⟨_,rfl,iff_of_false (by decide) (fun hh=>absurd hh.2.2.2.2.1 (by assumption))⟩
  |exact g1 rfl rfl ⟨_,rfl,⟨fun hb=>⟨by assumption,by assumption,by assumption,by assumption,by assumption,hq.1 hb⟩,fun hh=>hq.2 hh.2.2.2.2.2⟩⟩)
 all_goals (conv=>whnf)
def Ov (e:List T):Prop:= ∃a b c,e=[tI a,tI b,tI c]
theorem SE {a b c a' b' c':Int} (h:(!((a==a')&& ((b==b')&& ((c==c')&&true))))=false): [tI a,tI b,tI c]=([tI a',tI b',tI c']:List T):=by
 simp at h
 obtain⟨rfl,rfl,rfl⟩:=h
 rfl
theorem SD {a b c a' b' c':Int} (h:(!((a==a')&& ((b==b')&& ((c==c')&&true))))=true):¬ [tI a,tI b,tI c]=([tI a',tI b',tI c']:List T):=by
 intro e
 simp at e
 obtain⟨rfl,rfl,rfl⟩:=e
 simp at h
theorem kK (xs ys:Lz) (hx: ∀e,e∈xs→Ov e) (hy: ∀e,e∈ys→Ov e) (hl:xs.length≤maxLen):Tg 11 [oL 3 xs,oL 3 ys] (ZM (xs=ys)):=by
 refine ae Tryz.func11 ?_
 repeat' (conv=>whnf
          first
  |(refine aA (fun h=>?_) (fun h=>?_))
  |(refine bR (fun h=>?_) (fun h=>?_))
  |(refine aG (fun h=>?_) (fun h=>?_))
  |(refine au (xs:=xs) hx (by omega) (by omega) ?_;rintro _ ⟨a,a2,a3,rfl⟩ hs)
  |(refine au (xs:=ys) hy (by omega) (by omega) ?_;rintro _ ⟨b,b2,b3,rfl⟩ bO)
  |(refine And.intro (by kernel_rfl) ?_)
  |exact g1 rfl rfl ⟨_,rfl,iff_of_false (by decide) (GK (by assumption))⟩
  |exact g1 rfl rfl ⟨_,rfl,iff_of_false (by decide) (Lc hs bO (SD (by assumption)))⟩
  |exact g1 rfl rfl ⟨_,rfl,iff_of_true rfl (Ks.eq (by assumption) (by assumption) hp)⟩
  |(apply aL [0,1,5] [] [5] (Ks xs ys) (xs.length) [iV .i64 0];(conv=>whnf);exact⟨rfl,rfl,rfl,rfl⟩;exact rfl;exact rfl;exact⟨0,by omega,rfl,rfl,fun j hj=>by omega⟩;rintro _ _ ⟨i,hi,rfl,rfl,hp⟩)
  |(refine aj [0,1,5] [] ?_;(conv=>whnf);exact⟨rfl,_,[_],Ks.next (by omega) hl hp hs bO (SE h),rfl,rfl,rfl,by omega⟩))
 all_goals (conv=>whnf)
end Go.aS.Cd
end
section
namespace Go.aS.Cd
open Go Go.Proofs
set_option maxRecDepth 100000
set_option maxHeartbeats 2000000
def FC (e:List T):Prop:= ∃p q l s rs d,e=[tI p,tI q,tI l,tI s, .av 1 rs,tB d]∧Is rs∧rs.length≤maxLen
abbrev IR (xs:Lz):Prop:= ∀e,e∈xs→FC e
def kC (c:List T):Value:=iD (nI 0 c) (nI 1 c)
def Lj (a b:List T):Bool:=decide (nI 0 a=nI 0 b)&&decide (nI 1 a=nI 1 b)
theorem iZ {a b:List T}:Lj a b=true↔kC a=kC b:=by simp[Lj,kC,kG]
def CJ (a b:List T):Bool:=Lj a b&&decide (nI 2 a=nI 2 b)&&decide (nI 3 a=nI 3 b)&&decide (nB 5 a=nB 5 b)&&decide ((nL 4 a).map (nI 0)=(nL 4 b).map (nI 0))
def okB (P:Lz) (c:List T):Bool:=P.any (CJ c)
def ja (L:Lz) (c:List T):Bool:=L.any fun e=>Lj e c
def tA (P L:Lz) (n:Nat):Lz:=(List.range n).flatMap fun j=>if okB P (dH L j)=true then []else [[tI 1,tI (j:Int),tI (nI 1 (dH L j))]]
def wg (L P:Lz) (n:Nat):Lz:=(List.range n).flatMap fun j=>if ja L (dH P j)=true then []else [[tI 2,tI (nI 0 (dH P j)),tI (nI 1 (dH P j))]]
def uP (L:Lz) (n:Nat):Lz:=(List.range n).flatMap fun j=>if ja (L.take j) (dH L j)=true then [[tI 3,tI (j:Int),tI 0]]else []
theorem tC (f:Nat→Lz) (h: ∀j,(f j).length≤1): ∀n,((List.range n).flatMap f).length≤n
 |0=>by simp
 |n+1=>by
  have h1:=tC f h n
  have h2:=h n
  rw[List.range_succ,List.flatMap_append,List.length_append]
  simp only[List.flatMap_cons,List.flatMap_nil,List.append_nil]
  omega
theorem zd (P L:Lz) (n:Nat):(tA P L n).length≤n:=tC _ (fun j=>by split<;>simp) n
theorem DH (L P:Lz) (n:Nat):(wg L P n).length≤n:=tC _ (fun j=>by split<;>simp) n
theorem JE (L:Lz) (n:Nat):(uP L n).length≤n:=tC _ (fun j=>by split<;>simp) n
theorem iP {xs:Lz} {i:Nat} {e:List T} (h:xs[((i:Int)).toNat]? =some e):dH xs i=e:=by
 rw[Int.toNat_natCast]at h
 simp[dH,h]
theorem RK {a b:Lz} (ha:Is a) (hb:Is b) (h:a.map (nI 0)=b.map (nI 0)):a=b:=by
 apply List.ext_getElem?
 intro k
 have hk:=congrArg (fun l:List Int=>l[k]?) h
 simp only[List.getElem?_map]at hk
 cases h1:a[k]? with
 |none=>rw[h1]at hk;cases h2:b[k]? with|none=>rfl|some y=>rw[h2]at hk;simp at hk
 |some x=>
  rw[h1]at hk
  cases h2:b[k]? with
  |none=>rw[h2]at hk;simp at hk
  |some y=>
   rw[h2]at hk
   obtain⟨u,rfl⟩:=ha x (List.mem_of_getElem? h1)
   obtain⟨v,rfl⟩:=hb y (List.mem_of_getElem? h2)
   simp only[Option.map_some,Option.some.injEq]at hk
   have:u=v:=hk
   rw[this]
theorem J7 {a b:List T} (ha:FC a) (hb:FC b):CJ a b=true↔a=b:=by
 constructor
 · intro h
   obtain⟨p,q,l,s,rs,d,rfl,h1,_⟩:=ha
   obtain⟨p',q',l',s',rs',d',rfl,h2,_⟩:=hb
   simp only[CJ,Lj,Bool.and_eq_true,decide_eq_true_eq]at h
   obtain⟨⟨⟨⟨⟨g1,g2⟩,g3⟩,g4⟩,g5⟩,g6⟩:=h
   obtain rfl:p=p':=g1
   obtain rfl:q=q':=g2
   obtain rfl:l=l':=g3
   obtain rfl:s=s':=g4
   obtain rfl:d=d':=g5
   obtain rfl:rs=rs':=RK h1 h2 g6
   rfl
 · rintro rfl
   simp[CJ,Lj]
def Zm (P:Lz):Prop:= ∀a b,a∈P→b∈P→kC a=kC b→a=b
structure RM (P:Lz) (es:cz):Prop where
 a: ∀p,p∈es→ ∃c,c∈P∧p.1=kC c∧p.2.1= .pk c
 b: ∀c,c∈P→ ∃p,p∈es∧p.1=kC c
theorem RM.nil:RM [] []:=⟨fun p hp=>by simp at hp,fun c hc=>by simp at hc⟩
theorem RM.keys {P:Lz} {es:cz} (h:RM P es): ∀p,p∈es→Zp p.1:=fun p hp=>by
 obtain⟨c,_,h1,_⟩:=h.a p hp
 exact⟨_,_,h1⟩
theorem RM.ak {P:Lz} {es:cz} (h:RM P es) (f:Nat→Option Nat):RM P (es.map fun p=>(p.1,C.ak f p.2.1,p.2.2)):=by
 refine⟨fun p hp=>?_,fun c hc=>?_⟩
 · simp only[List.mem_map]at hp
   obtain⟨q,hq,rfl⟩:=hp
   obtain⟨c,h1,h2,h3⟩:=h.a q hq
   exact⟨c,h1,h2,by simp only[h3];rfl⟩
 · obtain⟨p,hp,h1⟩:=h.b c hc
   exact⟨_,List.mem_map.2 ⟨p,hp,rfl⟩,h1⟩
theorem Aw {es es':cz} {ck Kj:Nat} {kv k:Value} {c:C} (h:og es ck kv c es' Kj) (hk: ∃p,p∈es∧p.1=k): ∃p,p∈es'∧p.1=k:=by
 obtain⟨p,hp,rfl⟩:=hk
 rcases h with⟨i,p0,h1,h2,rfl,_⟩|⟨_,rfl,_⟩
 · obtain⟨j,hj,rfl⟩:=List.getElem_of_mem hp
   by_cases hij:i=j
   · subst hij
     rw[List.getElem?_eq_getElem hj]at h1
     injection h1 with h1
     exact⟨(kv,c,p0.2.2),List.mem_iff_getElem?.2 ⟨i,by rw[List.getElem?_set_self hj]⟩,by rw[h1,h2]⟩
   · exact⟨es[j],List.mem_iff_getElem?.2 ⟨j,by rw[List.getElem?_set_ne hij,List.getElem?_eq_getElem hj]⟩,rfl⟩
 · exact⟨p,List.mem_append_left _ hp,rfl⟩
theorem Dx {es es':cz} {ck Kj:Nat} {kv:Value} {c:C} (h:og es ck kv c es' Kj): ∃p,p∈es'∧p.1=kv:=by
 rcases h with⟨i,p0,h1,h2,rfl,_⟩|⟨_,rfl,_⟩
 · have hlt:=(List.getElem?_eq_some_iff.1 h1).1
   exact⟨(kv,c,p0.2.2),List.mem_iff_getElem?.2 ⟨i,by rw[List.getElem?_set_self hlt]⟩,rfl⟩
 · exact⟨(kv,c,ck),by simp,rfl⟩
theorem Gr {es es':cz} {ck Kj:Nat} {kv:Value} {c:C} (h:og es ck kv c es' Kj) {p:Value×C×Nat} (hp:p∈es'):p∈es∨p.1=kv∧p.2.1=c:=by
 rcases h with⟨i,p0,h1,h2,rfl,_⟩|⟨_,rfl,_⟩
 · rcases List.mem_or_eq_of_mem_set hp with hp|rfl
   · exact .inl hp
   · exact .inr ⟨rfl,rfl⟩
 · simp only[List.mem_append,List.mem_singleton]at hp
   rcases hp with hp|rfl
   · exact .inl hp
   · exact .inr ⟨rfl,rfl⟩
theorem kf {xs:Lz} {i:Nat} {e c:List T} (h:xs[((i:Int)).toNat]? =some e):c∈xs.take (i+1)↔c∈xs.take i∨c=e:=by
 rw[Int.toNat_natCast]at h
 rw[List.take_add_one,h]
 simp
theorem RM.put {P:Lz} {i:Nat} {es es':cz} {ck Kj:Nat} {e:List T} (h:RM (P.take i) es) (hs:P[((i:Int)).toNat]? =some e) (hp:og es ck (kC e) (.pk e) es' Kj):RM (P.take (i+1)) es':=by
 refine⟨fun p hm=>?_,fun c hc=>?_⟩
 · rcases Gr hp hm with h1|⟨h1,h2⟩
   · obtain⟨c,g1,g2⟩:=h.a p h1
     exact⟨c,(kf hs).2 (.inl g1),g2⟩
   · exact⟨e,(kf hs).2 (.inr rfl),h1,h2⟩
 · rcases(kf hs).1 hc with h1|rfl
   · exact Aw hp (h.b c h1)
   · exact Dx hp
theorem RM.all {P:Lz} {i:Nat} {es:cz} (h:RM (P.take i) es) (hi:¬ (i:Int) < (P.length:Int)):RM P es:=by rwa [List.take_of_length_le (by omega)]at h
theorem I2 {n ctr:Nat} {ty:TypeId} {m k:Operand} {tm:TS} {hp:HS} {id clock:Nat} {es:cz} {P:Lz} {a b:Int} {K:V→HS→Prop} (hm:Gt n tm m= .w (.one (.map id))) (hf:find hp id=some (.mp es clock)) (hk:(Gt n tm k).val? =some (iD a b)) (hM:RM P es) (hP:IR P)
 (h1: ∀ (l s:Int) (rs:Lz) (d:Bool),[tI a,tI b,tI l,tI s, .av 1 rs,tB d]∈P→Is rs→K (.dQ [.agg [.t (tI a), .t (tI b), .t (tI l), .t (tI s), .t (.av 1 rs), .t (tB d)],bT true]) hp)
 (h2:(∀c,c∈P→¬kC c=iD a b)→K (.dQ [.agg PM,bT false]) hp): ∃v aF,gR Tryz.prog n (.lookup 96 m k true) ty tm hp ctr v aF∧K v aF:=by
 refine FR hm hf hk uMC Wj Sy ⟨_,_,rfl⟩ hM.keys (fun i p hi hpk=>?_) (fun hno=>h2 fun c hc hk=>?_)
 · obtain⟨c,g1,g2,g3⟩:=hM.a p (List.mem_of_getElem? hi)
   obtain⟨p',q',l,s,rs,d,rfl,g4,_⟩:=hP c g1
   rw[hpk]at g2
   obtain⟨rfl,rfl⟩:=kG.1 g2
   rw[g3]
   exact h1 l s rs d g1 g4
 · obtain⟨p,hp,g1⟩:=hM.b c hc
   exact hno p hp (g1.trans hk)
structure FM (L:Lz) (i:Nat) (es:cz):Prop where
 a: ∀p,p∈es→ ∃j:Nat,j < i∧p.1=kC (dH L j)∧p.2.1= .t (tI (j:Int))∧ ∀j':Nat,j' < j→¬kC (dH L j')=kC (dH L j)
 b: ∀j:Nat,j < i→ ∃p,p∈es∧p.1=kC (dH L j)
theorem FM.nil (L:Lz):FM L 0 []:=⟨fun p hp=>by simp at hp,fun j hj=>by omega⟩
theorem FM.keys {L:Lz} {i:Nat} {es:cz} (h:FM L i es): ∀p,p∈es→Zp p.1:=fun p hp=>by
 obtain⟨j,_,h1,_⟩:=h.a p hp
 exact⟨_,_,h1⟩
theorem FM.ak {L:Lz} {i:Nat} {es:cz} (h:FM L i es) (f:Nat→Option Nat):FM L i (es.map fun p=>(p.1,C.ak f p.2.1,p.2.2)):=by
 refine⟨fun p hp=>?_,fun j hj=>?_⟩
 · simp only[List.mem_map]at hp
   obtain⟨q,hq,rfl⟩:=hp
   obtain⟨j,h1,h2,h3,h4⟩:=h.a q hq
   exact⟨j,h1,h2,by simp only[h3];rfl,h4⟩
 · obtain⟨p,hp,h1⟩:=h.b j hj
   exact⟨_,List.mem_map.2 ⟨p,hp,rfl⟩,h1⟩
theorem FM.Sn {L:Lz} {i:Nat} {es es':cz} {ck Kj:Nat} {e:List T} (h:FM L i es) (hs:L[((i:Int)).toNat]? =some e) (hno: ∀j:Nat,j < i→¬kC (dH L j)=kC e) (hp:og es ck (kC e) (.t (tI (i:Int))) es' Kj):FM L (i+1) es':=by
 have he:=iP hs
 refine⟨fun p hm=>?_,fun j hj=>?_⟩
 · rcases Gr hp hm with h1|⟨h1,h2⟩
   · obtain⟨j,g1,g2⟩:=h.a p h1
     exact⟨j,by omega,g2⟩
   · exact⟨i,by omega,by rw[he];exact h1,h2,fun j' hj'=>by rw[he];exact hno j' hj'⟩
 · by_cases eF:j=i
   · subst eF
     rw[he]
     exact Dx hp
   · exact Aw hp (h.b j (by omega))
theorem FM.hit {L:Lz} {i:Nat} {es:cz} {e:List T} (h:FM L i es) (hs:L[((i:Int)).toNat]? =some e) (hy: ∃j:Nat,j < i∧kC (dH L j)=kC e):FM L (i+1) es:=by
 have he:=iP hs
 refine⟨fun p hm=>?_,fun j hj=>?_⟩
 · obtain⟨j,g1,g2⟩:=h.a p hm
   exact⟨j,by omega,g2⟩
 · by_cases eF:j=i
   · subst eF
     obtain⟨j',h1,h2⟩:=hy
     rw[he, ←h2]
     exact h.b j' h1
   · exact h.b j (by omega)
theorem I1 {n ctr:Nat} {ty:TypeId} {m k:Operand} {tm:TS} {hp:HS} {id clock:Nat} {es:cz} {L:Lz} {i:Nat} {a b:Int} {K:V→HS→Prop} (hm:Gt n tm m= .w (.one (.map id))) (hf:find hp id=some (.mp es clock)) (hk:(Gt n tm k).val? =some (iD a b)) (hF:FM L i es)
 (h1: ∀j:Nat,j < i→kC (dH L j)=iD a b→K (.dQ [.one (.t (tI (j:Int))),bT true]) hp)
 (h2:(∀j:Nat,j < i→¬kC (dH L j)=iD a b)→K (.dQ [.one (.t (tI 0)),bT false]) hp): ∃v aF,gR Tryz.prog n (.lookup 99 m k true) ty tm hp ctr v aF∧K v aF:=by
 refine Db hm hf hk WB Wh Sy ⟨_,_,rfl⟩ hF.keys (fun q p hi hpk=>?_) (fun hno=>h2 fun j hj hk=>?_)
 · obtain⟨j,g1,g2,g3,_⟩:=hF.a p (List.mem_of_getElem? hi)
   rw[g3]
   exact h1 j g1 (by rw[←g2,hpk])
 · obtain⟨p,hp,g1⟩:=hF.b j hj
   exact hno p hp (g1.trans hk)
theorem I0 {n ctr:Nat} {ty:TypeId} {m k:Operand} {tm:TS} {hp:HS} {id clock:Nat} {es:cz} {L:Lz} {i:Nat} {a b:Int} {K:V→HS→Prop} (hm:Gt n tm m= .w (.one (.map id))) (hf:find hp id=some (.mp es clock)) (hk:(Gt n tm k).val? =some (iD a b)) {i0:Nat} (hF:FM L i es) (h0:i0 < i) (AY:kC (dH L i0)=iD a b)
 (h1: ∀j:Nat,j≤i0→kC (dH L j)=iD a b→(∀j':Nat,j' < j→¬kC (dH L j')=iD a b)→K (.w (.one (.t (tI (j:Int))))) hp): ∃v aF,gR Tryz.prog n (.lookup 99 m k false) ty tm hp ctr v aF∧K v aF:=by
 refine FT hm hf hk WB Wh Sy ⟨_,_,rfl⟩ hF.keys (fun q p hi hpk=>?_) (fun hno=>?_)
 · obtain⟨j,g1,g2,g3,g4⟩:=hF.a p (List.mem_of_getElem? hi)
   rw[g3]
   have e:kC (dH L j)=iD a b:=by rw[←g2,hpk]
   rw[e]at g4
   refine h1 j ?_ e g4
   rcases Nat.lt_or_ge i0 j with h|h
   · exact absurd AY (g4 i0 h)
   · exact h
 · obtain⟨p,hp,g1⟩:=hF.b i0 h0
   exact absurd (g1.trans AY) (hno p hp)
theorem AL (P L:Lz) (i:Nat):tA P L (i+1)=tA P L i++if okB P (dH L i)=true then []else [[tI 1,tI (i:Int),tI (nI 1 (dH L i))]]:=by simp[tA,List.range_succ]
theorem AK (L P:Lz) (i:Nat):wg L P (i+1)=wg L P i++if ja L (dH P i)=true then []else [[tI 2,tI (nI 0 (dH P i)),tI (nI 1 (dH P i))]]:=by simp[wg,List.range_succ]
theorem mL (L:Lz) (i:Nat):uP L (i+1)=uP L i++if ja (L.take i) (dH L i)=true then [[tI 3,tI (i:Int),tI 0]]else []:=by simp[uP,List.range_succ]
theorem GC {P L:Lz} {i:Nat} {p q l s l2 s2:Int} {rs Eu:Lz} {d d2 bq:Bool} (hs:L[((i:Int)).toNat]? =some [tI p,tI q,tI l,tI s, .av 1 rs,tB d]) (hin: [tI p,tI q,tI l2,tI s2, .av 1 Eu,tB d2]∈P) (hq:bq=true↔p=p∧q=q∧l=l2∧s=s2∧d=d2∧rs=Eu) (hb:(!bq)=false):okB P (dH L i)=true:=by
 rw[iP hs]
 obtain⟨_,_,rfl,rfl,rfl,rfl⟩:=hq.1 (by simpa using hb)
 exact List.any_eq_true.2 ⟨_,hin,by simp[CJ,Lj]⟩
theorem GA {P L:Lz} {i:Nat} {p q l s l2 s2:Int} {rs Eu:Lz} {d d2 bq:Bool} (hP:IR P) (hL:IR L) (hn:Zm P) (hs:L[((i:Int)).toNat]? =some [tI p,tI q,tI l,tI s, .av 1 rs,tB d]) (hin: [tI p,tI q,tI l2,tI s2, .av 1 Eu,tB d2]∈P) (hq:bq=true↔p=p∧q=q∧l=l2∧s=s2∧d=d2∧rs=Eu) (hb:(!bq)=true):okB P (dH L i)=false:=by
 rw[iP hs]
 cases h:okB P _ with
 |false=>rfl
 |true=>
  obtain⟨w,hw,he⟩:=List.any_eq_true.1 h
  have e:=(J7 (hL _ (List.mem_of_getElem? hs)) (hP w hw)).1 he
  subst e
  have e2:=hn _ _ hw hin rfl
  simp only[List.cons.injEq,T.val.injEq,Value.int.injEq,T.av.injEq,Value.bool.injEq,true_and,and_true]at e2
  obtain⟨rfl,rfl,rfl,rfl⟩:=e2
  have:=hq.2 ⟨rfl,rfl,rfl,rfl,rfl,rfl⟩
  simp[this]at hb
theorem La {P L:Lz} {i:Nat} {p q:Int} {r:List T} (hs:L[((i:Int)).toNat]? =some (tI p::tI q::r)) (hno: ∀c,c∈P→¬kC c=iD p q):okB P (dH L i)=false:=by
 rw[iP hs]
 cases h:okB P _ with
 |false=>rfl
 |true=>
  obtain⟨w,hw,he⟩:=List.any_eq_true.1 h
  simp only[CJ,Bool.and_eq_true]at he
  exact absurd (iZ.1 he.1.1.1.1).symm (hno w hw)
end Go.aS.Cd
end
section
namespace Go.aS.Cd
open Go Go.Proofs
set_option maxRecDepth 100000
set_option maxHeartbeats 4000000
theorem GW {P L zs:Lz} {i:Nat} (hz:zs=tA P L i) (h:okB P (dH L i)=true):zs=tA P L (i+1):=by rw[AL,if_pos h,List.append_nil];exact hz
theorem GX {P L zs:Lz} {i:Nat} {p q:Int} {r:List T} (hs:L[((i:Int)).toNat]? =some (tI p::tI q::r)) (hz:zs=tA P L i) (h:okB P (dH L i)=false):zs++[[tI 1,tI (i:Int),tI q]]=tA P L (i+1):=by
 rw[AL,h,if_neg (by simp),iP hs,hz]
 rfl
theorem JY {P L:Lz} {i j:Nat} {p q:Int} {r:List T} (hs:P[((i:Int)).toNat]? =some (tI p::tI q::r)) (hj:j < L.length) (hk:kC (dH L j)=iD p q):ja L (dH P i)=true:=by
 rw[iP hs]
 exact List.any_eq_true.2 ⟨dH L j,by simp[dH,hj],iZ.2 hk⟩
theorem Nu {P L:Lz} {i n:Nat} {p q:Int} {r:List T} (hs:P[((i:Int)).toNat]? =some (tI p::tI q::r)) (hn:L.length≤n) (hno: ∀j:Nat,j < n→¬kC (dH L j)=iD p q):ja L (dH P i)=false:=by
 rw[iP hs]
 cases h:ja L _ with
 |false=>rfl
 |true=>
  obtain⟨w,hw,he⟩:=List.any_eq_true.1 h
  obtain⟨j,hj,rfl⟩:=List.getElem_of_mem hw
  exact absurd (show kC (dH L j)=iD p q by rw[show dH L j=L[j] by simp[dH,hj]];exact iZ.1 he) (hno j (by omega))
theorem M3 {P L Z zs:Lz} {i:Nat} (hz:zs=Z++wg L P i) (h:ja L (dH P i)=true):zs=Z++wg L P (i+1):=by rw[AK,if_pos h,List.append_nil];exact hz
theorem M4 {P L Z zs:Lz} {i:Nat} {p q:Int} {r:List T} (hs:P[((i:Int)).toNat]? =some (tI p::tI q::r)) (hz:zs=Z++wg L P i) (h:ja L (dH P i)=false):zs++[[tI 2,tI p,tI q]]=Z++wg L P (i+1):=by
 rw[AK,h,if_neg (by simp),iP hs,hz,List.append_assoc]
 rfl
theorem J8 {L:Lz} {i j:Nat} {p q:Int} {r:List T} (hs:L[((i:Int)).toNat]? =some (tI p::tI q::r)) (hj:j≤i) (hk:kC (dH L j)=iD p q) (h:¬ (j:Int)=(i:Int)):ja (L.take i) (dH L i)=true:=by
 have hi:=(List.getElem?_eq_some_iff.1 hs).1
 rw[iP hs]
 exact List.any_eq_true.2 ⟨dH L j,List.mem_iff_getElem?.2 ⟨j,by rw[List.getElem?_take,if_pos (by omega)];simp[dH,show j < L.length by omega]⟩,iZ.2 hk⟩
theorem NV {L:Lz} {i j:Nat} {p q:Int} {r:List T} (hs:L[((i:Int)).toNat]? =some (tI p::tI q::r)) (hm: ∀j':Nat,j' < j→¬kC (dH L j')=iD p q) (h:(j:Int)=(i:Int)):ja (L.take i) (dH L i)=false:=by
 rw[iP hs]
 cases hb:ja (L.take i) _ with
 |false=>rfl
 |true=>
  obtain⟨w,hw,he⟩:=List.any_eq_true.1 hb
  obtain⟨k,hk⟩:=List.mem_iff_getElem?.1 hw
  rw[List.getElem?_take]at hk
  split at hk
  · exact absurd (show kC (dH L k)=iD p q by rw[show dH L k=w by simp[dH,hk]];exact iZ.1 he) (hm k (by omega))
  · simp at hk
theorem M0 {L Z zs:Lz} {i:Nat} (hz:zs=Z++uP L i) (h:ja (L.take i) (dH L i)=false):zs=Z++uP L (i+1):=by rw[mL,h,if_neg (by simp),List.append_nil];exact hz
theorem M1 {L Z zs:Lz} {i:Nat} (hz:zs=Z++uP L i) (h:ja (L.take i) (dH L i)=true):zs++[[tI 3,tI (i:Int),tI 0]]=Z++uP L (i+1):=by
 rw[mL,if_pos h,hz,List.append_assoc]
def FG (P L:Lz):Lz:=(tA P L L.length++wg L P P.length)++uP L L.length
theorem SB {P L zs:Lz} {i:Nat} (hz:zs=tA P L i) (hi:i≤1000):zs.length≤3000:=by subst hz;have:=zd P L i;omega
theorem SA {P L zs:Lz} {i n:Nat} (hz:zs=tA P L n++wg L P i) (hn:n≤1000) (hi:i≤1000):zs.length≤3000:=by subst hz;have:=zd P L n;have:=DH L P i;simp only[List.length_append];omega
theorem Sz {P L zs:Lz} {i n k:Nat} (hz:zs=(tA P L n++wg L P k)++uP L i) (hn:n≤1000) (hk:k≤1000) (hi:i≤1000):zs.length≤3000:=by subst hz;have:=zd P L n;have:=DH L P k;have:=JE L i;simp only[List.length_append];omega
theorem FM.all {L:Lz} {i:Nat} {es:cz} (h:FM L i es) (hi:i≤L.length) (hn:¬ (i:Int) < (L.length:Int)):FM L L.length es:=by
 have:i=L.length:=by omega
 subst this;exact h
theorem JH {P L zs:Lz} {i:Nat} (hz:zs=tA P L i) (hi:i≤L.length) (hn:¬ (i:Int) < (L.length:Int)):zs=tA P L L.length++wg L P 0:=by
 have:i=L.length:=by omega
 subst this;simpa[wg]using hz
theorem JG {P L Z zs:Lz} {i:Nat} (hz:zs=Z++wg L P i) (hi:i≤P.length) (hn:¬ (i:Int) < (P.length:Int)):zs=(Z++wg L P P.length)++uP L 0:=by
 have:i=P.length:=by omega
 subst this;simpa[uP]using hz
theorem JF {L Z zs:Lz} {i:Nat} (hz:zs=Z++uP L i) (hi:i≤L.length) (hn:¬ (i:Int) < (L.length:Int)):zs=Z++uP L L.length:=by
 have:i=L.length:=by omega
 subst this;exact hz
def RV1 (P:Lz) (m:Nat) (vs:List V) (hq:HS):Prop:= ∃ (i:Nat) (es:cz) (c:Nat),i≤P.length∧m=P.length - i∧vs=[iV .i64 (i:Int)]∧RM (P.take i) es∧hq=[(4, .mp es c)]
def Od (P L:Lz) (m:Nat) (vs:List V) (hq:HS):Prop:= ∃ (i k:Nat) (es:cz) (c:Nat) (Fm:cz) (c2:Nat) (rows:List (List C)) (zs:Lz),i≤L.length∧m=L.length - i∧vs=[bG 12 3 k,iV .i64 (i:Int)]∧(RM P es∧FM L i Fm)∧az rows zs∧(k=zs.length∧zs=tA P L i)∧hq=[(4, .mp es c),(8, .mp Fm c2),(12, .row 3 rows)]
theorem Od.next {P L zs:Lz} {i k:Nat} {es Fm:cz} {c c2:Nat} {rows:List (List C)} (hi:(i:Int) < (L.length:Int)) (hl:L.length≤1000) (hM:RM P es) (hF:FM L (i+1) Fm) (hR:az rows zs) (hz:zs=tA P L (i+1)) (hk:k=zs.length):
 Od P L (L.length - (i+1)) [bG 12 3 k,iV .i64 (IntKind.i64.wrap ((i:Int)+1))] [(4, .mp es c),(8, .mp Fm c2),(12, .row 3 rows)]:=
 ⟨i+1,k,es,c,Fm,c2,rows,zs,by omega,rfl,by rw[bj (by omega) (by omega)];rfl,⟨hM,hF⟩,hR,⟨hk,hz⟩,rfl⟩
def T5 (P L:Lz) (m:Nat) (vs:List V) (hq:HS):Prop:= ∃ (i k:Nat) (es:cz) (c:Nat) (rows:List (List C)) (zs:Lz),i≤P.length∧m=P.length - i∧vs=[bG 8 3 k,iV .i64 (i:Int)]∧FM L L.length es∧az rows zs∧(k=zs.length∧zs=tA P L L.length++wg L P i)∧hq=[(4, .mp es c),(8, .row 3 rows)]
theorem T5.next {P L zs:Lz} {i k:Nat} {es:cz} {c:Nat} {rows:List (List C)} (hi:(i:Int) < (P.length:Int)) (hl:P.length≤1000) (hF:FM L L.length es) (hR:az rows zs) (hz:zs=tA P L L.length++wg L P (i+1)) (hk:k=zs.length):
 T5 P L (P.length - (i+1)) [bG 8 3 k,iV .i64 (IntKind.i64.wrap ((i:Int)+1))] [(4, .mp es c),(8, .row 3 rows)]:=
 ⟨i+1,k,es,c,rows,zs,by omega,rfl,by rw[bj (by omega) (by omega)];rfl,hF,hR,⟨hk,hz⟩,rfl⟩
def T4 (P L:Lz) (m:Nat) (vs:List V) (hq:HS):Prop:= ∃ (i k:Nat) (es:cz) (c:Nat) (rows:List (List C)) (zs:Lz),i≤L.length∧m=L.length - i∧vs=[bG 8 3 k,iV .i64 (i:Int)]∧FM L L.length es∧az rows zs∧(k=zs.length∧zs=(tA P L L.length++wg L P P.length)++uP L i)∧hq=[(4, .mp es c),(8, .row 3 rows)]
theorem T4.next {P L zs:Lz} {i k:Nat} {es:cz} {c:Nat} {rows:List (List C)} (hi:(i:Int) < (L.length:Int)) (hl:L.length≤1000) (hF:FM L L.length es) (hR:az rows zs) (hz:zs=(tA P L L.length++wg L P P.length)++uP L (i+1)) (hk:k=zs.length):
 T4 P L (L.length - (i+1)) [bG 8 3 k,iV .i64 (IntKind.i64.wrap ((i:Int)+1))] [(4, .mp es c),(8, .row 3 rows)]:=
 ⟨i+1,k,es,c,rows,zs,by omega,rfl,by rw[bj (by omega) (by omega)];rfl,hF,hR,⟨hk,hz⟩,rfl⟩
def GVe (e:Int) (P L:Lz) (ts:List W):Prop:= ∃zs,ts=[oL 3 zs]∧(e=0→zs=FG P L)∧(¬e=0→zs=[[tI 9,tI e,tI 0]])
theorem vH (sn:ByteArray) (bk ms ps us ss os:Lz) (ln wd rx ry:Int) (sizes places plies ah aR P:Lz) (e:Int) (Lp:Te 22 [jt sn bk ms ps us ss os,mc ln wd rx ry sizes places plies,oL 7 ah,oL 1 aR] [oL 6 P,oI e]) (hP:e=0→IR P∧Zm P∧P.length≤1000) (L:Lz) (hL:IR L) (O1:L.length≤1000):Tg 12 [jt sn bk ms ps us ss os,mc ln wd rx ry sizes places plies,oL 7 ah,oL 1 aR,oL 6 L] (GVe e P L):=by
 refine aK ?_
 refine ae Tryz.func12 ?_
 repeat' (conv=>whnf
          first
  |(refine aA (fun h=>?_) (fun h=>?_))
  |(refine bR (fun h=>?_) (fun h=>?_))
  |(refine aG (fun h=>?_) (fun h=>?_))
  |(refine au (xs:=P) (hP (by assumption)).1 (by omega) (by omega) ?_;rintro _ ⟨p,q,l,s,rs,d,rfl,eA,OQ⟩ hs)
  |(refine au (xs:=L) hL (by omega) (by omega) ?_;rintro _ ⟨p,q,l,s,rs,d,rfl,eA,OQ⟩ hs)
  |(have hz9:zs.length≤3000:=(by have h8:=(hP (by assumption)).2.2;first|exact SB hzs (by omega)|exact SA hzs (by omega) (by omega)|exact Sz hzs (by omega) (by omega) (by omega));refine And.intro ⟨hR.len.symm,by rw[hR.len];simp[aU];omega,by rw[hR.len];simp[maxLen];omega⟩ ?_)
  |(refine ag rfl (Lp) ?_;rintro _ rfl)
  |(refine ag rfl (wS p q l s p q l2 s2 rs Eu d d2 eA XU OQ) ?_;rintro _ ⟨bq,rfl,hq⟩)
  |(refine qp ?_)
  |(refine BZ rfl rfl rfl (.inr ⟨[tI p,tI q,tI l,tI s, .av 1 rs,tB d],rfl,rfl⟩) uMC Sy ⟨_,_,rfl⟩ hM.keys ?_;rintro es' c' hput)
  |(refine BZ rfl rfl rfl (.inl rfl) WB Sy ⟨_,_,rfl⟩ hF.keys ?_;rintro es' c' hput)
  |(refine I2 (a:=p) (b:=q) rfl rfl rfl hM (hP (by assumption)).1 ?_ ?_;rintro l2 s2 Eu d2 hin XU;rotate_left;intro S2)
  |(refine I1 (a:=p) (b:=q) rfl rfl rfl hF ?_ ?_;rintro j hj E2;rotate_left;intro Nj)
  |(refine I0 (a:=p) (b:=q) rfl rfl rfl (i0:=i) hF (by omega) (by rw[iP hs];rfl) ?_;rintro j hj E2 hjm)
  |exact mh rfl (eR rfl rfl (xs:=[[tI 9,tI e,tI 0]]) rfl (Nat.le_refl 1)) ⟨_,rfl,fun h=>absurd h (by assumption),fun _=>rfl⟩
  |exact mh rfl (eR rfl rfl (xs:=zs) hR (by omega)) ⟨_,rfl,fun _=>by rw[fE rfl];exact JF hzs hi (by assumption),fun h=>absurd (by assumption) h⟩
  |(apply bW [16,17,132,133,134] [] [17,134] (T4 P L) (L.length) [bG 8 3 zs.length,iV .i64 0];(conv=>whnf);exact⟨rfl,rfl,rfl,rfl⟩;exact rfl;exact rfl;exact⟨0,_,_,_,_,zs,by omega,rfl,rfl,hF.ak _,hR.ak _,⟨rfl,JG hzs hi (by assumption)⟩,rfl⟩;rintro _ _ _ ⟨i,k,es,c,rows,zs,hi,rfl,rfl,hF,hR,⟨rfl,hzs⟩,rfl⟩)
  |(refine aj [16,17,132,133,134] [] ?_;(conv=>whnf);first|exact⟨rfl,_,[_,_],T4.next (by omega) O1 (hF.ak _) (hR.ak _) (M0 hzs (NV hs hjm (by omega))) rfl,rfl,rfl,by omega⟩|exact⟨rfl,_,[_,_],T4.next (by omega) O1 (hF.ak _) ((az.snoc hR [tI _,tI _,tI _]).ak _) (M1 hzs (J8 hs hj E2 (by omega))) (by have:=hR.len;simp;omega),rfl,rfl,by omega⟩)
  |(apply bW [4,16,17,105,106,107] [] [17,107] (T5 P L) (P.length) [bG 8 3 zs.length,iV .i64 0];(conv=>whnf);exact⟨rfl,rfl,rfl,rfl⟩;exact rfl;exact rfl;exact⟨0,_,_,_,_,zs,by omega,rfl,rfl,(hF.all hi (by assumption)).ak _,hR.ak _,⟨rfl,JH hzs hi (by assumption)⟩,rfl⟩;rintro _ _ _ ⟨i,k,es,c,rows,zs,hi,rfl,rfl,hF,hR,⟨rfl,hzs⟩,rfl⟩)
  |(refine aj [4,16,17,105,106,107] [] ?_;(conv=>whnf);first|exact⟨rfl,_,[_,_],T5.next (by omega) (hP (by assumption)).2.2 (hF.ak _) (hR.ak _) (M3 hzs (JY hs hj E2)) rfl,rfl,rfl,by omega⟩|exact⟨rfl,_,[_,_],T5.next (by omega) (hP (by assumption)).2.2 (hF.ak _) ((az.snoc hR [tI _,tI _,tI _]).ak _) (M4 hs hzs (Nu hs (Nat.le_refl _) Nj)) (by have:=hR.len;simp;omega),rfl,rfl,by omega⟩)
  |(apply gn [4,11,13,16,17,60,61,62] [] [17,62] (Od P L) (L.length) [bG 12 3 0,iV .i64 0] (dP.iU 17 3 rfl);(conv=>whnf);exact⟨rfl,rfl,rfl,rfl⟩;exact rfl;exact rfl;exact⟨0,_,_,_,_,_,_,[],by omega,rfl,rfl,⟨(hM.all (by assumption)).ak _,FM.nil L⟩,az.ak az.nil _,⟨rfl,rfl⟩,rfl⟩;rintro _ _ _ ⟨i,k,es,c,Fm,c2,rows,zs,hi,rfl,rfl,⟨hM,hF⟩,hR,⟨rfl,hzs⟩,rfl⟩)
  |(refine aj [4,11,13,16,17,60,61,62] [] ?_;(conv=>whnf);first|exact⟨rfl,_,[_,_],Od.next (by omega) O1 (hM.ak _) ((hF.hit hs ⟨j,hj,E2⟩).ak _) (hR.ak _) (GW hzs (GC hs hin hq (by assumption))) rfl,rfl,rfl,by omega⟩|exact⟨rfl,_,[_,_],Od.next (by omega) O1 (hM.ak _) ((hF.Sn hs Nj hput).ak _) (hR.ak _) (GW hzs (GC hs hin hq (by assumption))) rfl,rfl,rfl,by omega⟩|exact⟨rfl,_,[_,_],Od.next (by omega) O1 (hM.ak _) ((hF.hit hs ⟨j,hj,E2⟩).ak _) ((az.snoc hR [tI _,tI _,tI _]).ak _) (GX hs hzs (by first|exact La hs S2|exact GA (hP (by assumption)).1 hL (hP (by assumption)).2.1 hs hin hq (by assumption))) (by have:=hR.len;simp;omega),rfl,rfl,by omega⟩|exact⟨rfl,_,[_,_],Od.next (by omega) O1 (hM.ak _) ((hF.Sn hs Nj hput).ak _) ((az.snoc hR [tI _,tI _,tI _]).ak _) (GX hs hzs (by first|exact La hs S2|exact GA (hP (by assumption)).1 hL (hP (by assumption)).2.1 hs hin hq (by assumption))) (by have:=hR.len;simp;omega),rfl,rfl,by omega⟩)
  |(apply bW [4,11,13,45,46,47] [] [47] (RV1 P) (P.length) [iV .i64 0];(conv=>whnf);exact⟨rfl,rfl,rfl,rfl⟩;exact rfl;exact rfl;exact⟨0,_,_,by omega,rfl,rfl,(by rw[List.take_zero];exact RM.nil),rfl⟩;rintro _ _ _ ⟨i,es,c,hi,rfl,rfl,hM,rfl⟩)
  |(refine aj [4,11,13,45,46,47] [] ?_;(conv=>whnf);exact⟨rfl,_,[_],⟨i+1,_,_,by omega,rfl,by have h9:=(hP (by assumption)).2.2;rw[bj (by omega) (by omega)];rfl,(hM.put hs hput).ak _,rfl⟩,rfl,rfl,by omega⟩))
 all_goals (conv=>whnf)
end Go.aS.Cd
end
section
namespace Go.aS
open Go
variable {P:Program} {w:World} {A:Nat→Prop} {ρ:Env}
end Go.aS
end
section
namespace Go.aS.Cd
open Go Go.Proofs
set_option maxRecDepth 100000
set_option maxHeartbeats 1000000
variable [BM]
end Go.aS.Cd
end
section
namespace Go.aS.Cd
open Go Go.Proofs
set_option maxRecDepth 100000
set_option maxHeartbeats 1000000
variable [BM]
abbrev Pw (P:Lz):Prop:=P.Pairwise fun a b=>¬kC a=kC b
theorem za (ah sizes places:Lz) (e:List T) (i k:Nat) (poly:Lz):kC (HX ah sizes places e i k poly)=iD (i:Int) (k:Int):=rfl
theorem Kc (ah sizes places aC plies:Lz) (n:Nat):Pw (fe ah sizes places aC plies n):=by
 rw[Pw,fe,List.pairwise_flatMap]
 refine⟨fun a _=>?_,List.pairwise_lt_range.imp (fun {a b} h x hx y hy he=>?_)⟩
 · rw[jq,List.pairwise_map]
   refine List.pairwise_lt_range.imp (fun {k k2} h he=>?_)
   rw[za,za,kG]at he
   omega
 · simp only[jq,List.mem_map,List.mem_range]at hx hy
   obtain⟨k,_,rfl⟩:=hx
   obtain⟨k2,_,rfl⟩:=hy
   rw[za,za,kG]at he
   omega
theorem Gq {P:Lz} (h:Pw P):Zm P:=by
 intro a b ha hb hk
 obtain⟨i,hi,rfl⟩:=List.getElem_of_mem ha
 obtain⟨j,hj,rfl⟩:=List.getElem_of_mem hb
 rw[Pw,List.pairwise_iff_getElem]at h
 rcases Nat.lt_trichotomy i j with hij|hij|hij
 · exact absurd hk (h i j hi hj hij)
 · subst hij;rfl
 · exact absurd hk.symm (h j i hj hi hij)
theorem Jl {P Q:Lz} (h:P.Perm Q) (hp:Pw P):Pw Q:=(h.pairwise_iff (fun hab he=>hab he.symm)).1 hp
theorem HV (c:List T):CJ c c=true:=by simp[CJ,Lj]
theorem uD {P:Lz} {c:List T} (h:c∈P):okB P c=true:=List.any_eq_true.2 ⟨c,h,HV c⟩
theorem lD {L:Lz} {w e:List T} (h:e∈L) (hk:kC e=kC w):ja L w=true:=List.any_eq_true.2 ⟨e,h,iZ.2 hk⟩
theorem zu {L:Lz} {w:List T} (h: ∀e,e∈L→¬kC e=kC w):ja L w=false:=by
 cases hb:ja L w with
 |false=>rfl
 |true=>
  obtain⟨e,he,hk⟩:=List.any_eq_true.1 hb
  exact absurd (iZ.1 hk) (h e he)
theorem LP {L:Lz} {j:Nat} (h:j < L.length):dH L j∈L:=by simp[dH,h]
theorem zc {P L:Lz} (h: ∀e,e∈L→okB P e=true):tA P L L.length=[]:=by
 rw[tA,List.flatMap_eq_nil_iff]
 intro j hj
 rw[if_pos (h _ (LP (List.mem_range.1 hj)))]
theorem xK {P Q:Lz} {x:List T} (hx:okB P x=false) (h: ∀e,e∈Q→okB P e=true):tA P (x::Q) (x::Q).length=[[tI 1,tI 0,tI (nI 1 x)]]:=by
 rw[tA,List.length_cons,List.range_succ_eq_map,List.flatMap_cons,List.flatMap_map]
 have h0:dH (x::Q) 0=x:=rfl
 rw[h0,hx,if_neg (by simp),List.flatMap_eq_nil_iff.2 (fun j hj=>by
  have h1:dH (x::Q) (j+1)=dH Q j:=by simp[dH]
  simp only[Nat.succ_eq_add_one,h1]
  rw[if_pos (h _ (LP (List.mem_range.1 hj)))])]
 rfl
theorem Gn (f:List T→Lz) (P:Lz):(List.range P.length).flatMap (fun j=>f (dH P j))=P.flatMap f:=by
 have h:P=(List.range P.length).map (dH P):=by
  apply List.ext_getElem?
  intro i
  by_cases hi:i < P.length
  · simp[hi,dH]
  · simp[hi]
 conv=>rhs;rw[h]
 rw[List.flatMap_map]
theorem GV (L P:Lz):wg L P P.length=P.flatMap fun w=>if ja L w=true then []else [[tI 2,tI (nI 0 w),tI (nI 1 w)]]:=Gn (fun w=>if ja L w=true then []else [[tI 2,tI (nI 0 w),tI (nI 1 w)]]) P
theorem zb {L P:Lz} (h: ∀w,w∈P→ja L w=true):wg L P P.length=[]:=by
 rw[GV,List.flatMap_eq_nil_iff]
 intro w hw
 rw[if_pos (h w hw)]
theorem DG {L B R:Lz} {c:List T} (h0:ja L c=false) (hB: ∀w,w∈B→ja L w=true) (hR: ∀w,w∈R→ja L w=true):wg L (B++c::R) (B++c::R).length=[[tI 2,tI (nI 0 c),tI (nI 1 c)]]:=by
 rw[GV,List.flatMap_append,List.flatMap_cons,h0,if_neg (by simp),List.flatMap_eq_nil_iff.2 (fun w hw=>by rw[if_pos (hB w hw)]),List.flatMap_eq_nil_iff.2 (fun w hw=>by rw[if_pos (hR w hw)])]
 rfl
theorem mK {L:Lz} (h:Pw L) {n:Nat} (hn:n≤L.length):uP L n=[]:=by
 rw[uP,List.flatMap_eq_nil_iff]
 intro j hj
 have hj:=List.mem_range.1 hj
 rw[Pw,List.pairwise_iff_getElem]at h
 rw[zu (fun e he=>?_),if_neg (by simp)]
 obtain⟨k,hk,rfl⟩:=List.getElem_of_mem he
 have Hl:k < j∧k < L.length:=by rw[List.length_take]at hk;omega
 rw[List.getElem_take]
 have h3:=h k j Hl.2 (by omega) Hl.1
 have e2:dH L j=L[j]'(by omega):=by simp[dH,show j < L.length by omega]
 rw[e2]
 exact h3
theorem GU {M:Lz} {x:List T} (h:Pw M) (hx:ja M x=true):uP (M++[x]) (M++[x]).length=[[tI 3,tI (M.length:Int),tI 0]]:=by
 have e:(M++[x]).length=M.length+1:=by simp
 rw[e,mL]
 have e1:(M++[x]).take M.length=M:=by simp
 have e2:dH (M++[x]) M.length=x:=by simp[dH]
 rw[e1,e2,if_pos hx]
 have e3:uP (M++[x]) M.length=uP M M.length:=by
  have hh: ∀n,n≤M.length→uP (M++[x]) n=uP M n:=by
   intro n
   induction n with
   |zero=>intro _;rfl
   |succ n ih=>
    intro hn
    rw[mL,mL,ih (by omega),List.take_append_of_le_length (by omega)]
    have:dH (M++[x]) n=dH M n:=by simp[dH,List.getElem?_append_left (show n < M.length by omega)]
    rw[this]
  exact hh _ (Nat.le_refl _)
 rw[e3,mK h (Nat.le_refl _)]
 rfl
structure BI (P B R:Lz) (c:List T):Prop where
 e:P=B++c::R
 pw:Pw P
theorem BI.perm {P B R:Lz} {c:List T} (h:BI P B R c):P.Perm (c::(R++B)):=by
 rw[h.e]
 exact List.perm_append_comm
theorem BI.RS {P B R:Lz} {c:List T} (h:BI P B R c):Pw (c::(R++B)):=Jl h.perm h.pw
theorem BI.mem {P B R:Lz} {c w:List T} (h:BI P B R c):w∈P↔w=c∨w∈R++B:=by
 rw[h.perm.mem_iff,List.mem_cons]
theorem FX {P B R:Lz} {c:List T} (h:BI P B R c):FG P (c::(R++B))=[]:=by
 rw[FG,zc (fun e he=>uD (h.perm.mem_iff.2 he)),zb (fun w hw=>lD (h.perm.mem_iff.1 hw) rfl),mK h.RS (Nat.le_refl _)]
 rfl
theorem Ae {P B R:Lz} {c:List T} (h:BI P B R c):FG P (R++B)=[[tI 2,tI (nI 0 c),tI (nI 1 c)]]:=by
 have h2:=h.RS
 rw[Pw,List.pairwise_cons]at h2
 rw[FG,zc (fun e he=>uD (h.mem.2 (.inr he))),mK h2.2 (Nat.le_refl _)]
 have:=DG (L:=R++B) (B:=B) (R:=R) (c:=c) (zu (fun e he hk=>h2.1 e he hk.symm)) (fun w hw=>lD (List.mem_append_right _ hw) rfl) (fun w hw=>lD (List.mem_append_left _ hw) rfl)
 rw[←h.e]at this
 rw[this]
 rfl
theorem Eh {P B R:Lz} {c:List T} (h:BI P B R c):FG P (c::(R++B)++[c])=[[tI 3,tI (P.length:Int),tI 0]]:=by
 rw[FG,zc (fun e he=>uD (by
  rw[List.mem_append,List.mem_singleton]at he
  rcases he with he|rfl
  · exact h.perm.mem_iff.2 he
  · exact h.mem.2 (.inl rfl))),zb (fun w hw=>lD (List.mem_append_left _ (h.perm.mem_iff.1 hw)) rfl),GU h.RS (lD List.mem_cons_self rfl),h.perm.length_eq]
 rfl
theorem w8 {P B R:Lz} {c x:List T} (h:BI P B R c) (hk:kC x=kC c) (hx:okB P x=false):FG P (x::(R++B))=[[tI 1,tI 0,tI (nI 1 x)]]:=by
 have h2:=h.RS
 rw[Pw,List.pairwise_cons]at h2
 rw[FG,xK hx (fun e he=>uD (h.mem.2 (.inr he))),zb (fun w hw=>by
  rcases h.mem.1 hw with rfl|hw
  · exact lD List.mem_cons_self hk
  · exact lD (List.mem_cons_of_mem _ hw) rfl),mK (List.pairwise_cons.2 ⟨fun e he=>by rw[hk];exact h2.1 e he,h2.2⟩) (Nat.le_refl _)]
 rfl
theorem FY {P B R:Lz} {c x:List T} (h:BI P B R c) (hx: ∀w,w∈P→¬kC x=kC w):FG P (x::(R++B))=[[tI 1,tI 0,tI (nI 1 x)],[tI 2,tI (nI 0 c),tI (nI 1 c)]]:=by
 have h2:=h.RS
 rw[Pw,List.pairwise_cons]at h2
 have ho:okB P x=false:=by
  cases hb:okB P x with
  |false=>rfl
  |true=>
   obtain⟨w,hw,he⟩:=List.any_eq_true.1 hb
   simp only[CJ,Bool.and_eq_true]at he
   exact absurd (iZ.1 he.1.1.1.1) (hx w hw)
 rw[FG,xK ho (fun e he=>uD (h.mem.2 (.inr he))),mK (List.pairwise_cons.2 ⟨fun e he=>hx e (h.mem.2 (.inr he)),h2.2⟩) (Nat.le_refl _)]
 have:=DG (L:=x::(R++B)) (B:=B) (R:=R) (c:=c) (zu (fun e he=>by
  rcases List.mem_cons.1 he with rfl|he
  · exact hx c (h.mem.2 (.inl rfl))
  · exact fun hk=>h2.1 e he hk.symm)) (fun w hw=>lD (List.mem_cons_of_mem _ (List.mem_append_right _ hw)) rfl) (fun w hw=>lD (List.mem_cons_of_mem _ (List.mem_append_left _ hw)) rfl)
 rw[←h.e]at this
 rw[this]
 rfl
theorem Dz {P B R:Lz} {c x:List T} (h:BI P B R c) (hk:kC x=kC c) (hne:CJ x c=false):okB P x=false:=by
 cases hb:okB P x with
 |false=>rfl
 |true=>
  obtain⟨w,hw,he⟩:=List.any_eq_true.1 hb
  have Hr:=he
  simp only[CJ,Bool.and_eq_true]at Hr
  have hwc:=Gq h.pw w c hw (h.mem.2 (.inl rfl)) ((iZ.1 Hr.1.1.1.1).symm.trans hk)
  subst hwc
  rw[he]at hne
  simp at hne
structure Oo (plies P:Lz):Prop where
 cq:IR P
 len:P.length≤240
 pw:Pw P
 pl: ∀c,c∈P→nI 0 c < (plies.length:Int)
 ro: ∀c,c∈P→ ∃p q l s r d,c=[tI p,tI q,tI l,tI s, .av 1 [[tI r]],tB d]
theorem Gy {M:Nat} {ah sizes places aC plies P:Lz} (h:P=fe ah sizes places aC plies plies.length) (hA:C9 sizes places M aC) (hq:places.length≤20) (hp:plies.length≤12):Oo plies P:=by
 subst h
 refine⟨fun c hc=>?_,?_,Kc _ _ _ _ _ _,fun c hc=>?_,fun c hc=>?_⟩
 · obtain⟨a,k,_,_,rfl⟩:=uJ hc
   exact⟨_,_,_,_,_,_,rfl,fun e he=>⟨_,List.mem_singleton.1 he⟩,by simp[maxLen]⟩
 · rw[Br]
   have:plies.length * aC.length≤12 * 20:=Nat.mul_le_mul hp (by have:=hA.2.1;omega)
   omega
 · obtain⟨a,k,ha,_,rfl⟩:=uJ hc
   show(a:Int) < _
   omega
 · obtain⟨a,k,_,_,rfl⟩:=uJ hc
   exact⟨_,_,_,_,_,_,rfl⟩
def Zi (sn:ByteArray) (bk ms ps us ss os:Lz) (ln wd rx ry:Int) (sizes places plies ah aR:Lz) (p:Lz×Int):Prop:=
 (p.2=0→p.1=fe ah sizes places (OL sn bk ms ps us ss os ln wd rx ry sizes places).1 plies plies.length∧C9 sizes places bk.length (OL sn bk ms ps us ss os ln wd rx ry sizes places).1)∧(¬p.2=0→p.1=[])
def RX (sn:ByteArray) (bk ms ps us ss os:Lz) (ln wd rx ry:Int) (sizes places plies ah aR:Lz):Lz×Int:=
 pk 22 [jt sn bk ms ps us ss os,mc ln wd rx ry sizes places plies,oL 7 ah,oL 1 aR] (fun p=>[oL 6 p.1,oI p.2]) (Zi sn bk ms ps us ss os ln wd rx ry sizes places plies ah aR)
theorem iO (sn:ByteArray) (bk ms ps us ss os:Lz) (ln wd rx ry:Int) (sizes places plies ah aR:Lz) (hC:OC sn bk ms ps us ss os sizes places plies ah aR) (hF:PI sizes places plies ah aR):
 ∃ts,Fn Tryz.prog 22 [jt sn bk ms ps us ss os,mc ln wd rx ry sizes places plies,oL 7 ah,oL 1 aR] [] (aQ ts) []∧(aQ ts).bY=true∧(ts=[oL 6 (RX sn bk ms ps us ss os ln wd rx ry sizes places plies ah aR).1,oI (RX sn bk ms ps us ss os ln wd rx ry sizes places plies ah aR).2]∧Zi sn bk ms ps us ss os ln wd rx ry sizes places plies ah aR (RX sn bk ms ps us ss os ln wd rx ry sizes places plies ah aR)):=by
 obtain⟨t1,f1,i1,e1,IM⟩:=wG sn bk ms ps us ss os hC.WD ln wd rx ry sizes places hC.hz hC.jS hC.hp (by have:=hF.q;omega)
 obtain⟨ts,f,i,bL,e,rfl,h2,h3,h4⟩:=vI sn bk ms ps us ss os hC.WD ln wd rx ry sizes places plies ah aR hC.hz hC.jS hC.hp (by have:=hF.q;omega) hC.hR hF.f.r hC.hlo hC.hy (by have:=hF.f.p;omega) (fun e he=>by have h3:(nL 1 e).length≤6:=hF.f.q e he;omega) _ _ ⟨t1,f1,i1,e1⟩ IM
 exact uB (enc:=fun p=>[oL 6 p.1,oI p.2]) (Q:=Zi sn bk ms ps us ss os ln wd rx ry sizes places plies ah aR) ⟨(bL,e),f,i,fun h0=>⟨h3 h0,IM (h2.1 h0).pe⟩,h4⟩
end Go.aS.Cd
end
section
namespace Go.aS
open Go
variable {P:Program} {M A:Nat→Prop} {ρ:Env} {F:Nat→Prop} {st:St} {a:Act} {w:World}
theorem wW {f:FuncId} {us ts:List W} {hp:HS} {ctr sz cV:Nat} {rows fZ:List (List C)} {v:V} (id mM:Nat) (hv:v.bY=true) (hT:qe ts=true) (hf:find hp id=some (.row sz rows)) (A3:find hp mM=some (.row cV fZ)) (hl:bu (bB [(id,bi.row sz rows),(mM,bi.row cV fZ)]) us=some ts) (hfn:Fn P f ts [] v []):
 dK P f us hp ctr v (del (del hp id) mM) (ctr+4):=by
 intro M A ρ a w n L xs hr hx
 have hin: ∀k b,find [(id,bi.row sz rows),(mM,bi.row cV fZ)] k=some b→find hp k=some b∧(k=id∨k=mM):=fun k b hb=>by
  simp only[aq]at hb
  split at hb
  · rename_i e
    subst e
    rw[←hb]
    exact⟨hf, .inl rfl⟩
  · split at hb
    · rename_i e
      subst e
      rw[←hb]
      exact⟨A3, .inr rfl⟩
    · simp[find]at hb
 have h0:=Rel.forget hr (st':=⟨n,L,[(id, .row sz rows),(mM, .row cV fZ)]⟩) rfl (fun _ _ h=>h) (fun k b hb=>(hin k b hb).1)
 let B:Nat→Prop:=fun b=>A b∧ρ id≠some (.fz b)∧ρ mM≠some (.fz b)
 have hx':wY w B ρ ts xs.toList:=⟨(fF hl).trans hx.1,fun k u x hu zg=>by
  obtain⟨c,hc,hlc⟩:=dU hl k u hu
  exact fT h0 (B:=B) (fun b hb=>hb.1) (fun k blk b hk hρ hB=>by
   rcases(hin k blk hk).2 with rfl|rfl
   · exact hB.2.1 hρ
   · exact hB.2.2 hρ) hlc (hx.2 k c x hc zg) ρ⟩
 have hs:Rel M B ρ (bt ctr) ⟨n,L,del (del hp id) mM⟩ a w:=Rel.shrink (hp:=del (del hp id) mM) hr (fun b hb=>hb.1) (fun k b hk=>by
  rw[de]at hk
  split at hk
  · simp at hk
  · rw[de]at hk
    split at hk
    · simp at hk
    · exact hk) (fun k blk b hk hρ=>by
  rw[de]at hk
  split at hk
  · simp at hk
  · rename_i Hi
    rw[de]at hk
    split at hk
    · simp at hk
    · rename_i hne
      refine⟨(zq (hr.heap k blk hk) hρ).1,fun h2=>?_,fun h2=>?_⟩
      · exact hne (hr.inj k id blk _ b hk hf hρ h2)
      · exact Hi (hr.inj k mM blk _ b hk A3 hρ h2))
 refine(jC (eb (hp:=del (del hp id) mM) (ctr:=ctr) hv hT hfn) M B ρ a w n L xs hs hx').mono ?_
 rintro e w' ⟨x,A',ρ',h1,r1,r2,r3,r4,r5⟩
 refine⟨x,A',ρ',h1,r1,r2,r3,r4,fun b hA hM=>r5.1 b ⟨hA,fun h2=>hM ((hr.heap id _ hf).lt h2).2.1,fun h2=>hM ((hr.heap mM _ A3).lt h2).2.1⟩ hM,fun b hb h2=>(r5.2 b hb h2).1⟩
theorem I3 {f:FuncId} {us ts:List W} {hp:HS} {ctr sz cV:Nat} {rows fZ:List (List C)} {K:V→HS→Nat→Prop} {Good:List W→Prop} (id mM:Nat) (hT:qe ts=true) (hf:find hp id=some (.row sz rows)) (A3:find hp mM=some (.row cV fZ)) (hl:bu (bB [(id,bi.row sz rows),(mM,bi.row cV fZ)]) us=some ts)
 (h: ∃rs,Fn P f ts [] (aQ rs) []∧(aQ rs).bY=true∧Good rs) (hk: ∀rs,Good rs→K (aQ rs) (del (del hp id) mM) (ctr+4)): ∃v aF c',dK P f us hp ctr v aF c'∧K v aF c':=by
 obtain⟨rs,h1,h2,h3⟩:=h
 exact⟨_,_,_,wW id mM h2 hT hf A3 hl h1,hk rs h3⟩
theorem Ma {id sz len l h n:Nat} {K:C→Prop} (hl:len=n+1) (h1:l=1) (h2:h=len) (AY:n=0→K (.t (.av sz []))) (hk:n≠0→K (.own id sz 1 n)):(l≤h∧h≤len)∧rf (.own id sz 0 len) l h K:=by
 subst h1 h2 hl
 by_cases hn:n=0
 · subst hn
   refine⟨by omega,?_⟩
   simp only[rf,wT]
   exact AY rfl
 · refine mo (by omega) (by omega) (by omega) ?_
   have:=hk hn
   rwa [show 0+1=1 from rfl,show n+1 - 1=n by omega]
end Go.aS
namespace Go.aS.Cd
open Go Go.Proofs
abbrev ku (sn:ByteArray) (bk ms ps us ss os:Lz) (ln wd rx ry:Int) (sizes places plies ah aR:Lz) (l:W):List W:=[jt sn bk ms ps us ss os,mc ln wd rx ry sizes places plies,oL 7 ah,oL 1 aR,l]
theorem CK {hp:HS} {id sz len:Nat} {rows:List (List C)} {xs:Lz} (hf:find hp id=some (.row sz rows)) (hR:az rows xs) (hl:len=xs.length):q9 hp (.own id sz 0 len)=some (sz,tr xs):=by
 have h:=xW (i:=0) hf hR (by omega:0+len≤xs.length)
 rw[show q9 hp (.own id sz 0 len)=elems hp (.own id sz 0 len)from rfl,h,hl]
 simp
theorem xQ {hp:HS} {d id sz i len:Nat} {rows:List (List C)} {xs:Lz} (hf:find hp id=some (.row sz rows)) (hR:az rows xs) (hl:i+len≤xs.length):cN (d+1) hp (.own id sz i len)=some (.av sz ((xs.drop i).take len)):=by
 have hl':i+len≤rows.length:=by rw[hR.len];omega
 simp only[cN,hf,true_and,hl',if_true]
 rw[hR,tR,oW]
 rfl
theorem DL {hp:HS} {sn:ByteArray} {bk ms ps us ss os:Lz} {ln wd rx ry:Int} {sizes places plies ah aR:Lz} {c:C} {t:T} (h:cN 6 hp c=some t):
 bu (bB hp) (ku sn bk ms ps us ss os ln wd rx ry sizes places plies ah aR (.one c))=some (ku sn bk ms ps us ss os ln wd rx ry sizes places plies ah aR (.one (.t t))):=by
 have h3: ∀t,cN 6 hp (.t t)=some t:=fun t=>rfl
 simp only[bu,bB,h,h3,Option.map_some]
 rfl
theorem LC {sn:ByteArray} {bk ms ps us ss os:Lz} {ln wd rx ry:Int} {sizes places plies ah aR L0 L:Lz} {rows:List (List C)} {id i len:Nat} (hR:az rows L0) (hl:i+len≤L0.length) (hL:(L0.drop i).take len=L):
 bu (bB [(id,bi.row 6 rows)]) (ku sn bk ms ps us ss os ln wd rx ry sizes places plies ah aR (.one (.own id 6 i len)))=some (ku sn bk ms ps us ss os ln wd rx ry sizes places plies ah aR (oL 6 L)):=by
 have h2:cN 6 [(id,bi.row 6 rows)] (.own id 6 i len)=some (.av 6 ((L0.drop i).take len)):=xQ (d:=5) (by simp only[find,if_true]) hR hl
 rw[hL]at h2
 exact DL h2
theorem ND {sn:ByteArray} {bk ms ps us ss os:Lz} {ln wd rx ry:Int} {sizes places plies ah aR Q:Lz} {p q l s r:Int} {d:Bool} {rows fZ:List (List C)} {id mM len:Nat} (hne:¬id=mM) (hr:rows=[.t (tI p), .t (tI q), .t (tI l), .t (tI s), .own mM 1 0 2, .t (tB d)]::tr Q) (qN:az fZ [[tI r],[tI 0]]) (hl:len=Q.length+1):
 bu (bB [(id,bi.row 6 rows),(mM,bi.row 1 fZ)]) (ku sn bk ms ps us ss os ln wd rx ry sizes places plies ah aR (.one (.own id 6 0 len)))=some (ku sn bk ms ps us ss os ln wd rx ry sizes places plies ah aR (oL 6 ([tI p,tI q,tI l,tI s, .av 1 [[tI r],[tI 0]],tB d]::Q))):=by
 apply DL
 have h2:cN 5 [(id,bi.row 6 rows),(mM,bi.row 1 fZ)] (.own mM 1 0 2)=some (.av 1 [[tI r],[tI 0]]):=xQ (d:=4) (by simp only[find,if_neg hne,if_true]) qN (by simp)
 have h3: ∀t,cN 5 [(id,bi.row 6 rows),(mM,bi.row 1 fZ)] (.t t)=some t:=fun t=>rfl
 have hf:find [(id,bi.row 6 rows),(mM,bi.row 1 fZ)] id=some (.row 6 rows):=by simp only[find,if_true]
 have hlen:rows.length=len:=by rw[hr,hl];simp[tr]
 show cN (5+1) _ _=_
 simp only[cN,hf,true_and,Nat.zero_add,List.drop_zero]
 rw[if_pos (by omega), ←hlen,List.take_length]
 rw[hr]at h2 h3⊢
 simp only[bu,h2,h3,oW,Option.map_some]
end Go.aS.Cd
end
section
namespace Go.aS.Cd
open Go Go.Proofs
set_option maxRecDepth 100000
set_option maxHeartbeats 8000000
variable [BM]
def ZE (P:Lz) (e:Int) (ts:List W):Prop:=ts=[oL 6 P,oI e]
theorem Gx (sn:ByteArray) (bk ms ps us ss os:Lz) (ln wd rx ry:Int) (sizes places plies ah aR P:Lz) (e:Int) (Lo:Te 22 [jt sn bk ms ps us ss os,mc ln wd rx ry sizes places plies,oL 7 ah,oL 1 aR] [oL 6 P,oI e]):Tg 10 [UG sn bk ms ps us ss os ln wd rx ry sizes places plies ah aR] (ZE P e):=by
 refine aK ?_
 refine ae Tryz.func10 ?_
 repeat' (conv=>whnf
          first
  |(refine ag rfl (Lo) ?_;rintro _ rfl)
  |exact dA rfl (bX rfl) (bX rfl) rfl)
 all_goals (conv=>whnf)
abbrev Zw (xs:Lz):Prop:= ∀e,e∈xs→Ov e
theorem JK (a b c:Int):Zw [[tI a,tI b,tI c]]:=fun e he=>⟨a,b,c,List.mem_singleton.1 he⟩
theorem Xq (a b c a' b' c':Int):Zw [[tI a,tI b,tI c],[tI a',tI b',tI c']]:=fun e he=>by
 rcases List.mem_cons.1 he with rfl|he
 · exact⟨a,b,c,rfl⟩
 · exact⟨a',b',c',List.mem_singleton.1 he⟩
theorem uf {w:Lz} (h:Zw w) (hl:w.length≤2):Te 11 [oL 3 w,oL 3 w] [oB true]:=by
 obtain⟨ts,h1,h2,b,rfl,h3⟩:=kK w w h h (by simp only[maxLen];omega)
 rw[h3.2 rfl]at h1 h2
 exact⟨_,h1,h2,rfl⟩
theorem Js {P:Lz} (h:(P.length:Int)=0):P=[]:=List.length_eq_zero_iff.1 (by omega)
theorem M6 {P:Lz} {n:Int} (h0:0≤n) (h1:n < 256) (h:¬ (P.length:Int)=0): ∃i:Nat,i < P.length∧(IntKind.i64.wrap n).tmod (P.length:Int)=(i:Int):=by
 rw[bj (by omega) (by omega)]
 have h2:=Int.tmod_lt_of_pos n (show(0:Int) < (P.length:Int) by omega)
 have h3:=Int.tmod_nonneg (P.length:Int) h0
 exact⟨(n.tmod (P.length:Int)).toNat,by omega,by omega⟩
theorem Mh {plies P:Lz} (h:Oo plies P) {i:Nat} (hi:i < P.length): ∃B R p q l s r d,BI P B R [tI p,tI q,tI l,tI s, .av 1 [[tI r]],tB d]∧(P.drop ((i:Int)).toNat).take (P.length - ((i:Int)).toNat)=[tI p,tI q,tI l,tI s, .av 1 [[tI r]],tB d]::R∧(P.drop 0).take (((i:Int)).toNat - 0)=B∧P[((i:Int)).toNat]? =some [tI p,tI q,tI l,tI s, .av 1 [[tI r]],tB d]∧R.length+B.length+1≤240:=by
 obtain⟨p,q,l,s,r,d,he⟩:=h.ro P[i] (List.getElem_mem hi)
 have hd:P.drop i=[tI p,tI q,tI l,tI s, .av 1 [[tI r]],tB d]::P.drop (i+1):=by rw[List.drop_eq_getElem_cons hi,he]
 refine⟨P.take i,P.drop (i+1),p,q,l,s,r,d,⟨by rw[←hd,List.take_append_drop],h.pw⟩,?_,by simp,?_,by have:=h.len;rw[List.length_drop,List.length_take];omega⟩
 · rw[Int.toNat_natCast,hd, ←List.length_drop,hd,List.take_length]
 · rw[Int.toNat_natCast,List.getElem?_eq_getElem hi,he]
theorem Jt {sn:ByteArray} {bk ms ps us ss os:Lz} {ln wd rx ry:Int} {sizes places plies ah aR:Lz} {G:List W→Prop} (h:Tg 12 (ku sn bk ms ps us ss os ln wd rx ry sizes places plies ah aR (oL 6 [])) G):
 ∃ts,Fn Tryz.prog 12 (ku sn bk ms ps us ss os ln wd rx ry sizes places plies ah aR (.one (.t (.val (.slice none 0 0))))) [] (aQ ts) []∧(aQ ts).bY=true∧G ts:=
 zB h (.cons (wi.refl _) (.cons (wi.refl _) (.cons (wi.refl _) (.cons (wi.refl _) (.cons (.one (.nil 6)) .nil)))))
theorem zy {sn:ByteArray} {bk ms ps us ss os:Lz} {ln wd rx ry:Int} {sizes places plies ah aR L:Lz} {rows:List (List C)} {id len:Nat} (hR:az rows L) (hl:len=L.length):
 bu (bB [(id,bi.row 6 rows)]) (ku sn bk ms ps us ss os ln wd rx ry sizes places plies ah aR (.one (.own id 6 0 len)))=some (ku sn bk ms ps us ss os ln wd rx ry sizes places plies ah aR (oL 6 L)):=
 LC hR (by omega) (by rw[List.drop_zero,hl,List.take_length])
theorem NE {sn:ByteArray} {bk ms ps us ss os:Lz} {ln wd rx ry:Int} {sizes places plies ah aR L:Lz} {x:List T} {rows:List (List C)} {id len:Nat} (hR:az rows (x::L)) (hl:len=L.length):
 bu (bB [(id,bi.row 6 rows)]) (ku sn bk ms ps us ss os ln wd rx ry sizes places plies ah aR (.one (.own id 6 1 len)))=some (ku sn bk ms ps us ss os ln wd rx ry sizes places plies ah aR (oL 6 L)):=
 LC hR (by rw[List.length_cons];omega) (by rw[List.drop_one,List.tail_cons,hl,List.take_length])
theorem tF {plies P B R:Lz} {c x:List T} (h:Oo plies P) (hT:BI P B R c) (hx:FC x):IR (x::(R++B)):=fun e he=>by
 rcases List.mem_cons.1 he with rfl|he
 · exact hx
 · exact h.cq e (hT.mem.2 (.inr he))
theorem Ke {plies P B R:Lz} {c:List T} (h:Oo plies P) (hT:BI P B R c):IR (R++B):=fun e he=>h.cq e (hT.mem.2 (.inr he))
theorem HY {plies P B R:Lz} {c:List T} (h:Oo plies P) (hT:BI P B R c):IR (c::(R++B)++[c]):=fun e he=>by
 rcases List.mem_append.1 he with he|he
 · exact h.cq e (hT.perm.mem_iff.2 he)
 · rw[List.mem_singleton.1 he];exact h.cq c (hT.mem.2 (.inl rfl))
theorem CO {p q l s r:Int} {d:Bool}:FC [tI p,tI q,tI l,tI s, .av 1 [[tI r]],tB d]:=⟨_,_,_,_,_,_,rfl,fun e he=>⟨_,List.mem_singleton.1 he⟩,by simp[maxLen]⟩
theorem N1 {p q l s r:Int} {d:Bool}:FC [tI p,tI q,tI l,tI s, .av 1 [[tI r],[tI 0]],tB d]:=⟨_,_,_,_,_,_,rfl,fun e he=>by
 rcases List.mem_cons.1 he with rfl|he
 · exact⟨_,rfl⟩
 · exact⟨_,List.mem_singleton.1 he⟩,by simp[maxLen]⟩
theorem MQ {p q l s r:Int} {d:Bool}:CJ [tI p,tI q,tI l,tI s, .av 1 [[tI r]],tB (!d)] [tI p,tI q,tI l,tI s, .av 1 [[tI r]],tB d]=false:=by
 cases d<;>simp[CJ,nB]
theorem MP {p q l s r:Int} {d:Bool}:CJ [tI p,tI q,tI l,tI s, .av 1 [[tI r],[tI 0]],tB d] [tI p,tI q,tI l,tI s, .av 1 [[tI r]],tB d]=false:=by
 simp[CJ,nL]
theorem Ei {P B R:Lz} {c:List T} (h:BI P B R c) (h0:(R++B).length=0):FG P []=[[tI 2,tI (nI 0 c),tI (nI 1 c)]]:=by
 have h1:=Ae h
 rw[List.length_eq_zero_iff.1 h0]at h1
 exact h1
theorem Za {plies P:Lz} (h:Oo plies P) {q l s r:Int} {d:Bool}: ∀w,w∈P→¬kC [tI (plies.length:Int),tI q,tI l,tI s, .av 1 [[tI r]],tB d]=kC w:=fun w hw hk=>by
 have h1:=h.pl w hw
 have h2:(plies.length:Int)=nI 0 w:=(kG.1 hk).1
 omega
theorem Y7 (sn:ByteArray) (bk ms ps us ss os:Lz) (ln wd rx ry:Int) (sizes places plies ah aR P:Lz) (e:Int) (hC:OC sn bk ms ps us ss os sizes places plies ah aR) (n m:Int) (rV:0≤n) (S4:n < 256) (UQ:0≤m) (qm:m < 256) (ha:C8) (Lo:PI sizes places plies ah aR→Te 10 [UG sn bk ms ps us ss os ln wd rx ry sizes places plies ah aR] [oL 6 P,oI e]) (hv:PI sizes places plies ah aR→ ∀L,IR L→L.length≤1000→Tg 12 (ku sn bk ms ps us ss os ln wd rx ry sizes places plies ah aR (oL 6 L)) (GVe e P L)) (hK:PI sizes places plies ah aR→(¬e=0→P=[])∧(e=0→Oo plies P)):Tg 3 [UG sn bk ms ps us ss os ln wd rx ry sizes places plies ah aR, .one (.t (.val (.int .u8 n))), .one (.t (.val (.int .u8 m)))] GTr:=by
 refine ae Tryz.func3 ?_
 repeat' (conv=>whnf
          first
  |(refine aA (fun h=>?_) (fun h=>?_))
  |(refine bR (fun h=>?_) (fun h=>?_))
  |(refine aG (fun h=>?_) (fun h=>?_))
  |(obtain⟨i,hi,hie⟩:=M6 (P:=P) rV S4 (by assumption);rw[hie];have LA:=(hK (hb (gV (by assumption)))).2 (by assumption);obtain⟨B,R,p,q,l,s,r,d,hT,mQ,wK,hg,IK⟩:=Mh LA hi)
  |(refine eW (by omega) (by omega) ?_;rw[mQ])
  |(refine eW (by omega) (by omega) ?_;rw[wK];rcases vh:B with _|⟨b0,Bt⟩<;>(have BV:=congrArg List.length vh;simp only[List.length_cons,List.length_nil]at BV))
  |(refine Ma (n:=(R++B).length) ?_ rfl rfl ?_ ?_;(solve|simp[tr,vh]|(simp[tr,vh];omega));intro E1;rotate_left;intro E1)
  |(refine And.intro (by omega) (Exists.intro _ (And.intro hg ?_)))
  |(refine And.intro ⟨by first|(simp only[List.length_map,List.length_append,List.length_cons,List.length_nil,List.take_zero,List.take_nil,List.nil_append,tr,aU,maxLen]at IK⊢;done)|(simp only[List.length_map,List.length_append,List.length_cons,List.length_nil,List.take_zero,List.take_nil,List.nil_append,tr,aU,maxLen]at IK⊢;omega),by first|(simp only[List.length_map,List.length_append,List.length_cons,List.length_nil,List.take_zero,List.take_nil,List.nil_append,tr,aU,maxLen]at IK⊢;done)|(simp only[List.length_map,List.length_append,List.length_cons,List.length_nil,List.take_zero,List.take_nil,List.nil_append,tr,aU,maxLen]at IK⊢;omega)⟩ ?_)
  |(refine And.intro (by kernel_rfl) ?_)
  |(refine And.intro (by omega) ?_)
  |(refine ag rfl (qQ sn bk ms ps us ss os hC.WD ln wd rx ry sizes places plies ah aR hC.hy hC.kT hC.hR hC.BW) ?_;rintro _ ⟨b,rfl,hb⟩)
  |(refine ag rfl (ha) ?_;rintro _ rfl)
  |(refine ag rfl (Lo (hb (gV (by assumption)))) ?_;rintro _ rfl)
  |(rw[CK (xs:=[tI p,tI q,tI l,tI s, .av 1 [[tI r]],tB d]::(R++B))];rotate_left;exact rfl;(solve|simp[az,tr,vh]);(solve|simp[vh]|(simp[vh];omega)))
  |(refine tH _ rfl (by rfl) (zy (L:=[tI p,tI q,tI l,tI s, .av 1 [[tI r]],tB d]::(R++B)) ?_ ?_) (hv (hb (gV (by assumption))) ([tI p,tI q,tI l,tI s, .av 1 [[tI r]],tB d]::(R++B)) (tF LA hT CO) (by simp only[List.length_append,List.length_cons,List.length_nil]at IK⊢;omega)) ?_;(solve|simp[az,tr,cellsOf,vh]);(solve|simp[tr,vh]|(simp[tr,vh];omega));rintro _ ⟨zs,rfl,zf,_⟩;have AT:zs=[]:=(zf (by assumption)).trans (FX hT);subst AT)
  |(refine tH _ rfl (by rfl) (zy (L:=[tI p,tI q,tI l,tI s, .av 1 [[tI r]],tB d]::(R++B)++[[tI p,tI q,tI l,tI s, .av 1 [[tI r]],tB d]]) ?_ ?_) (hv (hb (gV (by assumption))) ([tI p,tI q,tI l,tI s, .av 1 [[tI r]],tB d]::(R++B)++[[tI p,tI q,tI l,tI s, .av 1 [[tI r]],tB d]]) (HY LA hT) (by simp only[List.length_append,List.length_cons,List.length_nil]at IK⊢;omega)) ?_;(solve|simp[az,tr,cellsOf,vh]);(solve|simp[tr,vh]|(simp[tr,vh];omega));rintro _ ⟨zs,rfl,zf,_⟩;have AT:zs=[[tI 3,tI (P.length:Int),tI 0]]:=(zf (by assumption)).trans (Eh hT);subst AT)
  |(refine tH _ rfl (by rfl) (zy (L:=[tI p,tI q,tI l,tI s, .av 1 [[tI r]],tB (!d)]::(R++B)) ?_ ?_) (hv (hb (gV (by assumption))) ([tI p,tI q,tI l,tI s, .av 1 [[tI r]],tB (!d)]::(R++B)) (tF LA hT CO) (by simp only[List.length_append,List.length_cons,List.length_nil]at IK⊢;omega)) ?_;(solve|simp[az,tr,cellsOf,vh]);(solve|simp[tr,vh]|(simp[tr,vh];omega));rintro _ ⟨zs,rfl,zf,_⟩;have AT:zs=[[tI 1,tI 0,tI q]]:=(zf (by assumption)).trans (w8 hT rfl (Dz hT rfl MQ));subst AT)
  |(refine tH _ rfl (by rfl) (zy (L:=[tI (plies.length:Int),tI q,tI l,tI s, .av 1 [[tI r]],tB d]::(R++B)) ?_ ?_) (hv (hb (gV (by assumption))) ([tI (plies.length:Int),tI q,tI l,tI s, .av 1 [[tI r]],tB d]::(R++B)) (tF LA hT CO) (by simp only[List.length_append,List.length_cons,List.length_nil]at IK⊢;omega)) ?_;(solve|simp[az,tr,cellsOf,vh]);(solve|simp[tr,vh]|(simp[tr,vh];omega));rintro _ ⟨zs,rfl,zf,_⟩;have AT:zs=[[tI 1,tI 0,tI q],[tI 2,tI p,tI q]]:=(zf (by assumption)).trans (FY hT (Za LA));subst AT)
  |(refine tH _ rfl (by rfl) (NE (L:=(R++B)) (x:=[tI p,tI q,tI l,tI s, .av 1 [[tI r]],tB d]) ?_ ?_) (hv (hb (gV (by assumption))) (R++B) (Ke LA hT) (by simp only[List.length_append,List.length_cons,List.length_nil]at IK⊢;omega)) ?_;(solve|simp[az,tr,cellsOf,vh]);(solve|simp[tr,vh]|(simp[tr,vh];omega));rintro _ ⟨zs,rfl,zf,_⟩;have AT:zs=[[tI 2,tI p,tI q]]:=(zf (by assumption)).trans (Ae hT);subst AT)
  |(refine ag rfl (hv (hb (gV (by assumption))) [] (fun e he=>by simp at he) (by simp)) ?_;rintro _ ⟨zs,rfl,zf,_⟩;have AT:zs=[[tI 2,tI p,tI q]]:=(zf (by assumption)).trans (Ei hT E1);subst AT)
  |(refine I3 _ 232 rfl (by rfl) (by rfl) (ND (Q:=(R++B)) (p:=p) (q:=q) (l:=l) (s:=s) (r:=r) (d:=d) (by decide) rfl rfl ?_) (hv (hb (gV (by assumption))) ([tI p,tI q,tI l,tI s, .av 1 [[tI r],[tI 0]],tB d]::(R++B)) (tF LA hT N1) (by simp only[List.length_append,List.length_cons,List.length_nil]at IK⊢;omega)) ?_;(solve|simp[tr,vh]|(simp[tr,vh];omega));rintro _ ⟨zs,rfl,zf,_⟩;have AT:zs=[[tI 1,tI 0,tI q]]:=(zf (by assumption)).trans (w8 hT rfl (Dz hT rfl MP));subst AT)
  |(have YN:P=[]:=(hK (hb (gV (by assumption)))).1 (by assumption);subst YN;refine ag rfl (hv (hb (gV (by assumption))) [] (fun e he=>by simp at he) (by simp)) ?_;rintro _ ⟨zs,rfl,_,hz9⟩;have AT:=hz9 (by assumption);subst AT)
  |(have YN:P=[]:=Js (by assumption);subst YN;refine ag rfl (Jt (hv (hb (gV (by assumption))) [] (fun e he=>by simp at he) (by simp))) ?_;rintro _ ⟨zs,rfl,zf,_⟩;have AT:zs=[]:=zf (by assumption);subst AT)
  |(refine jk (qJ rfl (show az _ [[tI 9,tI e,tI 0]]from rfl) rfl) (uf (JK 9 e 0) (by simp)) ?_ ?_;(rintro _ rfl;rfl);rintro _ rfl)
  |(refine jk (qJ rfl (show az _ [[tI 2,tI p,tI q]]from rfl) rfl) (uf (JK 2 p q) (by simp)) ?_ ?_;(rintro _ rfl;rfl);rintro _ rfl)
  |(refine jk (qJ rfl (show az _ [[tI 3,tI (P.length:Int),tI 0]]from rfl) rfl) (uf (JK 3 (P.length:Int) 0) (by simp)) ?_ ?_;(rintro _ rfl;rfl);rintro _ rfl)
  |(refine jk (qJ rfl (show az _ [[tI 1,tI 0,tI q]]from rfl) rfl) (uf (JK 1 0 q) (by simp)) ?_ ?_;(rintro _ rfl;rfl);rintro _ rfl)
  |(refine jk (qJ rfl (show az _ [[tI 1,tI 0,tI q],[tI 2,tI p,tI q]]from rfl) rfl) (uf (Xq 1 0 q 2 p q) (by simp)) ?_ ?_;(rintro _ rfl;rfl);rintro _ rfl)
  |exact g1 rfl rfl rfl)
 all_goals (conv=>whnf)
end Go.aS.Cd
end
section
namespace Go.aS.Cd
open Go Go.Proofs
set_option maxRecDepth 100000
variable [BM]
theorem oK (hw:C8) {x:List T} (h:iI N0 x) {n m:Int} (h1:0≤n) (h2:n < 256) (h3:0≤m) (h4:m < 256):Fn Tryz.prog 3 [.agg (x.map .t), .one (.t (.val (.int .u8 n))), .one (.t (.val (.int .u8 m)))] [] (bV true) []:=by
 obtain⟨sn,bk,ms,ps,us,ss,os,ln,wd,rx,ry,sizes,places,plies,ah,aR,rfl,hC,_⟩:=TL h
 obtain⟨ts,f,_,rfl⟩:=Y7 sn bk ms ps us ss os ln wd rx ry sizes places plies ah aR (RX sn bk ms ps us ss os ln wd rx ry sizes places plies ah aR).1 (RX sn bk ms ps us ss os ln wd rx ry sizes places plies ah aR).2 hC n m h1 h2 h3 h4 hw
  (fun hF=>by
    obtain⟨ts,f,i,rfl,_⟩:=iO sn bk ms ps us ss os ln wd rx ry sizes places plies ah aR hC hF
    exact Gx sn bk ms ps us ss os ln wd rx ry sizes places plies ah aR _ _ ⟨_,f,i,rfl⟩)
  (fun hF L hL hl=>by
    obtain⟨ts,f,i,rfl,hq⟩:=iO sn bk ms ps us ss os ln wd rx ry sizes places plies ah aR hC hF
    exact vH sn bk ms ps us ss os ln wd rx ry sizes places plies ah aR _ _ ⟨_,f,i,rfl⟩ (fun h0=>by
     have hk:=Gy (hq.1 h0).1 (hq.1 h0).2 hF.q hF.f.p
     exact⟨hk.cq,Gq hk.pw,by have:=hk.len;omega⟩) L hL hl)
  (fun hF=>by
    obtain⟨ts,f,i,rfl,hq⟩:=iO sn bk ms ps us ss os ln wd rx ry sizes places plies ah aR hC hF
    exact⟨hq.2,fun h0=>Gy (hq.1 h0).1 (hq.1 h0).2 hF.q hF.f.p⟩)
 exact f
end Go.aS.Cd
end
section
namespace Go.aS.Cd
open Go Go.Proofs
set_option maxRecDepth 100000
set_option maxHeartbeats 2000000
variable [BM]
def VN (row:List T) (bL:Lz) (m:Nat) (vs:List V) (xss:List (Lz)):Prop:= ∃ (i:Nat) (n:Int),i≤bL.length∧m=bL.length - i∧vs=[iV .i64 n,iV .i64 (i:Int)]∧n=((bL.take i).countP Jw:Int)∧xss=[[row]]
theorem DA {bL:Lz} {i:Nat} {e:List T} (hs:bL[((i:Int)).toNat]? =some e):(bL.take (i+1)).countP Jw=(bL.take i).countP Jw+if Jw e=true then 1 else 0:=by
 have hs':bL[i]? =some e:=by simpa using hs
 rw[List.take_add_one,hs',List.countP_append]
 simp[List.countP_cons]
theorem VN.hit {row:List T} {p q l s:Int} {x:T} {d:Bool} {bL:Lz} {i:Nat} {n:Int} (hi:(i:Int) < (bL.length:Int)) (hl:bL.length≤1000000) (hn:n=((bL.take i).countP Jw:Int)) (hs:bL[((i:Int)).toNat]? =some [tI p,tI q,tI l,tI s,x,tB d]) (h2:(!d)=true):VN row bL (bL.length - (i+1)) [iV .i64 (IntKind.i64.wrap (n+1)),iV .i64 (IntKind.i64.wrap ((i:Int)+1))] [[row]]:=by
 have hb:(bL.take i).countP Jw≤i:=Nat.le_trans List.countP_le_length (by rw[List.length_take];omega)
 refine⟨i+1,n+1,by omega,rfl,by rw[bj (by omega) (by omega),bj (by omega) (by omega)];rfl,?_,rfl⟩
 rw[DA hs,if_pos (show Jw [tI p,tI q,tI l,tI s,x,tB d]=true from h2),hn]
 rfl
theorem VN.eU {row:List T} {p q l s:Int} {x:T} {d:Bool} {bL:Lz} {i:Nat} {n:Int} (hi:(i:Int) < (bL.length:Int)) (hl:bL.length≤1000000) (hn:n=((bL.take i).countP Jw:Int)) (hs:bL[((i:Int)).toNat]? =some [tI p,tI q,tI l,tI s,x,tB d]) (h2:(!d)=false):VN row bL (bL.length - (i+1)) [iV .i64 n,iV .i64 (IntKind.i64.wrap ((i:Int)+1))] [[row]]:=by
 refine⟨i+1,n,by omega,rfl,by rw[bj (by omega) (by omega)];rfl,?_,rfl⟩
 rw[DA hs,if_neg (show ¬Jw [tI p,tI q,tI l,tI s,x,tB d]=true by show ¬ (!d)=true;rw[h2];simp),hn]
 rfl
def tq (row:List T) (bL:Lz) (N:Nat) (m:Nat) (vs:List V) (xss:List (Lz)):Prop:= ∃ (s:Nat) (n:Int),s≤N∧m=N - s∧vs=[iV .i64 n,iV .i64 (s:Int)]∧n=(bL.countP (Jx (s:Int)):Int)∧xss=[[row]]
theorem tq.next {row:List T} {bL:Lz} {N s:Nat} {n:Int} (hs:(s:Int) < (N:Int)) (hN:N≤maxLen) (hl:bL.length≤1000000) (hn:n=(bL.countP (Jx (s:Int)):Int)):tq row bL N (N - (s+1)) [iV .i64 (IntKind.i64.wrap (n+(bL.countP (Bw (s:Int)):Int))),iV .i64 (IntKind.i64.wrap ((s:Int)+1))] [[row]]:=by
 simp only[maxLen]at hN
 have h1:=List.countP_le_length (p:=Jx ((s:Int)+1)) (l:=bL)
 have h2:=lt_succ bL s
 refine⟨s+1,n+(bL.countP (Bw (s:Int)):Int),by omega,rfl,by rw[bj (by omega) (by omega),bj (by omega) (by omega)];rfl,?_,rfl⟩
 rw[show(((s+1:Nat):Int))=(s:Int)+1 from rfl,h2,hn]
 rfl
def VP (row:List T) (sizes places:Lz) (s:Int) (m:Nat) (vs:List V) (xss:List (Lz)):Prop:= ∃ (k:Nat) (n:Int),k≤places.length∧m=places.length - k∧vs=[iV .i64 n,iV .i64 (k:Int)]∧n=((places.take k).countP (IB sizes s):Int)∧xss=[[row]]
theorem Dl {sizes places:Lz} {s:Int} {k:Nat} {e:List T} (hs:places[((k:Int)).toNat]? =some e):(places.take (k+1)).countP (IB sizes s)=(places.take k).countP (IB sizes s)+if IB sizes s e=true then 1 else 0:=by
 have hs':places[k]? =some e:=by simpa using hs
 rw[List.take_add_one,hs',List.countP_append]
 simp[List.countP_cons]
theorem VP.hit {row r:List T} {sizes places:Lz} {s n g a:Int} {k:Nat} (hk:(k:Int) < (places.length:Int)) (hl:places.length≤1000000) (hn:n=((places.take k).countP (IB sizes s):Int)) (hs:places[((k:Int)).toNat]? =some (tI g::r)) (h1:sizes[g.toNat]? =some [tI a]) (h2:a=s):VP row sizes places s (places.length - (k+1)) [iV .i64 (IntKind.i64.wrap (n+1)),iV .i64 (IntKind.i64.wrap ((k:Int)+1))] [[row]]:=by
 have hb:(places.take k).countP (IB sizes s)≤k:=Nat.le_trans List.countP_le_length (by rw[List.length_take];omega)
 refine⟨k+1,n+1,by omega,rfl,by rw[bj (by omega) (by omega),bj (by omega) (by omega)];rfl,?_,rfl⟩
 rw[Dl hs,if_pos (by
  simp only[IB,decide_eq_true_eq]
  show nI 0 (tf sizes g)=s
  rw[kQ h1]
  exact h2),hn]
 rfl
theorem VP.eU {row r:List T} {sizes places:Lz} {s n g a:Int} {k:Nat} (hk:(k:Int) < (places.length:Int)) (hl:places.length≤1000000) (hn:n=((places.take k).countP (IB sizes s):Int)) (hs:places[((k:Int)).toNat]? =some (tI g::r)) (h1:sizes[g.toNat]? =some [tI a]) (h2:¬a=s):VP row sizes places s (places.length - (k+1)) [iV .i64 n,iV .i64 (IntKind.i64.wrap ((k:Int)+1))] [[row]]:=by
 refine⟨k+1,n,by omega,rfl,by rw[bj (by omega) (by omega)];rfl,?_,rfl⟩
 rw[Dl hs,if_neg (by
  simp only[IB,decide_eq_true_eq]
  show ¬nI 0 (tf sizes g)=s
  rw[kQ h1]
  exact h2),hn]
 rfl
structure CtK (M:Nat) (sizes places aC plies bL:Lz):Prop where
 cx: ∀e,e∈bL→Zv e
 len:bL.length≤1000000
 lo: ∀c,c∈bL→0≤nI 3 c
 hi: ∀c,c∈bL→nI 3 c < (M:Int)
 ga:C6 sizes.length places
 le: ∀s:Int,(bL.countP (Bw s):Int)≤((plies.length * places.countP (IB sizes s):Nat):Int)
end Go.aS.Cd
end
section
namespace Go.aS.Cd
open Go Go.Proofs
set_option maxRecDepth 100000
theorem CR {Tb:Tables} {F F':Array Func}: ∀l:List ResultVar,cO ⟨Tb,F⟩ l=cO ⟨Tb,F'⟩ l
 | []=>rfl
 | .tmp t::r=>by simp only[cO,CR (F:=F) (F':=F') r]
 | .cell t ty::r=>by
   simp only[cO,CR (F:=F) (F':=F') r]
   rfl
theorem MS {n m:Nat} {fn:Func} {rs:List ResultVar} {c:Rc} {rv:List Rv} {a b:Bool} (h:Tryz.prog.funcs[n]? =some fn) (hi:NG Tryz.progTables fn=some (m,rs,c)) (h4:cO ⟨Tryz.progTables, #[]⟩ rs=some rv) (h5:fu m c=true):zY Tryz.prog n ⟨m,c,rv,a,b⟩:=by
 obtain⟨b,h1,h2,h3,rfl⟩:=zC (P:=Tryz.prog) hi
 exact⟨fn,b,h,h1,h2,h3,(CR _).trans h4,h5⟩
def bC {n m:Nat} {fn:Func} {rs:List ResultVar} {c:Rc} {rv:List Rv} (h:Tryz.prog.funcs[n]? =some fn) (a b:Bool) (hi:NG Tryz.progTables fn=some (m,rs,c):=by conv=>lhs;cbv) (h4:cO ⟨Tryz.progTables, #[]⟩ rs=some rv:=by conv=>lhs;cbv) (h5:fu m c=true:=by kernel_rfl): {fr:Aa // zY Tryz.prog n fr}:=⟨⟨m,c,rv,a,b⟩,MS h hi h4 h5⟩
def z9:=bC Tryz.func9 true false
def z11:=bC Tryz.func11 true false
def z12:=bC Tryz.func12 false false
def z13:=bC Tryz.func13 true false
def z14:=bC Tryz.func14 true false
def z15:=bC Tryz.func15 true false
def z16:=bC Tryz.func16 true false
def z22:=bC Tryz.func22 true false
def z27:=bC Tryz.func27 true false
def z28:=bC Tryz.func28 true false
def z29:=bC Tryz.func29 true false
def z30:=bC Tryz.func30 true false
def z31:=bC Tryz.func31 true false
def z32:=bC Tryz.func32 true false
def z33:=bC Tryz.func33 true false
def z34:=bC Tryz.func34 true false
def z35:=bC Tryz.func35 true false
def z36:=bC Tryz.func36 true false
def z42:=bC Tryz.func42 true false
def z48:=bC Tryz.func48 true false
def z49:=bC Tryz.func49 true false
def z50:=bC Tryz.func50 true false
def z51:=bC Tryz.func51 true false
def z52:=bC Tryz.func52 true false
def z53:=bC Tryz.func53 true false
def z54:=bC Tryz.func54 true false
def z55:=bC Tryz.func55 true false
def z56:=bC Tryz.func56 true false
def z57:=bC Tryz.func57 true false
def z58:=bC Tryz.func58 true false
def z59:=bC Tryz.func59 true false
def z60:=bC Tryz.func60 true false
def z62:=bC Tryz.func62 true false
def z63:=bC Tryz.func63 true true
def z65:=bC Tryz.func65 true false
def z66:=bC Tryz.func66 true false
def z67:=bC Tryz.func67 true false
def z68:=bC Tryz.func68 true false
def z69:=bC Tryz.func69 true false
def z74:=bC Tryz.func74 true false
def z75:=bC Tryz.func75 true false
def z76:=bC Tryz.func76 true false
def z77:=bC Tryz.func77 true false
def z78:=bC Tryz.func78 true false
def z79:=bC Tryz.func79 true false
def z80:=bC Tryz.func80 true false
def Z9:=bC Tryz.func81 true false
def z82:=bC Tryz.func82 true false
def Z8:=bC Tryz.func83 true false
def Z7:=bC Tryz.func84 true false
def z85:=bC Tryz.func85 true false
def Z6:=bC Tryz.func86 true true
def z87:=bC Tryz.func87 true false
def Z5:=bC Tryz.func88 true false
def Z4:=bC Tryz.func89 true false
def Z3:=bC Tryz.func90 true false
def z91:=bC Tryz.func91 true false
def Z2:=bC Tryz.func92 true false
def z93:=bC Tryz.func93 true false
def Z1:=bC Tryz.func97 true false
def Z0:=bC Tryz.func98 true false
def Rf:=bC Tryz.func100 true false
def Re:=bC Tryz.func101 true false
def Rb:=bC Tryz.func102 true false
def Ra:=bC Tryz.func104 true false
def z105:=bC Tryz.func105 true false
def Q9:=bC Tryz.func106 true false
def z107:=bC Tryz.func107 true false
def Q8:=bC Tryz.func108 true false
def z109:=bC Tryz.func109 true true
def Q7:=bC Tryz.func118 true false
def z119:=bC Tryz.func119 true false
def Q6:=bC Tryz.func120 true false
def Q5:=bC Tryz.func121 true false
def Q4:=bC Tryz.func122 true false
def Q3:=bC Tryz.func123 true false
def z124:=bC Tryz.func124 true false
def Q2:=bC Tryz.func125 true false
def Q1:=bC Tryz.func126 true false
def QZ:=bC Tryz.func129 true false
def z130:=bC Tryz.func130 true false
def z131:=bC Tryz.func131 true false
def QY:=bC Tryz.func132 true false
def QX:=bC Tryz.func133 true false
def QW:=bC Tryz.func134 true false
def QV:=bC Tryz.func135 true false
def QU:=bC Tryz.func136 true false
def z138:=bC Tryz.func138 true false
def z139:=bC Tryz.func139 true false
def QT:=bC Tryz.func140 true false
def z141:=bC Tryz.func141 true false
def QS:=bC Tryz.func142 true false
def z148:=bC Tryz.func148 true false
def QR:=bC Tryz.func149 true false
def QO:=bC Tryz.func151 false false
def z152:=bC Tryz.func152 true false
def z156:=bC Tryz.func156 true false
def z157:=bC Tryz.func157 true false
def QN:=bC Tryz.func158 true false
def z159:=bC Tryz.func159 true false
def z160:=bC Tryz.func160 true false
def QM:=bC Tryz.func161 true false
def z162:=bC Tryz.func162 true false
def QL:=bC Tryz.func163 true false
def z164:=bC Tryz.func164 true false
def QK:=bC Tryz.func165 true false
def QJ:=bC Tryz.func166 true false
def z167:=bC Tryz.func167 true false
def z168:=bC Tryz.func168 true false
def QI:=bC Tryz.func169 true false
def QH:=bC Tryz.func170 true false
def z173:=bC Tryz.func173 true true
def QG:=bC Tryz.func174 true false
def z175:=bC Tryz.func175 true false
def QF:=bC Tryz.func177 true false
def QE:=bC Tryz.func178 true false
def QD:=bC Tryz.func180 true false
def QC:=bC Tryz.func181 true false
def z182:=bC Tryz.func182 true false
def z183:=bC Tryz.func183 true false
def QB:=bC Tryz.func184 true false
def QA:=bC Tryz.func187 true false
def Qy:=bC Tryz.func188 true false
def Qx:=bC Tryz.func189 true false
def Qw:=bC Tryz.func190 true false
def Qv:=bC Tryz.func191 true false
def Qu:=bC Tryz.func192 true false
def z193:=bC Tryz.func193 true false
def Qt:=bC Tryz.func197 true false
def z198:=bC Tryz.func198 true false
def Qs:=bC Tryz.func199 true false
def Qr:=bC Tryz.func200 true false
def z201:=bC Tryz.func201 true false
def Qq:=bC Tryz.func202 true false
def Qp:=bC Tryz.func205 true false
def Qo:=bC Tryz.func209 true false
def z210:=bC Tryz.func210 true false
def Qn:=bC Tryz.func211 true false
def z212:=bC Tryz.func212 true false
def z213:=bC Tryz.func213 true false
def Qm:=bC Tryz.func214 true false
def Ql:=bC Tryz.func215 true false
def Qk:=bC Tryz.func217 true false
def z218:=bC Tryz.func218 true false
def Qj:=bC Tryz.func220 true false
def P9:=bC Tryz.func221 true false
def z222:=bC Tryz.func222 true false
def P8:=bC Tryz.func223 true false
def P7:=bC Tryz.func224 true false
def P6:=bC Tryz.func225 true false
def z229:=bC Tryz.func229 true false
def P5:=bC Tryz.func230 true false
def P4:=bC Tryz.func231 true false
def z232:=bC Tryz.func232 true false
def z233:=bC Tryz.func233 true false
def z234:=bC Tryz.func234 true false
def P3:=bC Tryz.func235 true false
def z236:=bC Tryz.func236 true false
def P0:=bC Tryz.func237 true false
def PZ:=bC Tryz.func239 true true
def PY:=bC Tryz.func240 true false
def PX:=bC Tryz.func241 true false
def PW:=bC Tryz.func242 true false
def PV:=bC Tryz.func243 true false
def PU:=bC Tryz.func244 true false
def PT:=bC Tryz.func245 true false
def PS:=bC Tryz.func246 true false
def PR:=bC Tryz.func247 true false
def PP:=bC Tryz.func248 true false
def PO:=bC Tryz.func249 true false
def PN:=bC Tryz.func254 true false
end Go.aS.Cd
end
section
namespace Go.aS.Cd
open Go Go.Proofs
set_option maxRecDepth 100000
def TH:List (Nat×Aa):=[(65,z65.1),(239,PZ.1),(88,Z5.1),(140,QT.1),(198,z198.1),(224,P7.1),(225,P6.1),(200,Qr.1),(229,z229.1),(215,Ql.1),(192,Qu.1),(190,Qw.1),(241,PX.1),(122,Q4.1),(243,PV.1),(230,P5.1),(201,z201.1),(184,QB.1),(141,z141.1),(236,z236.1),(126,Q1.1),(223,P8.1),(248,PP.1),(167,z167.1),(120,Q6.1),(55,z55.1),(222,z222.1),(159,z159.1),(245,PT.1),(233,z233.1),(221,P9.1),(220,Qj.1),(211,Qn.1),(205,Qp.1),(188,Qy.1),(169,QI.1),(161,QM.1),(152,z152.1),(148,z148.1),(139,z139.1),(121,Q5.1),(107,z107.1),(106,Q9.1),(80,z80.1),(246,PS.1),(218,z218.1),(217,Qk.1),(197,Qt.1),(174,QG.1),(156,z156.1),(92,Z2.1),(29,z29.1),(242,PW.1),(240,PY.1),(237,P0.1),(177,QF.1),(105,z105.1),(93,z93.1),(79,z79.1),(22,z22.1),(66,z66.1),(31,z31.1),(12,z12.1),(249,PO.1),(244,PU.1),(232,z232.1),(231,P4.1),(213,z213.1),(212,z212.1),(210,z210.1),(191,Qv.1),(189,Qx.1),(187,QA.1),(182,z182.1),(181,QC.1),(168,z168.1),(162,z162.1),(142,QS.1),(125,Q2.1),(108,Q8.1),(91,z91.1),(90,Z3.1),(83,Z8.1),(74,z74.1),(68,z68.1),(51,z51.1),(48,z48.1),(36,z36.1),(11,z11.1),(254,PN.1),(247,PR.1),(170,QH.1),(160,z160.1),(149,QR.1),(132,QY.1),(129,QZ.1),(109,z109.1),(89,Z4.1),(87,z87.1),(86,Z6.1),(63,z63.1),(214,Qm.1),(202,Qq.1),(183,z183.1),(180,QD.1),(178,QE.1),(175,z175.1),(173,z173.1),(166,QJ.1),(165,QK.1),(157,z157.1),(151,QO.1),(134,QW.1),(130,z130.1),(124,z124.1),(123,Q3.1),(119,z119.1),(118,Q7.1),(102,Rb.1),(101,Re.1),(100,Rf.1),(97,Z1.1),(82,z82.1),(81,Z9.1),(78,z78.1),(76,z76.1),(69,z69.1),(67,z67.1),(57,z57.1),(56,z56.1),(54,z54.1),(50,z50.1),(49,z49.1),(42,z42.1),(35,z35.1),(30,z30.1),(15,z15.1),(14,z14.1),(13,z13.1),(235,P3.1),(234,z234.1),(209,Qo.1),(199,Qs.1),(193,z193.1),(164,z164.1),(163,QL.1),(158,QN.1),(138,z138.1),(136,QU.1),(135,QV.1),(133,QX.1),(131,z131.1),(104,Ra.1),(98,Z0.1),(85,z85.1),(84,Z7.1),(77,z77.1),(75,z75.1),(62,z62.1),(60,z60.1),(59,z59.1),(58,z58.1),(53,z53.1),(52,z52.1),(34,z34.1),(33,z33.1),(32,z32.1),(28,z28.1),(27,z27.1),(16,z16.1),(9,z9.1)]
abbrev gQ:Nat→Option Aa:=find TH
theorem bD:Ea Tryz.prog gQ:=Bd (show Iy Tryz.prog TH from⟨z65.2,PZ.2,Z5.2,QT.2,z198.2,P7.2,P6.2,Qr.2,z229.2,Ql.2,Qu.2,Qw.2,PX.2,Q4.2,PV.2,P5.2,z201.2,QB.2,z141.2,z236.2,Q1.2,P8.2,PP.2,z167.2,Q6.2,z55.2,z222.2,z159.2,PT.2,z233.2,P9.2,Qj.2,Qn.2,Qp.2,Qy.2,QI.2,QM.2,z152.2,z148.2,z139.2,Q5.2,z107.2,Q9.2,z80.2,PS.2,z218.2,Qk.2,Qt.2,QG.2,z156.2,Z2.2,z29.2,PW.2,PY.2,P0.2,QF.2,z105.2,z93.2,z79.2,z22.2,z66.2,z31.2,z12.2,PO.2,PU.2,z232.2,P4.2,z213.2,z212.2,z210.2,Qv.2,Qx.2,QA.2,z182.2,QC.2,z168.2,z162.2,QS.2,Q2.2,Q8.2,z91.2,Z3.2,Z8.2,z74.2,z68.2,z51.2,z48.2,z36.2,z11.2,PN.2,PR.2,QH.2,z160.2,QR.2,QY.2,QZ.2,z109.2,Z4.2,z87.2,Z6.2,z63.2,Qm.2,Qq.2,z183.2,QD.2,QE.2,z175.2,z173.2,QJ.2,QK.2,z157.2,QO.2,QW.2,z130.2,z124.2,Q3.2,z119.2,Q7.2,Rb.2,Re.2,Rf.2,Z1.2,z82.2,Z9.2,z78.2,z76.2,z69.2,z67.2,z57.2,z56.2,z54.2,z50.2,z49.2,z42.2,z35.2,z30.2,z15.2,z14.2,z13.2,P3.2,z234.2,Qo.2,Qs.2,z193.2,z164.2,QL.2,QN.2,z138.2,QU.2,QV.2,QX.2,z131.2,Ra.2,Z0.2,z85.2,Z7.2,z77.2,z75.2,z62.2,z60.2,z59.2,z58.2,z53.2,z52.2,z34.2,z33.2,z32.2,z28.2,z27.2,z16.2,z9.2,trivial⟩)
def l0:List (Nat×List W×V):=[]
theorem k0:bS Tryz.prog (bN l0):=Ja
def a1:List W:=[.agg [.t (bo false), .t (nl), .t (nl)], .agg [.t (bo false), .t (nl), .t (nl)]]
def v1:V:= .w (.one (.t (i 0)))
theorem r1:Fn Tryz.prog 177 a1 [] v1 []∧v1.bY=true:=aZ (fuel:=10000) (d:=60) bD k0 (show gQ 177=some _ from rfl) (by kernel_rfl)
def l1:List (Nat×List W×V):=(177,a1,v1)::l0
theorem k1:bS Tryz.prog (bN l1):=aV k0 r1
def a2:List W:=[.one (.t (.av 2 [[i 0,i 0],[i 10,i 0],[i 10,i 10],[i 0,i 10]]))]
def v2:V:= .w (.one (.t (i 0)))
theorem r2:Fn Tryz.prog 55 a2 [] v2 []∧v2.bY=true:=aZ (fuel:=10000) (d:=60) bD k1 (show gQ 55=some _ from rfl) (by kernel_rfl)
def l2:List (Nat×List W×V):=(55,a2,v2)::l1
theorem k2:bS Tryz.prog (bN l2):=aV k1 r2
def a3:List W:=[.one (.t (.av 2 [[.val (.string ⟨#[108,111,119]⟩), .av 2 [[i 0,i 0],[i 10,i 0]]],[.val (.string ⟨#[114,105,103,104,116]⟩), .av 2 [[i 10,i 0],[i 10,i 10]]],[.val (.string ⟨#[104,105,103,104]⟩), .av 2 [[i 10,i 10],[i 0,i 10]]],[.val (.string ⟨#[108,101,102,116]⟩), .av 2 [[i 0,i 10],[i 0,i 0]]]]))]
def v3:V:= .w (.one (.t (i 0)))
theorem r3:Fn Tryz.prog 160 a3 [] v3 []∧v3.bY=true:=aZ (fuel:=10000) (d:=60) bD k2 (show gQ 160=some _ from rfl) (by kernel_rfl)
def l3:List (Nat×List W×V):=(160,a3,v3)::l2
theorem k3:bS Tryz.prog (bN l3):=aV k2 r3
def a4:List W:=[.agg [.t (.val (.string ⟨#[102,114,111,110,116]⟩)), .t (.av 2 [[.val (.string ⟨#[108,111,119]⟩), .av 2 [[i 0,i 0],[i 10,i 0]]],[.val (.string ⟨#[114,105,103,104,116]⟩), .av 2 [[i 10,i 0],[i 10,i 10]]],[.val (.string ⟨#[104,105,103,104]⟩), .av 2 [[i 10,i 10],[i 0,i 10]]],[.val (.string ⟨#[108,101,102,116]⟩), .av 2 [[i 0,i 10],[i 0,i 0]]]]), .t (i 1), .t (nl), .t (.av 2 [[i 0,i 0],[i 0,i 0],[i 0,i 0],[i 0,i 0]]), .t (.av 1 [[i 0],[i 0],[i 0],[i 0]]), .t (bo false)], .one (.t (i 0))]
def v4:V:= .dQ [.one (.t (.av 2 [[.val (.string ⟨#[108,111,119]⟩), .av 2 [[i 0,i 0],[i 10,i 0]]],[.val (.string ⟨#[114,105,103,104,116]⟩), .av 2 [[i 10,i 0],[i 10,i 10]]],[.val (.string ⟨#[104,105,103,104]⟩), .av 2 [[i 10,i 10],[i 0,i 10]]],[.val (.string ⟨#[108,101,102,116]⟩), .av 2 [[i 0,i 10],[i 0,i 0]]]])), .one (.t (i 0))]
theorem r4:Fn Tryz.prog 132 a4 [] v4 []∧v4.bY=true:=aZ (fuel:=10000) (d:=60) bD k3 (show gQ 132=some _ from rfl) (by kernel_rfl)
def l4:List (Nat×List W×V):=(132,a4,v4)::l3
theorem k4:bS Tryz.prog (bN l4):=aV k3 r4
def a5:List W:=[.agg [.t (.val (.string ⟨#[115,104,105,114,116]⟩)), .t (.av 1 [[.val (.string ⟨#[83]⟩)],[.val (.string ⟨#[77]⟩)]]), .t (.av 1 [[i 0],[i 0]]), .t (.av 7 [[.val (.string ⟨#[102,114,111,110,116]⟩), .av 2 [[.val (.string ⟨#[108,111,119]⟩), .av 2 [[i 0,i 0],[i 10,i 0]]],[.val (.string ⟨#[114,105,103,104,116]⟩), .av 2 [[i 10,i 0],[i 10,i 10]]],[.val (.string ⟨#[104,105,103,104]⟩), .av 2 [[i 10,i 10],[i 0,i 10]]],[.val (.string ⟨#[108,101,102,116]⟩), .av 2 [[i 0,i 10],[i 0,i 0]]]],i 1,nl, .av 2 [[i 0,i 0],[i 0,i 0],[i 0,i 0],[i 0,i 0]], .av 1 [[i 0],[i 0],[i 0],[i 0]],bo false]]), .t (.av 3 [[i 0,i 2,bo false]]), .t (nl), .t (nl)]]
def v5:V:= .w (.one (.t (i 0)))
theorem r5:Fn Tryz.prog 74 a5 [] v5 []∧v5.bY=true:=aZ (fuel:=10000) (d:=60) bD k4 (show gQ 74=some _ from rfl) (by kernel_rfl)
def l5:List (Nat×List W×V):=(74,a5,v5)::l4
theorem k5:bS Tryz.prog (bN l5):=aV k4 r5
def a6:List W:=[.one (.t (.av 1 [[u 1]])), .one (.t (.av 1 [[u 1]]))]
def v6:V:= .dQ [.one (.t (.av 1 [[u 1]])), .one (.t (.av 1 [])), .one (.t (bo true))]
theorem r6:Fn Tryz.prog 243 a6 [] v6 []∧v6.bY=true:=aZ (fuel:=10000) (d:=60) bD k5 (show gQ 243=some _ from rfl) (by kernel_rfl)
def l6:List (Nat×List W×V):=(243,a6,v6)::l5
theorem k6:bS Tryz.prog (bN l6):=aV k5 r6
def a7:List W:=[.agg [.t (bo false), .t (.av 1 [])], .one (.t (.av 1 [[u 1]]))]
def v7:V:= .w (.agg [.t (bo false), .t (.av 1 []), .t (.av 1 [[u 1]])])
theorem r7:Fn Tryz.prog 229 a7 [] v7 []∧v7.bY=true:=aZ (fuel:=10000) (d:=60) bD k6 (show gQ 229=some _ from rfl) (by kernel_rfl)
def l7:List (Nat×List W×V):=(229,a7,v7)::l6
theorem k7:bS Tryz.prog (bN l7):=aV k6 r7
def a8:List W:=[.agg [.t (bo false), .t (.av 1 [[u 10]])], .one (.t (.av 1 [[u 1]]))]
def v8:V:= .w (.agg [.t (bo false), .t (.av 1 [[u 10]]), .t (.av 1 [[u 1]])])
theorem r8:Fn Tryz.prog 229 a8 [] v8 []∧v8.bY=true:=aZ (fuel:=10000) (d:=60) bD k7 (show gQ 229=some _ from rfl) (by kernel_rfl)
def l8:List (Nat×List W×V):=(229,a8,v8)::l7
theorem k8:bS Tryz.prog (bN l8):=aV k7 r8
def a9:List W:=[.one (.t (i 10)), .one (.t (i 1))]
def v9:V:= .dQ [.agg [.t (bo false), .t (.av 1 [[u 10]]), .t (.av 1 [[u 1]])], .one (.t (bo true))]
theorem r9:Fn Tryz.prog 233 a9 [] v9 []∧v9.bY=true:=aZ (fuel:=10000) (d:=60) bD k8 (show gQ 233=some _ from rfl) (by kernel_rfl)
def l9:List (Nat×List W×V):=(233,a9,v9)::l8
theorem k9:bS Tryz.prog (bN l9):=aV k8 r9
def a10:List W:=[.agg [.t (i 0), .t (i 10)]]
def v10:V:= .w (.agg [.t (bo false), .t (.av 1 []), .t (.av 1 [[u 1]]), .t (bo false), .t (.av 1 [[u 10]]), .t (.av 1 [[u 1]])])
theorem r10:Fn Tryz.prog 190 a10 [] v10 []∧v10.bY=true:=aZ (fuel:=10000) (d:=60) bD k9 (show gQ 190=some _ from rfl) (by kernel_rfl)
def FI:List (Nat×List W×V):=(190,a10,v10)::l9
theorem k10:bS Tryz.prog (bN FI):=aV k9 r10
def a11:List W:=[.agg [.t (i 0), .t (i 0)]]
def v11:V:= .w (.agg [.t (bo false), .t (.av 1 []), .t (.av 1 [[u 1]]), .t (bo false), .t (.av 1 []), .t (.av 1 [[u 1]])])
theorem r11:Fn Tryz.prog 190 a11 [] v11 []∧v11.bY=true:=aZ (fuel:=10000) (d:=60) bD k10 (show gQ 190=some _ from rfl) (by kernel_rfl)
def Xk:List (Nat×List W×V):=(190,a11,v11)::FI
theorem k11:bS Tryz.prog (bN Xk):=aV k10 r11
def a12:List W:=[.agg [.t (i 10), .t (i 0)]]
def v12:V:= .w (.agg [.t (bo false), .t (.av 1 [[u 10]]), .t (.av 1 [[u 1]]), .t (bo false), .t (.av 1 []), .t (.av 1 [[u 1]])])
theorem r12:Fn Tryz.prog 190 a12 [] v12 []∧v12.bY=true:=aZ (fuel:=10000) (d:=60) bD k11 (show gQ 190=some _ from rfl) (by kernel_rfl)
def l12:List (Nat×List W×V):=(190,a12,v12)::Xk
theorem k12:bS Tryz.prog (bN l12):=aV k11 r12
def a13:List W:=[.agg [.t (bo false), .t (.av 1 []), .t (.av 1 [[u 1]])]]
def Wy:V:= .w (.agg [.t (bo false), .t (.av 1 []), .t (.av 1 [[u 1]])])
theorem r13:Fn Tryz.prog 198 a13 [] Wy []∧Wy.bY=true:=aZ (fuel:=10000) (d:=60) bD k12 (show gQ 198=some _ from rfl) (by kernel_rfl)
def l13:List (Nat×List W×V):=(198,a13,Wy)::l12
theorem k13:bS Tryz.prog (bN l13):=aV k12 r13
def a14:List W:=[.agg [.t (bo false), .t (.av 1 [[u 10]]), .t (.av 1 [[u 1]])]]
def Wx:V:= .w (.agg [.t (bo false), .t (.av 1 [[u 10]]), .t (.av 1 [[u 1]])])
theorem r14:Fn Tryz.prog 198 a14 [] Wx []∧Wx.bY=true:=aZ (fuel:=10000) (d:=60) bD k13 (show gQ 198=some _ from rfl) (by kernel_rfl)
def l14:List (Nat×List W×V):=(198,a14,Wx)::l13
theorem k14:bS Tryz.prog (bN l14):=aV k13 r14
def a15:List W:=[.agg [.t (bo false), .t (.av 1 [])], .agg [.t (bo false), .t (.av 1 [[u 1]])]]
def Ww:V:= .w (.agg [.t (bo false), .t (.av 1 [])])
theorem r15:Fn Tryz.prog 200 a15 [] Ww []∧Ww.bY=true:=aZ (fuel:=10000) (d:=60) bD k14 (show gQ 200=some _ from rfl) (by kernel_rfl)
def l15:List (Nat×List W×V):=(200,a15,Ww)::l14
theorem k15:bS Tryz.prog (bN l15):=aV k14 r15
def a16:List W:=[.one (.t (.av 1 [[u 1]])), .one (.t (.av 1 [[u 1]]))]
def Wv:V:= .w (.one (.t (.av 1 [[u 1]])))
theorem r16:Fn Tryz.prog 225 a16 [] Wv []∧Wv.bY=true:=aZ (fuel:=10000) (d:=60) bD k15 (show gQ 225=some _ from rfl) (by kernel_rfl)
def l16:List (Nat×List W×V):=(225,a16,Wv)::l15
theorem k16:bS Tryz.prog (bN l16):=aV k15 r16
def a17:List W:=[.agg [.t (bo false), .t (.av 1 [[u 10]]), .t (.av 1 [[u 1]])], .agg [.t (bo false), .t (.av 1 []), .t (.av 1 [[u 1]])]]
def v17:V:= .w (.agg [.t (bo false), .t (.av 1 [[u 10]]), .t (.av 1 [[u 1]])])
theorem r17:Fn Tryz.prog 236 a17 [] v17 []∧v17.bY=true:=aZ (fuel:=10000) (d:=60) bD k16 (show gQ 236=some _ from rfl) (by kernel_rfl)
def l17:List (Nat×List W×V):=(236,a17,v17)::l16
theorem k17:bS Tryz.prog (bN l17):=aV k16 r17
def a18:List W:=[.agg [.t (bo false), .t (.av 1 []), .t (.av 1 [[u 1]])], .agg [.t (bo false), .t (.av 1 []), .t (.av 1 [[u 1]])]]
def Wu:V:= .w (.agg [.t (bo false), .t (.av 1 []), .t (.av 1 [[u 1]])])
theorem r18:Fn Tryz.prog 236 a18 [] Wu []∧Wu.bY=true:=aZ (fuel:=10000) (d:=60) bD k17 (show gQ 236=some _ from rfl) (by kernel_rfl)
def l18:List (Nat×List W×V):=(236,a18,Wu)::l17
theorem k18:bS Tryz.prog (bN l18):=aV k17 r18
def a19:List W:=[.agg [.t (bo false), .t (.av 1 []), .t (.av 1 [[u 1]])], .agg [.t (bo false), .t (.av 1 []), .t (.av 1 [[u 1]])]]
def Wt:V:= .w (.agg [.t (bo false), .t (.av 1 []), .t (.av 1 [[u 1]])])
theorem r19:Fn Tryz.prog 215 a19 [] Wt []∧Wt.bY=true:=aZ (fuel:=10000) (d:=60) bD k18 (show gQ 215=some _ from rfl) (by kernel_rfl)
def l19:List (Nat×List W×V):=(215,a19,Wt)::l18
theorem k19:bS Tryz.prog (bN l19):=aV k18 r19
def a20:List W:=[.agg [.t (bo false), .t (.av 1 [[u 10]]), .t (.av 1 [[u 1]]), .t (bo false), .t (.av 1 []), .t (.av 1 [[u 1]])], .agg [.t (bo false), .t (.av 1 []), .t (.av 1 [[u 1]]), .t (bo false), .t (.av 1 []), .t (.av 1 [[u 1]])]]
def v20:V:= .w (.agg [.t (bo false), .t (.av 1 [[u 10]]), .t (.av 1 [[u 1]]), .t (bo false), .t (.av 1 []), .t (.av 1 [[u 1]])])
theorem r20:Fn Tryz.prog 192 a20 [] v20 []∧v20.bY=true:=aZ (fuel:=10000) (d:=60) bD k19 (show gQ 192=some _ from rfl) (by kernel_rfl)
def l20:List (Nat×List W×V):=(192,a20,v20)::l19
theorem k20:bS Tryz.prog (bN l20):=aV k19 r20
def a21:List W:=[.agg [.t (bo true), .t (.av 1 [[u 10]])], .one (.t (.av 1 [[u 1]]))]
def v21:V:= .w (.agg [.t (bo true), .t (.av 1 [[u 10]]), .t (.av 1 [[u 1]])])
theorem r21:Fn Tryz.prog 229 a21 [] v21 []∧v21.bY=true:=aZ (fuel:=10000) (d:=60) bD k20 (show gQ 229=some _ from rfl) (by kernel_rfl)
def l21:List (Nat×List W×V):=(229,a21,v21)::l20
theorem k21:bS Tryz.prog (bN l21):=aV k20 r21
def a22:List W:=[.agg [.t (bo false), .t (.av 1 []), .t (.av 1 [[u 1]])], .agg [.t (bo false), .t (.av 1 [[u 10]]), .t (.av 1 [[u 1]])]]
def v22:V:= .w (.agg [.t (bo true), .t (.av 1 [[u 10]]), .t (.av 1 [[u 1]])])
theorem r22:Fn Tryz.prog 215 a22 [] v22 []∧v22.bY=true:=aZ (fuel:=10000) (d:=60) bD k21 (show gQ 215=some _ from rfl) (by kernel_rfl)
def l22:List (Nat×List W×V):=(215,a22,v22)::l21
theorem k22:bS Tryz.prog (bN l22):=aV k21 r22
def a23:List W:=[.agg [.t (bo false), .t (.av 1 []), .t (.av 1 [[u 1]]), .t (bo false), .t (.av 1 []), .t (.av 1 [[u 1]])], .agg [.t (bo false), .t (.av 1 []), .t (.av 1 [[u 1]]), .t (bo false), .t (.av 1 [[u 10]]), .t (.av 1 [[u 1]])]]
def v23:V:= .w (.agg [.t (bo false), .t (.av 1 []), .t (.av 1 [[u 1]]), .t (bo true), .t (.av 1 [[u 10]]), .t (.av 1 [[u 1]])])
theorem r23:Fn Tryz.prog 192 a23 [] v23 []∧v23.bY=true:=aZ (fuel:=10000) (d:=60) bD k22 (show gQ 192=some _ from rfl) (by kernel_rfl)
def l23:List (Nat×List W×V):=(192,a23,v23)::l22
theorem k23:bS Tryz.prog (bN l23):=aV k22 r23
def a24:List W:=[.agg [.t (bo false), .t (.av 1 []), .t (.av 1 [[u 1]])], .agg [.t (bo false), .t (.av 1 []), .t (.av 1 [[u 1]])]]
def v24:V:= .w (.agg [.t (bo false), .t (.av 1 []), .t (.av 1 [[u 1]])])
theorem r24:Fn Tryz.prog 230 a24 [] v24 []∧v24.bY=true:=aZ (fuel:=10000) (d:=60) bD k23 (show gQ 230=some _ from rfl) (by kernel_rfl)
def l24:List (Nat×List W×V):=(230,a24,v24)::l23
theorem k24:bS Tryz.prog (bN l24):=aV k23 r24
def a25:List W:=[.one (.t (.av 1 [[u 10]])), .one (.t (.av 1 [[u 10]]))]
def v25:V:= .w (.one (.t (.av 1 [[u 100]])))
theorem r25:Fn Tryz.prog 225 a25 [] v25 []∧v25.bY=true:=aZ (fuel:=10000) (d:=60) bD k24 (show gQ 225=some _ from rfl) (by kernel_rfl)
def l25:List (Nat×List W×V):=(225,a25,v25)::l24
theorem k25:bS Tryz.prog (bN l25):=aV k24 r25
def a26:List W:=[.agg [.t (bo true), .t (.av 1 [[u 100]])], .one (.t (.av 1 [[u 1]]))]
def v26:V:= .w (.agg [.t (bo true), .t (.av 1 [[u 100]]), .t (.av 1 [[u 1]])])
theorem r26:Fn Tryz.prog 229 a26 [] v26 []∧v26.bY=true:=aZ (fuel:=10000) (d:=60) bD k25 (show gQ 229=some _ from rfl) (by kernel_rfl)
def l26:List (Nat×List W×V):=(229,a26,v26)::l25
theorem k26:bS Tryz.prog (bN l26):=aV k25 r26
def a27:List W:=[.agg [.t (bo false), .t (.av 1 [[u 100]])], .one (.t (.av 1 [[u 1]]))]
def Ws:V:= .w (.agg [.t (bo false), .t (.av 1 [[u 100]]), .t (.av 1 [[u 1]])])
theorem r27:Fn Tryz.prog 229 a27 [] Ws []∧Ws.bY=true:=aZ (fuel:=10000) (d:=60) bD k26 (show gQ 229=some _ from rfl) (by kernel_rfl)
def l27:List (Nat×List W×V):=(229,a27,Ws)::l26
theorem k27:bS Tryz.prog (bN l27):=aV k26 r27
def a28:List W:=[.agg [.t (bo false), .t (.av 1 []), .t (.av 1 [[u 1]])], .agg [.t (bo true), .t (.av 1 [[u 100]]), .t (.av 1 [[u 1]])]]
def v28:V:= .w (.agg [.t (bo false), .t (.av 1 [[u 100]]), .t (.av 1 [[u 1]])])
theorem r28:Fn Tryz.prog 215 a28 [] v28 []∧v28.bY=true:=aZ (fuel:=10000) (d:=60) bD k27 (show gQ 215=some _ from rfl) (by kernel_rfl)
def l28:List (Nat×List W×V):=(215,a28,v28)::l27
theorem k28:bS Tryz.prog (bN l28):=aV k27 r28
def a29:List W:=[.agg [.t (bo false), .t (.av 1 [[u 100]]), .t (.av 1 [[u 1]])], .agg [.t (bo false), .t (.av 1 [[u 100]]), .t (.av 1 [[u 1]])]]
def Wr:V:= .dQ [.agg [.t (bo false), .t (.av 1 [[u 1]]), .t (.av 1 [[u 1]])], .one (.t (bo true))]
theorem r29:Fn Tryz.prog 210 a29 [] Wr []∧Wr.bY=true:=aZ (fuel:=10000) (d:=60) bD k28 (show gQ 210=some _ from rfl) (by kernel_rfl)
def l29:List (Nat×List W×V):=(210,a29,Wr)::l28
theorem k29:bS Tryz.prog (bN l29):=aV k28 r29
def a30:List W:=[.agg [.t (bo false), .t (.av 1 [[u 10]]), .t (.av 1 [[u 1]])], .agg [.t (bo true), .t (.av 1 [[u 10]]), .t (.av 1 [[u 1]])]]
def v30:V:= .w (.agg [.t (bo false), .t (.av 1 []), .t (.av 1 [[u 1]])])
theorem r30:Fn Tryz.prog 236 a30 [] v30 []∧v30.bY=true:=aZ (fuel:=10000) (d:=60) bD k29 (show gQ 236=some _ from rfl) (by kernel_rfl)
def l30:List (Nat×List W×V):=(236,a30,v30)::l29
theorem k30:bS Tryz.prog (bN l30):=aV k29 r30
def a31:List W:=[.agg [.t (bo false), .t (.av 1 []), .t (.av 1 [[u 1]]), .t (bo false), .t (.av 1 []), .t (.av 1 [[u 1]])]]
def v31:V:= .dQ [.agg [.t (i 0), .t (i 0)], .one (.t (i 0))]
theorem r31:Fn Tryz.prog 191 a31 [] v31 []∧v31.bY=true:=aZ (fuel:=10000) (d:=60) bD k30 (show gQ 191=some _ from rfl) (by kernel_rfl)
def l31:List (Nat×List W×V):=(191,a31,v31)::l30
theorem k31:bS Tryz.prog (bN l31):=aV k30 r31
def a32:List W:=[.agg [.t (i 10), .t (i 10)]]
def v32:V:= .w (.agg [.t (bo false), .t (.av 1 [[u 10]]), .t (.av 1 [[u 1]]), .t (bo false), .t (.av 1 [[u 10]]), .t (.av 1 [[u 1]])])
theorem r32:Fn Tryz.prog 190 a32 [] v32 []∧v32.bY=true:=aZ (fuel:=10000) (d:=60) bD k31 (show gQ 190=some _ from rfl) (by kernel_rfl)
def l32:List (Nat×List W×V):=(190,a32,v32)::l31
theorem k32:bS Tryz.prog (bN l32):=aV k31 r32
def a33:List W:=[.agg [.t (bo false), .t (.av 1 [[u 10]]), .t (.av 1 [[u 1]])], .agg [.t (bo false), .t (.av 1 [[u 10]]), .t (.av 1 [[u 1]])]]
def v33:V:= .w (.agg [.t (bo false), .t (.av 1 []), .t (.av 1 [[u 1]])])
theorem r33:Fn Tryz.prog 215 a33 [] v33 []∧v33.bY=true:=aZ (fuel:=10000) (d:=60) bD k32 (show gQ 215=some _ from rfl) (by kernel_rfl)
def l33:List (Nat×List W×V):=(215,a33,v33)::l32
theorem k33:bS Tryz.prog (bN l33):=aV k32 r33
def a34:List W:=[.agg [.t (bo false), .t (.av 1 [[u 10]]), .t (.av 1 [[u 1]]), .t (bo false), .t (.av 1 [[u 10]]), .t (.av 1 [[u 1]])], .agg [.t (bo false), .t (.av 1 [[u 10]]), .t (.av 1 [[u 1]]), .t (bo false), .t (.av 1 []), .t (.av 1 [[u 1]])]]
def Wq:V:= .w (.agg [.t (bo false), .t (.av 1 []), .t (.av 1 [[u 1]]), .t (bo false), .t (.av 1 [[u 10]]), .t (.av 1 [[u 1]])])
theorem r34:Fn Tryz.prog 192 a34 [] Wq []∧Wq.bY=true:=aZ (fuel:=10000) (d:=60) bD k33 (show gQ 192=some _ from rfl) (by kernel_rfl)
def l34:List (Nat×List W×V):=(192,a34,Wq)::l33
theorem k34:bS Tryz.prog (bN l34):=aV k33 r34
def a35:List W:=[.agg [.t (bo false), .t (.av 1 [[u 100]]), .t (.av 1 [[u 1]])], .agg [.t (bo false), .t (.av 1 []), .t (.av 1 [[u 1]])]]
def v35:V:= .w (.agg [.t (bo false), .t (.av 1 [[u 100]]), .t (.av 1 [[u 1]])])
theorem r35:Fn Tryz.prog 215 a35 [] v35 []∧v35.bY=true:=aZ (fuel:=10000) (d:=60) bD k34 (show gQ 215=some _ from rfl) (by kernel_rfl)
def l35:List (Nat×List W×V):=(215,a35,v35)::l34
theorem k35:bS Tryz.prog (bN l35):=aV k34 r35
def a36:List W:=[.agg [.t (bo false), .t (.av 1 []), .t (.av 1 [[u 1]]), .t (bo false), .t (.av 1 [[u 10]]), .t (.av 1 [[u 1]])], .agg [.t (bo false), .t (.av 1 [[u 10]]), .t (.av 1 [[u 1]]), .t (bo false), .t (.av 1 [[u 10]]), .t (.av 1 [[u 1]])]]
def Wo:V:= .w (.agg [.t (bo true), .t (.av 1 [[u 10]]), .t (.av 1 [[u 1]]), .t (bo false), .t (.av 1 []), .t (.av 1 [[u 1]])])
theorem r36:Fn Tryz.prog 192 a36 [] Wo []∧Wo.bY=true:=aZ (fuel:=10000) (d:=60) bD k35 (show gQ 192=some _ from rfl) (by kernel_rfl)
def l36:List (Nat×List W×V):=(192,a36,Wo)::l35
theorem k36:bS Tryz.prog (bN l36):=aV k35 r36
def a37:List W:=[.agg [.t (.val (.string ⟨#[115,104,105,114,116]⟩)), .t (.av 1 [[.val (.string ⟨#[83]⟩)],[.val (.string ⟨#[77]⟩)]]), .t (.av 1 [[i 0],[i 0]]), .t (.av 7 [[.val (.string ⟨#[102,114,111,110,116]⟩), .av 2 [[.val (.string ⟨#[108,111,119]⟩), .av 2 [[i 0,i 0],[i 10,i 0]]],[.val (.string ⟨#[114,105,103,104,116]⟩), .av 2 [[i 10,i 0],[i 10,i 10]]],[.val (.string ⟨#[104,105,103,104]⟩), .av 2 [[i 10,i 10],[i 0,i 10]]],[.val (.string ⟨#[108,101,102,116]⟩), .av 2 [[i 0,i 10],[i 0,i 0]]]],i 1,nl, .av 2 [[i 0,i 0],[i 0,i 0],[i 0,i 0],[i 0,i 0]], .av 1 [[i 0],[i 0],[i 0],[i 0]],bo false]]), .t (.av 3 [[i 0,i 2,bo false]]), .t (nl), .t (nl)], .one (.t (i 1)), .one (.t (i 0))]
def v37:V:= .dQ [.one (.t (.av 2 [[i 0,i 0],[i 10,i 0],[i 10,i 10],[i 0,i 10]])), .one (.t (i 0))]
theorem r37:Fn Tryz.prog 100 a37 [] v37 []∧v37.bY=true:=aZ (fuel:=10000) (d:=60) bD k36 (show gQ 100=some _ from rfl) (by kernel_rfl)
def l37:List (Nat×List W×V):=(100,a37,v37)::l36
theorem k37:bS Tryz.prog (bN l37):=aV k36 r37
def a38:List W:=[.one (.t (.av 2 [[i 10,i 0],[i 20,i 0],[i 20,i 10],[i 10,i 10]]))]
def Wn:V:= .w (.one (.t (i 0)))
theorem r38:Fn Tryz.prog 55 a38 [] Wn []∧Wn.bY=true:=aZ (fuel:=10000) (d:=60) bD k37 (show gQ 55=some _ from rfl) (by kernel_rfl)
def l38:List (Nat×List W×V):=(55,a38,Wn)::l37
theorem k38:bS Tryz.prog (bN l38):=aV k37 r38
def a39:List W:=[.one (.t (.av 2 [[i 0,i 0],[i 10,i 0],[i 10,i 10],[i 0,i 10]]))]
def v39:V:= .dQ [.one (.t (.av 1 [[.av 2 [[i 0,i 10],[i 0,i 0],[i 10,i 0]]],[.av 2 [[i 10,i 0],[i 10,i 10],[i 0,i 10]]]])), .one (.t (i 0))]
theorem r39:Fn Tryz.prog 90 a39 [] v39 []∧v39.bY=true:=aZ (fuel:=10000) (d:=60) bD k38 (show gQ 90=some _ from rfl) (by kernel_rfl)
def l39:List (Nat×List W×V):=(90,a39,v39)::l38
theorem k39:bS Tryz.prog (bN l39):=aV k38 r39
def a40:List W:=[.one (.t (.av 2 [[i 10,i 0],[i 20,i 0],[i 20,i 10],[i 10,i 10]]))]
def v40:V:= .dQ [.one (.t (.av 1 [[.av 2 [[i 10,i 10],[i 10,i 0],[i 20,i 0]]],[.av 2 [[i 20,i 0],[i 20,i 10],[i 10,i 10]]]])), .one (.t (i 0))]
theorem r40:Fn Tryz.prog 90 a40 [] v40 []∧v40.bY=true:=aZ (fuel:=10000) (d:=60) bD k39 (show gQ 90=some _ from rfl) (by kernel_rfl)
def l40:List (Nat×List W×V):=(90,a40,v40)::l39
theorem k40:bS Tryz.prog (bN l40):=aV k39 r40
def a41:List W:=[.agg [.t (.val (.string ⟨#[115,104,105,114,116]⟩)), .t (.av 1 [[.val (.string ⟨#[83]⟩)],[.val (.string ⟨#[77]⟩)]]), .t (.av 1 [[i 0],[i 0]]), .t (.av 7 [[.val (.string ⟨#[102,114,111,110,116]⟩), .av 2 [[.val (.string ⟨#[108,111,119]⟩), .av 2 [[i 0,i 0],[i 10,i 0]]],[.val (.string ⟨#[114,105,103,104,116]⟩), .av 2 [[i 10,i 0],[i 10,i 10]]],[.val (.string ⟨#[104,105,103,104]⟩), .av 2 [[i 10,i 10],[i 0,i 10]]],[.val (.string ⟨#[108,101,102,116]⟩), .av 2 [[i 0,i 10],[i 0,i 0]]]],i 1,nl, .av 2 [[i 0,i 0],[i 0,i 0],[i 0,i 0],[i 0,i 0]], .av 1 [[i 0],[i 0],[i 0],[i 0]],bo false]]), .t (.av 3 [[i 0,i 2,bo false]]), .t (nl), .t (nl)], .agg [.t (i 20), .t (i 10), .t (i 0), .t (i 0), .t (.av 1 [[i 1]]), .t (.av 7 [[i 0,i 0,i 0,bo false,i 0,i 0,i 0],[i 0,i 0,i 1,bo false,i 0,i 10,i 0]]), .t (.av 2 [[i 1, .av 4 [[i 2,i 5,i 25,i 0]]]])], .one (.t (.av 7 [[.val (.string ⟨#[65]⟩),i 9,i 50,i 0,i 0,i 0,nl],[.val (.string ⟨#[66]⟩),i 10,i 50,i 0,i 0,i 0,nl],[.val (.string ⟨#[67]⟩),i 10,i 50,i 0,i 0,i 0, .av 4 [[i 20,i 2,i 1,i 1]]]])), .one (.t (.av 1 [[i 0],[i 0],[i 1]]))]
def v41:V:= .dQ [.one (.t (.av 6 [[i 0,i 0,i 1,i 1, .av 1 [[i 2]],bo false],[i 0,i 1,i 1,i 1, .av 1 [[i 2]],bo true]])), .one (.t (i 0))]
theorem r41:Fn Tryz.prog 22 a41 [] v41 []∧v41.bY=true:=aZ (fuel:=10000) (d:=60) bD k40 (show gQ 22=some _ from rfl) (by kernel_rfl)
def l41:List (Nat×List W×V):=(22,a41,v41)::l40
theorem k41:bS Tryz.prog (bN l41):=aV k40 r41
def a42:List W:=[]
def v42:V:= .w (.one (.t (bo true)))
theorem r42:Fn Tryz.prog 9 a42 [] v42 []∧v42.bY=true:=aZ (fuel:=10000) (d:=60) bD k41 (show gQ 9=some _ from rfl) (by kernel_rfl)
end Go.aS.Cd
end
section
namespace Go.Proofs.YtcaeamnhfodfoaaGreat
open Go.ChangeShapes Go.WideShapes Go.ChangeAt Go.RowKit
set_option maxRecDepth 100000
theorem BB:(Rows.cuttingAcceptsRow.inPlace==Tryz.prog.inPlace 3)=true:=by kernel_rfl
theorem Kl:(Rows.cuttingAcceptsRow.unfollowed==Tryz.prog.unfollowed 3)=true:=by kernel_rfl
theorem Km:(Rows.cuttingAcceptsRow.recurses==Tryz.prog.recurses 3)=true:=by kernel_rfl
theorem Fv:(Rows.cuttingAcceptsRow.named==Tryz.prog.varsNamed 3)=true:=by kernel_rfl
theorem TQ:(Rows.cuttingAcceptsRow.wf (OpenSpec.ofChange Rows.cuttingAcceptsSpec)&&laidOutB Tryz.prog&&mapsRowed Tryz.prog&&Tryz.f3.params.all (Tryz.prog.readableRec ·)&&namedTie Tryz.prog Rows.cuttingAcceptsRow.named Rows.cuttingAcceptsSpec.vars&& (Rows.cuttingAcceptsRow.stops== [])&& (Tryz.prog.stops== [])&& (Rows.cuttingAcceptsRow.knobs== [])&& (Tryz.prog.stopKnobs== []))=true:=by kernel_rfl
theorem Kn:joinedFacts Tryz.prog 3 Tryz.f3 Rows.cuttingAcceptsSpec Rows.cuttingAcceptsRow=true:=by
 unfold joinedFacts
 rw[TQ,BB,Kl,Km,Fv]
 kernel_rfl
end Go.Proofs.YtcaeamnhfodfoaaGreat
end
section
namespace Go.Proofs.YtcaeamnhfodfoaaGreat
open Go.aS Go.ChangeShapes Go.WideShapes Go.ChangeAt Go.RowKit
theorem Tryz.own:ownKnob Tryz.prog.godebug=none:=by kernel_rfl
theorem Tryz.laidOut:laidOutB Tryz.prog=true:=by kernel_rfl
def TR:Value:= .agg #[.string ⟨#[]⟩, .slice none 0 0, .slice none 0 0, .slice none 0 0, .slice none 0 0, .slice none 0 0, .slice none 0 0, .int .i64 0, .int .i64 0, .int .i64 0, .int .i64 0, .slice none 0 0, .slice none 0 0, .slice none 0 0, .slice none 0 0, .slice none 0 0]
set_option maxRecDepth 100000 in
theorem CH (TA: ∀us,Typed Tryz.prog 12 Tryz.f3.params.toList us→aS.Fn Tryz.prog 3 us [] (.w (.one (.t (.val (.bool true))))) []) (os:Os) (started:os.Started) (H:Type) (enc:TypeId×Value→H):
 ReturnsInHanded {} Tryz.checked os 3 .any (Rows.cuttingAcceptsSpec.pre6 enc Tryz.prog Tryz.f3 Rows.cuttingAcceptsRow.domain false) (Rows.cuttingAcceptsSpec.post enc Tryz.prog Tryz.f3 false true false false):=by
 refine returnsInHanded_of_change (C:=Tryz.checked) Tryz.own started (by kernel_rfl) Tryz.func3
  (ChangeSpec.witness6 (enc:=enc) (C:=Tryz.checked) false ⟨#[], #[TR, .int .u8 0, .int .u8 0],[]⟩ 8 (by kernel_rfl) (by kernel_rfl) (by kernel_rfl) (by kernel_rfl)) ?_
 intro W base args ds gs before hval hW _ _
 refine EP (P:=Tryz.prog) (d:=11) (s:=Rows.cuttingAcceptsSpec) Tryz.laidOut rfl (by kernel_rfl) Tryz.underlying4 ?_ ?_ ?_ TA hval (fun g vs hg=>by simp[Aj,I9]at hg) hW
 · intro ds hds
   rw[Tryz.params3]at hds
   match ds,hds with
   | [a,b,c],_=>exact⟨rfl,rfl,rfl⟩
 · have:(Tryz.f3.params.toList.all fun t=>gK Tryz.prog 12 t)=true:=by kernel_rfl
   exact List.all_eq_true.1 this
 · have:(Tryz.f3.params.toList.all fun t=>Tryz.prog.readableRec t&&decide (t < Tryz.prog.types.size))=true:=by kernel_rfl
   intro t ht
   have:=List.all_eq_true.1 this t ht
   simpa using this
theorem Fh:Tryz.pinned.checked.prog.funcNamed Rows.cuttingAcceptsRow.func=some 3:=by kernel_rfl
theorem HG:Tryz.f3.isInstance Tryz.pinned.checked.prog Rows.cuttingAcceptsRow.origin Rows.cuttingAcceptsRow.targs:=of_decide_eq_true (by kernel_rfl)
theorem HD:Tryz.f3.isWrapper Tryz.pinned.checked.prog Rows.cuttingAcceptsRow.wrapper Rows.cuttingAcceptsRow.mainSum:=by
 unfold Func.isWrapper;first|(rw[if_pos (by decide+kernel)];kernel_rfl)|(rw[if_neg (by decide+kernel)];exact⟨rfl,rfl⟩)
theorem HF (TA: ∀us,Typed Tryz.prog 12 Tryz.f3.params.toList us→aS.Fn Tryz.prog 3 us [] (.w (.one (.t (.val (.bool true))))) []):Rows.CuttingAcceptsSaid:=
 OpenClaim.holds_of_wide 3 Tryz.f3 rfl rfl rfl rfl rfl rfl rfl ⟨rfl,rfl,rfl,rfl,rfl⟩ rfl rfl rfl rfl rfl Fh Tryz.func3 Kn HG HD
  (fun os started H enc _=>CH TA os started H enc)
end Go.Proofs.YtcaeamnhfodfoaaGreat
end
