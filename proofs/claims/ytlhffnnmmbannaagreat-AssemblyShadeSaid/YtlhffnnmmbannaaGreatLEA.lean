import Derived.Test.YtlhffnnmmbannaaGreatME
import Derived.Test.YtlhffnnmmbannaaGreatRows
import Derived.ProofKit
set_option linter.all false
section
section
namespace Go.aU.Cd
open Go Go.Proofs
theorem Nw {bs:Lz} {a b:Nat} {e:List T} (hab:a < b) (h:bs[a]? =some e):e∈bs.take b:=by
 refine List.mem_iff_getElem?.2 ⟨a,?_⟩
 rw[List.getElem?_take_of_lt hab]
 exact h
theorem agN {bs:Lz} {t:Int} {e:List T} (h:Ed bs t=some e):nI 0 e=t∧ ∃k:Nat,bs[k]? =some e:=by
 unfold Ed at h
 have h1:=List.find?_some h
 have h2:=List.mem_of_find?_eq_some h
 exact⟨by simpa using h1,List.mem_iff_getElem?.1 h2⟩
end Go.aU.Cd
end
end
section
namespace Go.aU.Cd
open Go Go.Proofs
theorem Nz {xs:Lz} {a:Nat} {v:List T} {i:Int}:sK (xs.set a v) i=sK xs i∨(a=i.toNat∧sK (xs.set a v) i=v):=by
 unfold sK
 by_cases h:a=i.toNat
 · subst h
   by_cases hl:i.toNat < xs.length
   · right
     rw[List.getElem?_set_self hl]
     exact⟨rfl,rfl⟩
   · left
     rw[List.set_eq_of_length_le (by omega)]
 · left
   rw[List.getElem?_set_ne h]
theorem Ny {used cU:Lz} {i:Int}: ∀j,nB 0 (sK (uA used cU j) i)=true→nB 0 (sK used i)=true∨ ∃k z,k < j∧cU[k]? =some z∧(nI 0 z).toNat=i.toNat
 |0,h=> .inl h
 |j+1,h=>by
  have up:(nB 0 (sK used i)=true∨ ∃k z,k < j∧cU[k]? =some z∧(nI 0 z).toNat=i.toNat)→(nB 0 (sK used i)=true∨ ∃k z,k < j+1∧cU[k]? =some z∧(nI 0 z).toNat=i.toNat):=fun hx=>hx.elim .inl (fun⟨k,z,h1,h2⟩=> .inr ⟨k,z,by omega,h2⟩)
  simp only[uA]at h
  cases hp:cU[j]? with
  |none=>
   simp only[hp]at h
   exact up (Ny j h)
  |some e=>
   simp only[hp]at h
   rcases Nz (xs:=uA used cU j) (a:=(nI 0 e).toNat) (v:=[tB true]) (i:=i)with h1|⟨h1,_⟩
   · rw[h1]at h
     exact up (Ny j h)
   · exact .inr ⟨j,e,by omega,hp,h1⟩
theorem Qe (n:Nat) (i:Int):nB 0 (sK (List.replicate n [tB false]) i)=false:=by
 unfold sK
 rw[List.getElem?_replicate]
 split<;>rfl
theorem Pk {cuts cU:Lz} {n:Nat} {i:Int}: ∀j,nB 0 (sK (fA cuts n cU j) i)=true→ ∃k z,k < j∧cU[k]? =some z∧(nI 1 (sK cuts (nI 0 z))).toNat=i.toNat
 |0,h=>by
  simp only[fA,Qe]at h
  cases h
 |j+1,h=>by
  have up:(∃k z,k < j∧cU[k]? =some z∧(nI 1 (sK cuts (nI 0 z))).toNat=i.toNat)→(∃k z,k < j+1∧cU[k]? =some z∧(nI 1 (sK cuts (nI 0 z))).toNat=i.toNat):=fun⟨k,z,h1,h2⟩=>⟨k,z,by omega,h2⟩
  simp only[fA]at h
  cases hp:cU[j]? with
  |none=>
   simp only[hp]at h
   exact up (Pk j h)
  |some e=>
   simp only[hp]at h
   rcases Nz (xs:=fA cuts n cU j) (a:=(nI 1 (sK cuts (nI 0 e))).toNat) (v:=[tB true]) (i:=i)with h1|⟨h1,_⟩
   · rw[h1]at h
     exact up (Pk j h)
   · exact⟨j,e,by omega,hp,h1⟩
theorem Ps {cuts cU:Lz} {n:Nat}: ∀j,(fA cuts n cU j).length=n
 |0=>by simp[fA]
 |j+1=>by
  simp only[fA]
  split
  · exact Ps j
  · rw[List.length_set]
    exact Ps j
theorem Qj {cuts cU:Lz} {n:Nat} {i:Int} (hi:i.toNat < n): ∀j k z,k < j→cU[k]? =some z→(nI 1 (sK cuts (nI 0 z))).toNat=i.toNat→nB 0 (sK (fA cuts n cU j) i)=true
 |0,k,z,h,_,_=>by omega
 |j+1,k,z,h,hk,hz=>by
  simp only[fA]
  by_cases hkj:k=j
  · subst hkj
    simp only[hk]
    rw[hz]
    unfold sK
    rw[List.getElem?_set_self (by rw[Ps];exact hi)]
    rfl
  · have ih:=Qj hi j k z (by omega) hk hz
    cases hp:cU[j]? with
    |none=>exact ih
    |some e=>
     simp only
     rcases Nz (xs:=fA cuts n cU j) (a:=(nI 1 (sK cuts (nI 0 e))).toNat) (v:=[tB true]) (i:=i)with h1|⟨_,h1⟩
     · rw[h1]
       exact ih
     · rw[h1]
       rfl
theorem Pe {cuts gs:Lz} {i:Int}: ∀j,nB 0 (sK (uG cuts gs j) i)=true→ ∃k e z,k < j∧gs[k]? =some e∧z∈nL 4 e∧(nI 0 z).toNat=i.toNat
 |0,h=>by
  simp only[uG,Qe]at h
  cases h
 |j+1,h=>by
  have up:(∃k e z,k < j∧gs[k]? =some e∧z∈nL 4 e∧(nI 0 z).toNat=i.toNat)→(∃k e z,k < j+1∧gs[k]? =some e∧z∈nL 4 e∧(nI 0 z).toNat=i.toNat):=fun⟨k,e,z,h1,h2⟩=>⟨k,e,z,by omega,h2⟩
  simp only[uG]at h
  cases hp:gs[j]? with
  |none=>
   simp only[hp]at h
   exact up (Pe j h)
  |some e=>
   simp only[hp]at h
   rcases Ny _ h with h1|⟨k,z,_,h2,h3⟩
   · exact up (Pe j h1)
   · exact⟨j,e,z,by omega,hp,List.mem_of_getElem? h2,h3⟩
def Qt (cuts:Lz) (z:List T):Int:=nI 1 (sK cuts (nI 0 z))
structure PcI (g jk sE size:Int) (places cuts zs:Lz) (n:Nat):Prop where
 src: ∀z,z∈zs→ ∃ (i:Nat) (c:List T) (j:Nat) (p:List T),z=[tI (i:Int)]∧cuts[i]? =some c∧Ak (j:Int) jk sE size c=true∧j < n∧places[j]? =some p∧nI 0 p=g
 all: ∀j p,j < n→places[j]? =some p→nI 0 p=g→ ∃z,z∈zs∧Qt cuts z=(j:Int)
 srt:zs.Pairwise (fun a b=>Qt cuts a < Qt cuts b)
 QG:zs.length=((places.take n).filter (fun p=>decide (nI 0 p=g))).length
theorem Qp {cuts:Lz} {jk sE size:Int} {j i:Nat} (h:Mr cuts jk sE size j=some i): ∃c,cuts[i]? =some c∧Ak (j:Int) jk sE size c=true:=by
 unfold Mr at h
 rw[List.findIdx?_eq_some_iff_getElem]at h
 obtain⟨h1,h2,_⟩:=h
 exact⟨cuts[i],List.getElem?_eq_getElem h1,h2⟩
theorem Pj {place jk sE size:Int} {e:List T} (h:Ak place jk sE size e=true):nI 1 e=place∧nI 0 e=jk∧nB 5 e=false∧nI 2 e=sE∧nI 3 e=size:=by
 simp only[Ak,Bool.and_eq_true,decide_eq_true_eq,Bool.not_eq_true']at h
 exact⟨h.1.1.1.1,h.1.1.1.2,h.1.1.2,h.1.2,h.2⟩
theorem Ph {cuts:Lz} {i:Nat} {c:List T} {j jk sE size:Int} (h:cuts[i]? =some c) (hh:Ak j jk sE size c=true):Qt cuts [tI (i:Int)]=j:=by
 unfold Qt
 have e1:nI 0 [tI (i:Int)]=(i:Int):=rfl
 rw[e1,gO (i:=(i:Int)) (by simpa using h)]
 exact(Pj hh).1
theorem pcI {g jk sE size:Int} {places cuts:Lz}: ∀ (n:Nat) (zs:Lz),fJ g (Mr cuts jk sE size) places n=some zs→PcI g jk sE size places cuts zs n
 |0,zs,h=>by
  simp only[fJ,Option.some.injEq]at h
  subst h
  exact⟨fun z hz=>by simp at hz,fun j p hj=>by omega,List.Pairwise.nil,by simp⟩
 |n+1,zs,h=>by
  simp only[fJ]at h
  cases h1:fJ g (Mr cuts jk sE size) places n with
  |none=>simp[h1]at h
  |some ys=>
   have I:=pcI n ys h1
   simp only[h1]at h
   cases hp:places[n]? with
   |none=>
    simp only[hp,Option.some.injEq]at h
    subst h
    have hlen:places.length≤n:=by
     rw[List.getElem?_eq_none_iff]at hp
     exact hp
    refine⟨fun z hz=>?_,fun j p hj hjp hg=>?_,I.srt,?_⟩
    · obtain⟨i,c,j,p,a1,a2,a3,a4,a5⟩:=I.src z hz
      exact⟨i,c,j,p,a1,a2,a3,by omega,a5⟩
    · exact I.all j p (by have:=(List.getElem?_eq_some_iff.1 hjp).1;omega) hjp hg
    · rw[I.QG,List.take_of_length_le (by omega),List.take_of_length_le (by omega)]
   |some p=>
    simp only[hp]at h
    by_cases hg:nI 0 p=g
    · simp only[if_pos hg]at h
      cases hf:Mr cuts jk sE size n with
      |none=>simp[hf]at h
      |some i=>
       simp only[hf,Option.some.injEq]at h
       subst h
       obtain⟨c,hc,hh⟩:=Qp hf
       have mN:=Ph hc hh
       refine⟨fun z hz=>?_,fun j q hj hjq hgq=>?_,?_,?_⟩
       · rcases List.mem_append.1 hz with hz|hz
         · obtain⟨i,c,j,p,a1,a2,a3,a4,a5⟩:=I.src z hz
           exact⟨i,c,j,p,a1,a2,a3,by omega,a5⟩
         · simp only[List.mem_singleton]at hz
           exact⟨i,c,n,p,hz,hc,hh,by omega,hp,hg⟩
       · by_cases hjn:j=n
         · subst hjn
           exact⟨[tI (i:Int)],by simp,mN⟩
         · obtain⟨z,hz,vj⟩:=I.all j q (by omega) hjq hgq
           exact⟨z,by simp[hz],vj⟩
       · rw[List.pairwise_append]
         refine⟨I.srt,List.pairwise_singleton _ _,fun a ha b hb=>?_⟩
         simp only[List.mem_singleton]at hb
         subst hb
         obtain⟨i2,c2,j2,p2,rfl,a2,a3,a4,a5⟩:=I.src a ha
         rw[mN,Ph a2 a3]
         omega
       · rw[List.take_add_one,hp,List.filter_append,List.length_append,List.length_append,I.QG]
         simp[hg]
    · simp only[if_neg hg,Option.some.injEq]at h
      subst h
      refine⟨fun z hz=>?_,fun j q hj hjq hgq=>?_,I.srt,?_⟩
      · obtain⟨i,c,j,p,a1,a2,a3,a4,a5⟩:=I.src z hz
        exact⟨i,c,j,p,a1,a2,a3,by omega,a5⟩
      · by_cases hjn:j=n
        · subst hjn
          rw[hp,Option.some.injEq]at hjq
          subst hjq
          exact(hg hgq).elim
        · exact I.all j q (by omega) hjq hgq
      · rw[List.take_add_one,hp,List.filter_append,List.length_append,I.QG]
        simp[hg]
def Src (sizes places ag cuts bs:Lz) (C:Nat→Int→Prop) (o:List T):Prop:=
 ∃ (k:Nat) (e:List T),bs[k]? =some e∧nI 0 o=nI 0 e∧nI 4 e≤nI 1 o∧nI 1 o < nI 5 e∧Ih sizes places ag cuts (nI 1 e) (nI 1 o)=some (nL 4 o)∧C k (nI 1 o)
theorem Src.mono {sizes places ag cuts bs:Lz} {C D:Nat→Int→Prop} {o:List T} (h:Src sizes places ag cuts bs C o) (hi: ∀k p,C k p→D k p):Src sizes places ag cuts bs D o:=by
 obtain⟨k,e,a1,a2,a3,a4,a5,a6⟩:=h
 exact⟨k,e,a1,a2,a3,a4,a5,hi _ _ a6⟩
section
variable {sizes places ag cuts bs:Lz} (hB:xA sizes ag bs bs.length) (hb:JQ bs)
include hB hb
theorem agQ {G cU:Lz} {eb:List T} {k:Nat} {jk:Int} (hG:pK places ag cuts bs G G.length) (hsrc: ∀o,o∈G→Src sizes places ag cuts bs (fun k' p=>k' < k∨(k'=k∧p < jk)) o)
 (hk:bs[k]? =some eb) (h1:nI 4 eb≤jk) (h2:jk < nI 5 eb) (hp:Ih sizes places ag cuts (nI 1 eb) jk=some cU):
 pK places ag cuts bs (G++[ko (nI 0 eb) jk (nI 2 eb) (fK ag jk) cU]) (G.length+1):=by
 have F7:=(List.getElem?_eq_some_iff.1 hk).1
 have hBk:=hB k eb F7 hk
 obtain⟨t,g,s,l,f,o',rfl⟩:=hb eb (List.mem_of_getElem? hk)
 have hne: ∀o,o∈G→ ∀ (k':Nat) (e':List T),bs[k']? =some e'→nI 4 e'≤nI 1 o→nI 1 o < nI 5 e'→(k' < k∨(k'=k∧nI 1 o < jk))→nI 1 e'=g→nI 1 o=jk→False:=by
  intro o ho k' e' he' ha CM hc hg mN
  rcases hc with hc|⟨rfl,hc⟩
  · exact hBk.o e' (Nw hc he') ⟨hg,by show nI 4 e' < o';have:jk < o':=h2;omega,by show f < nI 5 e';have:f≤jk:=h1;omega⟩
  · omega
 have ahT:Ed bs t=some (jg t g s l f o'):=by
  unfold Ed
  rw[List.find?_eq_some_iff_getElem]
  obtain⟨hlt,hge⟩:=List.getElem?_eq_some_iff.1 hk
  refine⟨by simp[nI],k,hlt,hge,fun j hj=>?_⟩
  have h3:=hBk.t bs[j] (Nw hj (List.getElem?_eq_getElem (Nat.lt_trans hj hlt)))
  have A4:nI 0 bs[j]≠t:=h3
  simp[A4]
 have hI:=pcI _ _ hp
 have hsz:E3 sizes g=s:=by
  have:sizes[g.toNat]? =some [tI s]:=hBk.s
  simp only[E3,this,Option.getD_some]
  rfl
 have hpc: ∀ (kk:Nat) (z:List T),cU[kk]? =some z→ ∃ (i:Nat) (c:List T) (j:Nat) (p:List T),z=[tI (i:Int)]∧cuts[i]? =some c∧Ak (j:Int) jk (fK ag jk) (E3 sizes g) c=true∧j < places.length∧places[j]? =some p∧nI 0 p=g:=fun kk z hz=>hI.src z (List.mem_of_getElem? hz)
 have ahC: ∀ (a b:Nat) (x y:List T),a < b→cU[a]? =some x→cU[b]? =some y→Qt cuts x < Qt cuts y:=by
  intro a b x y hab hx hy
  obtain⟨la,ea⟩:=List.getElem?_eq_some_iff.1 hx
  obtain⟨lb,eb⟩:=List.getElem?_eq_some_iff.1 hy
  have:=List.pairwise_iff_getElem.1 hI.srt a b la lb hab
  rw[ea,eb]at this
  exact this
 have hx:QT places ag cuts bs (uG cuts G G.length) G (ko t jk s (fK ag jk) cU):=by
  refine⟨⟨t,g,s,l,f,o',ahT,h1,h2,rfl⟩,fun o ho hd=>?_,rfl,fun t2 g2 s2 l2 f2 o2 D6=>?_⟩
  · obtain⟨k',e',a1,a2,a3,a4,a5,a6⟩:=hsrc o ho
    have d1:nI 0 o=t:=hd.1
    have d2:nI 1 o=jk:=hd.2
    rcases a6 with a6|⟨_,a6⟩
    · have h3:=hBk.t e' (Nw a6 a1)
      exact h3 (by rw[←a2];exact d1)
    · omega
  · have hf3:Ed bs t=some (jg t2 g2 s2 l2 f2 o2):=D6
    rw[ahT,Option.some.injEq]at hf3
    simp at hf3
    obtain⟨rfl,rfl,rfl,rfl,rfl,rfl⟩:=hf3
    refine⟨fun kk z hkk hz=>?_,fun j p hj hg=>?_⟩
    · obtain⟨i,c,j,p,rfl,hc,hh,AY,hjp,hpg⟩:=hpc kk z hz
      obtain⟨q1,q2,q3,q4,q5⟩:=Pj hh
      have ec:sK cuts (nI 0 [tI (i:Int)])=c:=gO (i:=(i:Int)) (by simpa using hc)
      have ei:nI 0 [tI (i:Int)]=(i:Int):=rfl
      have mN:=Ph hc hh
      have yA:=(List.getElem?_eq_some_iff.1 hc).1
      have hpe:sK places (j:Int)=p:=gO (by simpa using hjp)
      refine⟨⟨by rw[ei];omega,by rw[ei];omega⟩,?_,?_,by rw[ec];exact q4,by rw[ec];exact q3,by rw[ec];exact q2,by rw[ec,q5];exact hsz,by rw[ec,q1,hpe];exact hpg⟩
      · cases hu:nB 0 (sK (uA (uG cuts G G.length) (nL 4 (ko t jk s (fK ag jk) cU)) kk) (nI 0 [tI (i:Int)]))with
        |false=>rfl
        |true=>
         exfalso
         rcases Ny _ hu with hu|⟨k3,z3,c1,c2,c3⟩
         · obtain⟨k4,o4,z4,c1,c2,c3,c4⟩:=Pe _ hu
           obtain⟨k',e',a1,a2,a3,a4,a5,a6⟩:=hsrc o4 (List.mem_of_getElem? c2)
           obtain⟨i5,c5,j5,p5,rfl,b2,b3,b4,b5,b6⟩:=(pcI _ _ a5).src z4 c3
           have e5:nI 0 [tI (i5:Int)]=(i5:Int):=rfl
           rw[e5,ei]at c4
           have:i5=i:=by omega
           subst this
           rw[hc,Option.some.injEq]at b2
           subst b2
           obtain⟨r1,r2,_⟩:=Pj b3
           have hjj:j=j5:=by omega
           subst hjj
           rw[hjp,Option.some.injEq]at b5
           subst b5
           exact hne o4 (List.mem_of_getElem? c2) k' e' a1 a3 a4 a6 (by rw[←b6,hpg]) (by rw[←r2,q2])
         · have c2':cU[k3]? =some z3:=c2
           obtain⟨i5,c5,j5,p5,rfl,b2,b3,b4,b5,b6⟩:=hpc k3 z3 c2'
           have e5:nI 0 [tI (i5:Int)]=(i5:Int):=rfl
           rw[e5,ei]at c3
           have:i5=i:=by omega
           subst this
           have:=ahC k3 kk _ _ c1 c2' hz
           omega
      · cases hu:nB 0 (sK (fA cuts places.length (nL 4 (ko t jk s (fK ag jk) cU)) kk) (nI 1 (sK cuts (nI 0 [tI (i:Int)]))))with
        |false=>rfl
        |true=>
         exfalso
         obtain⟨k3,z3,c1,c2,c3⟩:=Pk _ hu
         have c2':cU[k3]? =some z3:=c2
         have:=ahC k3 kk _ _ c1 c2' hz
         obtain⟨i5,c5,j5,p5,rfl,b2,b3,b4,b5,b6⟩:=hpc k3 z3 c2'
         have hp5:=Ph b2 b3
         have hp6:(nI 1 (sK cuts (nI 0 [tI (i5:Int)]))).toNat=(nI 1 (sK cuts (nI 0 [tI (i:Int)]))).toNat:=c3
         have hp7:nI 1 (sK cuts (nI 0 [tI (i5:Int)]))=(j5:Int):=hp5
         have hp8:nI 1 (sK cuts (nI 0 [tI (i:Int)]))=(j:Int):=mN
         rw[hp7,hp8]at hp6
         rw[hp5,mN]at this
         omega
    · have AY:=(List.getElem?_eq_some_iff.1 hj).1
      obtain⟨z,hz,vj⟩:=hI.all j p AY hj hg
      obtain⟨kk,hkk⟩:=List.mem_iff_getElem?.1 hz
      have hz3:nI 1 (sK cuts (nI 0 z))=(j:Int):=vj
      exact Qj (by simpa using AY) _ kk z (List.getElem?_eq_some_iff.1 hkk).1 hkk (by rw[hz3])
 intro kk x hkk hx2
 by_cases hkG:kk=G.length
 · subst hkG
   have:x=ko t jk s (fK ag jk) cU:=by
    simp at hx2
    exact hx2.symm
   subst this
   rw[EW cuts G _ G.length (Nat.le_refl _),List.take_append_of_le_length (Nat.le_refl _),List.take_length]
   exact hx
 · exact hG.G9 _ kk x (by omega) hx2
theorem Pm {k:Nat} {eb:List T} (hk:bs[k]? =some eb) {G:Lz} (hG:pK places ag cuts bs G G.length) (hsrc: ∀o,o∈G→Src sizes places ag cuts bs (fun k' _=>k' < k) o):
 ∀n:Nat,n≤(nI 5 eb - nI 4 eb).toNat→pK places ag cuts bs (G++lI sizes places ag cuts eb n) (G++lI sizes places ag cuts eb n).length∧ ∀o,o∈G++lI sizes places ag cuts eb n→Src sizes places ag cuts bs (fun k' p=>k' < k∨(k'=k∧p < nI 4 eb+(n:Int))) o
 |0,_=>by
  simp only[lI,List.append_nil]
  exact⟨hG,fun o ho=>(hsrc o ho).mono (fun k' p h=> .inl h)⟩
 |n+1,hn=>by
  obtain⟨i1,i2⟩:=Pm hk hG hsrc n (by omega)
  simp only[lI]
  have up: ∀o,Src sizes places ag cuts bs (fun k' p=>k' < k∨(k'=k∧p < nI 4 eb+(n:Int))) o→Src sizes places ag cuts bs (fun k' p=>k' < k∨(k'=k∧p < nI 4 eb+((n+1:Nat):Int))) o:=fun o ho=>ho.mono (fun k' p h=>h.elim .inl (fun h=> .inr ⟨h.1,by omega⟩))
  cases hp:Ih sizes places ag cuts (nI 1 eb) (nI 4 eb+(n:Int))with
  |none=>
   simp only[List.append_nil]
   exact⟨i1,fun o ho=>up o (i2 o ho)⟩
  |some cU=>
   have:=agQ hB hb i1 i2 hk (by omega) (by omega) hp
   simp only[←List.append_assoc]
   refine⟨by rw[List.length_append];exact this,fun o ho=>?_⟩
   rcases List.mem_append.1 ho with ho|ho
   · exact up o (i2 o ho)
   · simp only[List.mem_singleton]at ho
     subst ho
     exact⟨k,eb,hk,rfl,by show nI 4 eb≤nI 4 eb+(n:Int);omega,by show nI 4 eb+(n:Int) < nI 5 eb;omega,hp, .inr ⟨rfl,by show nI 4 eb+(n:Int) < nI 4 eb+((n+1:Nat):Int);omega⟩⟩
theorem Nx: ∀k:Nat,pK places ag cuts bs (jV sizes places ag cuts bs k) (jV sizes places ag cuts bs k).length∧ ∀o,o∈jV sizes places ag cuts bs k→Src sizes places ag cuts bs (fun k' _=>k' < k) o
 |0=>⟨fun k e hk he=>by simp[jV]at he,fun o ho=>by simp[jV]at ho⟩
 |k+1=>by
  obtain⟨i1,i2⟩:=Nx k
  simp only[jV]
  cases hk:bs[k]? with
  |none=>
   simp only[List.append_nil]
   exact⟨i1,fun o ho=>(i2 o ho).mono (fun k' _ h=>by omega)⟩
  |some eb=>
   obtain⟨j1,j2⟩:=Pm hB hb hk i1 i2 _ (Nat.le_refl _)
   exact⟨j1,fun o ho=>(j2 o ho).mono (fun k' p h=>by omega)⟩
theorem Qm (hlen:(jV sizes places ag cuts bs bs.length).length≤240):Ok0 0 places ag cuts bs (jV sizes places ag cuts bs bs.length):=⟨rfl,hlen,(Nx hB hb bs.length).1⟩
end
end Go.aU.Cd
end
section
namespace Go.aU.Cd
open Go Go.Proofs
set_option maxRecDepth 100000
set_option maxHeartbeats 4000000
def c6:Rc:=Sq (Rg [Bx 1 0,Mb 2 false]) (Sq (Rg [Lo 16 17 1,p 18 (.call 21 [t 17]),Mv 16 18,Et 19 16 0,Et 20 16 1,Mv 3 19,Mv 4 20]) (Sq (Sq (Rg [Mv 21 4,Nt 22 21]) (Cn 22 (Sq (Rg [p 23 (.call 13 []),Mv 2 23]) Rt) Sk)) (Sq (Rg [Mn 5]) (Sq (Sq (Rg [Mk 6 0]) (Bk 0 (Lp (Sq (Sq (Rg [Mv 24 6,Mv 25 3,Le 26 25,Bt 27 .lss 24 26]) (Cn 27 Sk (Ex 0))) (Sq (Bk 1 (Sq (Rg [Mk 7 0,Mb 8 false]) (Sq (Sq (Rg [Mk 9 0]) (Bk 2 (Lp (Sq (Sq (Rg [Mv 30 9,Fa 31 14 1,Ld 32 31,Le 33 32,Bt 34 .lss 30 33]) (Cn 34 Sk (Ex 2))) (Sq (Bk 3 (Sq (Dr [Fa 37 14 1,Ld 38 37,Mv 39 9,Ia 40 6 38 39,Fa 41 0 40,Ld 42 41,Mv 43 3,Mv 44 6,Ia 45 5 43 44,Fa 46 0 45,Ld 47 46,Bt 48 .eql 42 47] [[],[0],[],[1,2],[3],[4],[],[],[6,7],[8],[9],[5,10]]) (Cn 48 (Rg [Mv 49 9,Mv 7 49,Mb 8 true]) Sk))) (Rg [Mv 35 9,Bi 36 .add 35 1,Mv 9 36])))))) (Sq (Sq (Dr (Mv 50 8::Nt 51 50::Mv 52 51::Ga 52 (Mv 53 3)::Ga 52 (Mv 54 6)::Ga 52 (Ia 55 5 53 54)::Ga 52 (Fa 56 1 55)::Ga 52 (Ld 57 56)::Ga 52 (Bi 58 .lss 57 0)::Pt 59 52 58::Mv 60 59::Ga 60 (Mv 61 3)::Ga 60 (Mv 62 6)::Ga 60 (Ia 63 5 61 62)::Ga 60 (Fa 64 1 63)::Ga 60 (Ld 65 64)::Ga 60 (Fa 66 7 1)::Ga 60 (Fa 67 6 66)::Ga 60 (Ld 68 67)::Ga 60 (Le 69 68)::Ga 60 (Bt 70 .geq 65 69)::Pt 71 60 70::Mv 72 71::Ga 72 (Mv 73 3)::Ga 72 (Mv 74 6)::Ga 72 (Ia 75 5 73 74)::Ga 72 (Fa 76 1 75)::Ga 72 (Ld 77 76)::Ga 72 (Fa 78 14 1)::Ga 72 (Ld 79 78)::Ga 72 (Mv 80 7)::Ga 72 (Ia 81 6 79 80)::Ga 72 (Fa 82 4 81)::Ga 72 (Ld 83 82)::Ga 72 (Bt 84 .lss 77 83)::Pt 85 72 84::Mv 86 85::Ga 86 (Mv 87 3)::Ga 86 (Mv 88 6)::Ga 86 (Ia 89 5 87 88)::Ga 86 (Fa 90 1 89)::Ga 86 (Ld 91 90)::Ga 86 (Fa 92 14 1)::Ga 86 (Ld 93 92)::Ga 86 (Mv 94 7)::Ga 86 (Ia 95 6 93 94)::Ga 86 (Fa 96 5 95)::Ga 86 (Ld 97 96)::Ga 86 (Bt 98 .geq 91 97)::Pt 99 86 98::Mv 100 99::Ga 100 (Mv 101 3)::Ga 100 (Mv 102 6)::Ga 100 (Ia 103 5 101 102)::Ga 100 (Fa 104 3 103)::Ga 100 (Ld 105 104)::Ga 100 (Fa 106 7 1)::Ga 100 (Fa 107 6 106)::Ga 100 (Ld 108 107)::Ga 100 (Mv 109 3)::Ga 100 (Mv 110 6)::Ga 100 (Ia 111 5 109 110)::Ga 100 (Fa 112 1 111)::Ga 100 (Ld 113 112)::Ga 100 (Ia 114 2 108 113)::Ga 100 (Fa 115 0 114)::Ga 100 (Ld 116 115)::Ga 100 (Bt 117 .neq 105 116)::Pt 118 100 117::Mv 119 118::Ga 119 (Mv 120 3)::Ga 119 (Mv 121 6)::Ga 119 (Ia 122 5 120 121)::Ga 119 (Fa 123 3 122)::Ga 119 (Ld 124 123)::Ga 119 (Fa 125 14 1)::Ga 119 (Ld 126 125)::Ga 119 (Mv 127 7)::Ga 119 (Ia 128 6 126 127)::Ga 119 (Fa 129 3 128)::Ga 119 (Ld 130 129)::Ga 119 (Bt 131 .neq 124 130)::Pt 132 119 131::Mv 133 132::Ga 133 (Mv 134 3)::Ga 133 (Mv 135 6)::Ga 133 (Ia 136 5 134 135)::Ga 133 (Fa 137 2 136)::Ga 133 (Ld 138 137)::Ga 133 (Fa 139 14 1)::Ga 133 (Ld 140 139)::Ga 133 (Mv 141 7)::Ga 133 (Ia 142 6 140 141)::Ga 133 (Fa 143 2 142)::Ga 133 (Ld 144 143)::Ga 133 (Bt 145 .neq 138 144)::Pt 146 133 145::[]) ([]::[0]::[1]::[2]::[2]::[3,4,2]::[5,2]::[6,2]::[7,2]::[2,8]::[9,2]::[10]::[10]::[11,12,10]::[13,10]::[14,10]::[10]::[16,10]::[17,10]::[18,10]::[15,19,10]::[10,20]::[21,10]::[22]::[22]::[23,24,22]::[25,22]::[26,22]::[22]::[28,22]::[22]::[29,30,22]::[31,22]::[32,22]::[27,33,22]::[22,34]::[35,22]::[36]::[36]::[37,38,36]::[39,36]::[40,36]::[36]::[42,36]::[36]::[43,44,36]::[45,36]::[46,36]::[41,47,36]::[36,48]::[49,36]::[50]::[50]::[51,52,50]::[53,50]::[54,50]::[50]::[56,50]::[57,50]::[50]::[50]::[59,60,50]::[61,50]::[62,50]::[58,63,50]::[64,50]::[65,50]::[55,66,50]::[50,67]::[68,50]::[69]::[69]::[70,71,69]::[72,69]::[73,69]::[69]::[75,69]::[69]::[76,77,69]::[78,69]::[79,69]::[74,80,69]::[69,81]::[82,69]::[83]::[83]::[84,85,83]::[86,83]::[87,83]::[83]::[89,83]::[83]::[90,91,83]::[92,83]::[93,83]::[88,94,83]::[83,95]::[])) (Cn 146 (Sq (Rg [Mb 2 false]) Rt) Sk)) (Sq (Rg [Mk 10 0]) (Sq (Sq (Rg [Mk 11 0]) (Bk 4 (Lp (Sq (Sq (Rg [Mv 147 11,Fa 148 7 1,Fa 149 0 148,Fa 150 5 149,Ld 151 150,Le 152 151,Bt 153 .lss 147 152]) (Cn 153 Sk (Ex 4))) (Sq (Bk 5 (Sq (Dr [Fa 156 7 1,Fa 157 0 156,Fa 158 5 157,Ld 159 158,Mv 160 11,Ia 161 7 159 160,Fa 162 0 161,Ld 163 162,Fa 164 14 1,Ld 165 164,Mv 166 7,Ia 167 6 165 166,Fa 168 1 167,Ld 169 168,Bt 170 .eql 163 169] [[],[0],[1],[2],[],[3,4],[5],[6],[],[8],[],[9,10],[11],[12],[7,13]]) (Cn 170 (Rg [Mv 171 10,Bi 172 .add 171 1,Mv 10 172]) Sk))) (Rg [Mv 154 11,Bi 155 .add 154 1,Mv 11 155])))))) (Sq (Sq (Rg [Mv 173 3,Mv 174 6,Ia 175 5 173 174,Fa 176 4 175,Ld 177 176,Le 178 177,Mv 179 10,Bt 180 .neq 178 179]) (Cn 180 (Sq (Rg [Mb 2 false]) Rt) Sk)) (Sq (Rg [Mk 12 0]) (Bk 6 (Lp (Sq (Sq (Rg [Mv 181 12,Mv 182 3,Mv 183 6,Ia 184 5 182 183,Fa 185 4 184,Ld 186 185,Le 187 186,Bt 188 .lss 181 187]) (Cn 188 Sk (Ex 6))) (Sq (Bk 7 (Sq (Rg [Mv 191 3,Mv 192 6,Ia 193 5 191 192,Fa 194 4 193,Ld 195 194,Mv 196 12,Ia 197 1 195 196,Ld 198 197,Mv 13 198]) (Sq (Sq (Rg [Mv 199 13,Bi 200 .lss 199 0,Mv 201 200,Ga 201 (Mv 202 13),Ga 201 (Fa 203 15 1),Ga 201 (Ld 204 203),Ga 201 (Le 205 204),Ga 201 (Bt 206 .geq 202 205),Pt 207 201 206]) (Cn 207 (Sq (Rg [Mb 2 false]) Rt) Sk)) (Sq (Rg [Fa 208 15 1,Ld 209 208,Mv 210 13,Ia 211 6 209 210,Lo 6 212 211,p 14 (.alloc [zi,zi,zi,zi,zn,zb]),So 6 14 212]) (Sq (Sq (Dr (Fa 213 1 14::Ld 214 213::Bi 215 .lss 214 0::Mv 216 215::Ga 216 (Fa 217 1 14)::Ga 216 (Ld 218 217)::Ga 216 (Fa 219 7 1)::Ga 216 (Fa 220 0 219)::Ga 216 (Fa 221 5 220)::Ga 216 (Ld 222 221)::Ga 216 (Le 223 222)::Ga 216 (Bt 224 .geq 218 223)::Pt 225 216 224::Mv 226 225::Ga 226 (Fa 227 5 14)::Ga 226 (Ld 228 227)::Pt 229 226 228::Mv 230 229::Ga 230 (Fa 231 2 14)::Ga 230 (Ld 232 231)::Ga 230 (Mv 233 3)::Ga 230 (Mv 234 6)::Ga 230 (Ia 235 5 233 234)::Ga 230 (Fa 236 3 235)::Ga 230 (Ld 237 236)::Ga 230 (Bt 238 .neq 232 237)::Pt 239 230 238::Mv 240 239::Ga 240 (Fa 241 0 14)::Ga 240 (Ld 242 241)::Ga 240 (Mv 243 3)::Ga 240 (Mv 244 6)::Ga 240 (Ia 245 5 243 244)::Ga 240 (Fa 246 1 245)::Ga 240 (Ld 247 246)::Ga 240 (Bt 248 .neq 242 247)::Pt 249 240 248::Mv 250 249::Ga 250 (Fa 251 7 1)::Ga 250 (Fa 252 0 251)::Ga 250 (Fa 253 5 252)::Ga 250 (Ld 254 253)::Ga 250 (Fa 255 1 14)::Ga 250 (Ld 256 255)::Ga 250 (Ia 257 7 254 256)::Ga 250 (Fa 258 0 257)::Ga 250 (Ld 259 258)::Ga 250 (Fa 260 14 1)::Ga 250 (Ld 261 260)::Ga 250 (Mv 262 7)::Ga 250 (Ia 263 6 261 262)::Ga 250 (Fa 264 1 263)::Ga 250 (Ld 265 264)::Ga 250 (Bt 266 .neq 259 265)::Pt 267 250 266::[]) ([]::[0]::[1]::[2]::[3]::[4,3]::[3]::[6,3]::[7,3]::[8,3]::[9,3]::[5,10,3]::[3,11]::[12,3]::[13]::[14,13]::[13,15]::[16,13]::[17]::[18,17]::[17]::[17]::[20,21,17]::[22,17]::[23,17]::[19,24,17]::[17,25]::[26,17]::[27]::[28,27]::[27]::[27]::[30,31,27]::[32,27]::[33,27]::[29,34,27]::[27,35]::[36,27]::[37]::[38,37]::[39,37]::[40,37]::[37]::[42,37]::[41,43,37]::[44,37]::[45,37]::[37]::[47,37]::[37]::[48,49,37]::[50,37]::[51,37]::[46,52,37]::[37,53]::[])) (Cn 267 (Sq (Rg [Mb 2 false]) Rt) Sk)) (Sq (Sq (Rg [Mk 15 0]) (Bk 8 (Lp (Sq (Sq (Rg [Mv 268 15,Mv 269 5,Le 270 269,Bt 271 .lss 268 270]) (Cn 271 Sk (Ex 8))) (Sq (Bk 9 (Sq (Rg [Mv 274 5,Mv 275 15,Ia 276 1 274 275,Ld 277 276,Mv 278 13,Bt 279 .eql 277 278]) (Cn 279 (Sq (Rg [Mb 2 false]) Rt) Sk))) (Rg [Mv 272 15,Bi 273 .add 272 1,Mv 15 273])))))) (Rg [Mv 280 5,Mv 281 13,p 282 (.aT [zi] 1 [(0,t 281)]),p 283 (.append 1 8 (t 280) (t 282)),Mv 5 283]))))))) (Rg [Mv 189 12,Bi 190 .add 189 1,Mv 12 190]))))))))))))) (Rg [Mv 28 6,Bi 29 .add 28 1,Mv 6 29])))))) (Sq (Rg [Fa 284 0 1,Lo 7 285 284,Fa 286 7 1,Lo 7 287 286,Fa 288 14 1,Ld 289 288,Fa 290 15 1,Ld 291 290,Mv 292 3,p 293 (.call 17 [t 285,t 287,t 289,t 291,t 292]),Bi 294 .eql 293 0,Mv 295 294,Gb 295 (p 296 (.call 13 [])),Pf 297 295 296,Mv 2 297]) Rt)))))
theorem ck6:ae Tryz.prog (Tryz.f6.body.getD .skip)=some c6:=by kernel_rfl
theorem bk6:Tryz.f6.body=some (Tryz.f6.body.getD .skip):=rfl
def Qd (e:List T):Prop:= ∃t p s l cU,e=ko t p s l cU∧Is cU∧cU.length≤1000
theorem Qd.gr {e:List T} (h:Qd e):JJ e:=by
 obtain⟨t,p,s,l,cU,rfl,h1,h2⟩:=h
 exact⟨t,p,s,l,cU,rfl,h1,by simp only[maxLen];omega⟩
theorem Pv {sizes places ag cuts:Lz} (hp:places.length≤1000) (e:List T): ∀n x,x∈lI sizes places ag cuts e n→Qd x
 |0,x,h=>by simp[lI]at h
 |n+1,x,h=>by
  simp only[lI,List.mem_append]at h
  rcases h with h|h
  · exact Pv hp e n x h
  · cases hq:Ih sizes places ag cuts (nI 1 e) (nI 4 e+(n:Int))with
    |none=>simp[hq]at h
    |some cU=>
     simp only[hq,List.mem_singleton]at h
     obtain⟨h1,h2⟩:=zO _ _ hq
     exact⟨_,_,_,_,cU,h,h1,by omega⟩
theorem Pu {sizes places ag cuts bs:Lz} (hp:places.length≤1000): ∀k x,x∈jV sizes places ag cuts bs k→Qd x
 |0,x,h=>by simp[jV]at h
 |k+1,x,h=>by
  simp only[jV,List.mem_append]at h
  rcases h with h|h
  · exact Pu hp k x h
  · cases hk:bs[k]? with
    |none=>simp[hk]at h
    |some e=>
     simp only[hk]at h
     exact Pv hp e _ x h
def Qc (u zs:Lz):Prop:= ∀z,z∈zs→ ∃p:Int,z=[tI p]∧nB 0 (sK u p)=true
theorem Qc.is {u zs:Lz} (h:Qc u zs):Is zs:=fun z hz=>by
 obtain⟨p,hp,_⟩:=h z hz
 exact⟨p,hp⟩
theorem Qk {xs:Lz} {a:Nat} {p:Int} (h:nB 0 (sK xs p)=true):nB 0 (sK (xs.set a [tB true]) p)=true:=by
 rcases Nz (xs:=xs) (a:=a) (v:=[tB true]) (i:=p)with h1|⟨_,h1⟩
 · rw[h1]
   exact h
 · rw[h1]
   rfl
theorem Pg (used cU:Lz): ∀j,(uA used cU j).length=used.length
 |0=>rfl
 |j+1=>by
  simp only[uA]
  split
  · exact Pg used cU j
  · rw[List.length_set]
    exact Pg used cU j
theorem Pq (cuts gs:Lz): ∀j,(uG cuts gs j).length=cuts.length
 |0=>by simp[uG]
 |j+1=>by
  simp only[uG]
  split
  · exact Pq cuts gs j
  · rw[Pg]
    exact Pq cuts gs j
theorem Qc.add {u cU zs:Lz} {k:Nat} {p:Int} (h:Qc (uA u cU k) zs) (hk:cU[k]? =some [tI p]) (hp:p.toNat < u.length):Qc (uA u cU (k+1)) (zs++[[tI p]]):=by
 have e:uA u cU (k+1)=(uA u cU k).set p.toNat [tB true]:=by
  simp only[uA,hk]
  rfl
 rw[e]
 intro z hz
 rcases List.mem_append.1 hz with hz|hz
 · obtain⟨q,h1,h2⟩:=h z hz
   exact⟨q,h1,Qk h2⟩
 · simp only[List.mem_singleton]at hz
   refine⟨p,hz,?_⟩
   unfold sK
   rw[List.getElem?_set_self (by rw[Pg];exact hp)]
   rfl
theorem Qc.next {cuts gz zs cU:Lz} {i k:Nat} {t p s l:Int} (h:Qc (uA (uG cuts gz i) cU k) zs) (hg:gz[i]? =some (ko t p s l cU)) (hk:k=cU.length):Qc (uG cuts gz (i+1)) zs:=by
 subst hk
 have e:uG cuts gz (i+1)=uA (uG cuts gz i) cU cU.length:=by
  simp only[uG,hg]
  rfl
 rw[e]
 exact h
theorem Qn {u zs:Lz} {j:Nat} {p:Int} (h:Qc u zs) (hj:zs[j]? =some [tI p]) (hu:nB 0 (sK u p)=false):False:=by
 obtain⟨q,h1,h2⟩:=h _ (List.mem_of_getElem? hj)
 simp at h1
 subst h1
 rw[hu]at h2
 cases h2
def Pb (bs gz:Lz) (i k n:Nat) (fb:Bool):Prop:=
 (fb=true→ ∃e,n < k∧bs[n]? =some e∧ ∀g,gz[i]? =some g→nI 0 e=nI 0 g)∧(fb=false→ ∀ (j:Nat) (e g:List T),j < k→bs[j]? =some e→gz[i]? =some g→nI 0 e≠nI 0 g)
def Sh1 (bs gz:Lz) (i:Nat) (rF:List (Lz)) (m:Nat) (vs:List V) (xss:List (Lz)):Prop:=
 ∃ (k n:Nat) (fb:Bool),k≤bs.length∧m=bs.length - k∧vs=[iV .i64 (n:Int),bV fb,iV .i64 (k:Int)]∧xss=rF∧Pb bs gz i k n fb
theorem Sh1.Qu {bs gz:Lz} {i k n:Nat} {fb:Bool} {rF:List (Lz)} {e g:List T} (hk:(k:Int) < (bs.length:Int)) (hl:bs.length≤1000) (h:Pb bs gz i k n fb) (hs:bs[((k:Int)).toNat]? =some e) (hg:gz[((i:Int)).toNat]? =some g) (hn:nI 0 e≠nI 0 g):
 Sh1 bs gz i rF (bs.length - (k+1)) [iV .i64 (n:Int),bV fb,iV .i64 (IntKind.i64.wrap ((k:Int)+1))] rF:=by
 refine⟨k+1,n,fb,by omega,rfl,by rw[bO (by omega) (by omega)];rfl,rfl,fun hb=>?_,fun hb j e' g' hj he' iE=>?_⟩
 · obtain⟨e1,h1,h2⟩:=h.1 hb
   exact⟨e1,by omega,h2⟩
 · by_cases Ol:j=k
   · subst Ol
     rw[Int.toNat_natCast]at hs hg
     rw[hs,Option.some.injEq]at he'
     rw[hg,Option.some.injEq]at iE
     subst he' iE
     exact hn
   · exact h.2 hb j e' g' (by omega) he' iE
theorem Sh1.hit {bs gz:Lz} {i k:Nat} {rF:List (Lz)} {e g:List T} (hk:(k:Int) < (bs.length:Int)) (hl:bs.length≤1000) (hs:bs[((k:Int)).toNat]? =some e) (hg:gz[((i:Int)).toNat]? =some g) (hn:nI 0 e=nI 0 g):
 Sh1 bs gz i rF (bs.length - (k+1)) [iV .i64 (k:Int),bV true,iV .i64 (IntKind.i64.wrap ((k:Int)+1))] rF:=by
 rw[Int.toNat_natCast]at hs hg
 refine⟨k+1,k,true,by omega,rfl,by rw[bO (by omega) (by omega)];rfl,rfl,fun _=>⟨e,by omega,hs,fun g' iE=>?_⟩,fun hb=>by simp at hb⟩
 rw[hg,Option.some.injEq]at iE
 subst iE
 exact hn
theorem Pb.get {bs gz:Lz} {i k n:Nat} {fb:Bool} (h:Pb bs gz i k n fb) (hb:fb=true) (hB:JQ bs) {t p s l:Int} {cU:Lz} (hg:gz[((i:Int)).toNat]? =some (ko t p s l cU)):
 ∃t2 g2 s2 l2 f2 o2,bs[((n:Int)).toNat]? =some (jg t2 g2 s2 l2 f2 o2)∧t2=t:=by
 obtain⟨e,h1,h2,h3⟩:=h.1 hb
 obtain⟨t2,g2,s2,l2,f2,o2,rfl⟩:=hB e (List.mem_of_getElem? h2)
 exact⟨t2,g2,s2,l2,f2,o2,by simpa using h2,h3 (ko t p s l cU) (by simpa using hg)⟩
theorem Pb.none {bs gz:Lz} {i k n:Nat} {fb:Bool} (h:Pb bs gz i k n fb) (hk:bs.length≤k) (hb:fb=false) (hi:i < gz.length) (hF: ∀ (i:Nat) (g:List T),gz[i]? =some g→ ∃ (j:Nat) (e:List T),bs[j]? =some e∧nI 0 e=nI 0 g):False:=by
 have hg:gz[i]? =some gz[i]:=List.getElem?_eq_getElem hi
 obtain⟨j,e,h1,h2⟩:=hF i _ hg
 exact h.2 hb j e _ (by have:=(List.getElem?_eq_some_iff.1 h1).1;omega) h1 hg h2
def Qa (places:Lz) (g:Int) (k:Nat):Nat:=((places.take k).filter (fun p=>decide (nI 0 p=g))).length
def Sh2 (places:Lz) (g:Int) (rF:List (Lz)) (m:Nat) (vs:List V) (xss:List (Lz)):Prop:=
 ∃ (k c:Nat),k≤places.length∧m=places.length - k∧vs=[iV .i64 (c:Int),iV .i64 (k:Int)]∧xss=rF∧c=Qa places g k∧c≤k
theorem Sh2.Qu {places:Lz} {g:Int} {k c:Nat} {rF:List (Lz)} {e:List T} (hk:(k:Int) < (places.length:Int)) (hl:places.length≤1000) (hc:c=Qa places g k) (vq:c≤k) (hs:places[((k:Int)).toNat]? =some e) (hn:nI 0 e≠g):
 Sh2 places g rF (places.length - (k+1)) [iV .i64 (c:Int),iV .i64 (IntKind.i64.wrap ((k:Int)+1))] rF:=by
 rw[Int.toNat_natCast]at hs
 refine⟨k+1,c,by omega,rfl,by rw[bO (by omega) (by omega)];rfl,rfl,?_,by omega⟩
 rw[hc]
 unfold Qa
 rw[List.take_add_one,hs,List.filter_append]
 simp[hn]
theorem Sh2.hit {places:Lz} {g:Int} {k c:Nat} {rF:List (Lz)} {e:List T} (hk:(k:Int) < (places.length:Int)) (hl:places.length≤1000) (hc:c=Qa places g k) (vq:c≤k) (hs:places[((k:Int)).toNat]? =some e) (hn:nI 0 e=g):
 Sh2 places g rF (places.length - (k+1)) [iV .i64 (IntKind.i64.wrap ((c:Int)+1)),iV .i64 (IntKind.i64.wrap ((k:Int)+1))] rF:=by
 rw[Int.toNat_natCast]at hs
 refine⟨k+1,c+1,by omega,rfl,by rw[bO (by omega) (by omega),bO (by omega) (by omega)];rfl,rfl,?_,by omega⟩
 rw[hc]
 unfold Qa
 rw[List.take_add_one,hs,List.filter_append]
 simp[hn]
def Sh0 (row:List T) (cuts gz:Lz) (m:Nat) (vs:List V) (xss:List (Lz)):Prop:=
 ∃ (i:Nat) (zs:Lz),i≤gz.length∧m=gz.length - i∧vs=[bK 8 1 zs.length,iV .i64 (i:Int)]∧xss=[[row],zs]∧Qc (uG cuts gz i) zs∧zs.length≤1000 * i
theorem Sh0.next {row:List T} {cuts gz zs cU:Lz} {i k:Nat} {t p s l:Int} (hi:(i:Int) < (gz.length:Int)) (hl:gz.length≤200) (h:Qc (uA (uG cuts gz i) cU k) zs) (hg:gz[((i:Int)).toNat]? =some (ko t p s l cU)) (hk:k=cU.length) (mN:cU.length≤1000) (hz:zs.length≤1000 * i+k):
 Sh0 row cuts gz (gz.length - (i+1)) [bK 8 1 zs.length,iV .i64 (IntKind.i64.wrap ((i:Int)+1))] [[row],zs]:=
 ⟨i+1,zs,by omega,rfl,by rw[bO (by omega) (by omega)];rfl,rfl,h.next (by simpa using hg) hk,by omega⟩
def Sh3 (row:List T) (u cU:Lz) (B m:Nat) (vs:List V) (xss:List (Lz)):Prop:=
 ∃ (k:Nat) (zs:Lz),k≤cU.length∧m=cU.length - k∧vs=[bK 8 1 zs.length,iV .i64 (k:Int)]∧xss=[[row],zs]∧Qc (uA u cU k) zs∧zs.length≤B+k
theorem Sh3.next {row:List T} {u cU zs:Lz} {B k n:Nat} {p:Int} (hk:(k:Int) < (cU.length:Int)) (hl:cU.length≤1000) (h:Qc (uA u cU k) zs) (hs:cU[((k:Int)).toNat]? =some [tI p]) (hp:p.toNat < u.length) (hz:zs.length≤B+k) (hn:n=zs.length+1):
 Sh3 row u cU B (cU.length - (k+1)) [bK 8 1 n,iV .i64 (IntKind.i64.wrap ((k:Int)+1))] [[row],zs++[[tI p]]]:=
 ⟨k+1,zs++[[tI p]],by omega,rfl,by subst hn;rw[bO (by omega) (by omega)];simp,rfl,h.add (by simpa using hs) hp,by simp;omega⟩
def Sh4 (N:Nat) (rF:List (Lz)) (m:Nat) (vs:List V) (xss:List (Lz)):Prop:= ∃j:Nat,j≤N∧m=N - j∧vs=[iV .i64 (j:Int)]∧xss=rF
theorem Sh4.next {N j:Nat} {rF:List (Lz)} (hj:(j:Int) < (N:Int)) (hN:N≤1000000):Sh4 N rF (N - (j+1)) [iV .i64 (IntKind.i64.wrap ((j:Int)+1))] rF:=⟨j+1,by omega,rfl,by rw[bO (by omega) (by omega)];rfl,rfl⟩
structure ahY (places ag cuts gz:Lz) (i:Nat) (p s l g2 s2 l2 f2 o2:Int) (cU:Lz):Prop where
 hp:0≤p∧p < (ag.length:Int)∧f2≤p∧p < o2
 hl:l=fK ag p
 pO:l=l2
 hs:s=s2
 c:cU.length=Qa places g2 places.length
 fit:vh places ag cuts g2 p s (uG cuts gz i) cU
theorem Qf {ag:Lz} {p lo:Int} {qq:T} (h:ag[p.toNat]? =some [tI lo,qq]):fK ag p=lo:=by simp only[fK,h,Option.getD_some];rfl
theorem Ra {cuts:Lz} {np nq:Nat} (h: ∀e,e∈cuts→EJ np nq e) {i:Nat} {p q l s:Int} {r:Lz} {d:Bool} (hs:cuts[i]? =some [tI p,tI q,tI l,tI s, .ao 1 r,tB d]):0≤q∧q < (nq:Int):=by
 have:=h _ (List.mem_of_getElem? hs)
 exact⟨this.2.2.1,this.2.2.2⟩
theorem Nv (sn:ByteArray) (bM ms ps us ss os:Lz) (ln wd rx ry:Int) (sizes places ag bs cuts:Lz) (hc:Eu cuts) (hb:JQ bs) (gz:Lz) (ok:Bool) (h1:Te 21 [RR sn bM ms ps us ss os ln wd rx ry sizes places ag bs cuts] [oL 5 gz,oB ok]) (hL:ok=true→rB sizes places ag) (Ou:ok=true→gz.length≤200) (BK:ok=true→bs.length≤16) (hql:ok=true→places.length≤8) (hcs:ok=true→cuts.length≤60) (hg:ok=true→ ∀e,e∈gz→Qd e) (hF:ok=true→ ∀ (i:Nat) (g:List T),gz[i]? =some g→ ∃ (j:Nat) (e:List T),bs[j]? =some e∧nI 0 e=nI 0 g) (hG:ok=true→ ∀ (i n:Nat) (t p s l t2 g2 s2 l2 f2 o2:Int) (cU:Lz),gz[i]? =some (ko t p s l cU)→bs[n]? =some (jg t2 g2 s2 l2 f2 o2)→t2=t→ahY places ag cuts gz i p s l g2 s2 l2 f2 o2 cU) (hI:ok=true→ ∀e,e∈cuts→EJ ag.length places.length e) (h2:ok=true→Te 17 [g8 sn bM ms ps us ss os,kF ln wd rx ry sizes places ag,oL 6 bs,oL 6 cuts,oL 5 gz] [oI 0]) (h3:Te 13 [] [oB true]):Tg 6 [RR sn bM ms ps us ss os ln wd rx ry sizes places ag bs cuts] GTr:=by
 refine aG ?_
 refine ah (n:=298) (rs:=[.tmp 2]) Tryz.func6 bk6 ck6 rfl rfl (by simp) ?_
 repeat' (conv=>whnf
          first
  |(refine az (fun h=>?_) (fun h=>?_))
  |(refine cv (fun h=>?_) (fun h=>?_))
  |(refine aB (fun h=>?_) (fun h=>?_))
  |(refine Nc SA (by omega) ?_)
  |(refine Nc FV (by omega) ?_)
  |(refine ap (xs:=gz) (hg (nh (b:=ok) (by assumption))) (by omega) (by omega) ?_;rintro _ ⟨tg,pg,sg,lg,pcg,rfl,hpcg,Oa⟩ SA)
  |(obtain⟨tb,gb,sb,lb,fb2,ob,FV,htb⟩:=hFd.get (nh (b:=fb) (by assumption)) hb SA;have hS:=hG (nh (b:=ok) (by assumption)) _ _ _ _ _ _ _ _ _ _ _ _ _ SA FV htb;refine Nc FV (by omega) ?_)
  |(refine ap (xs:=bs) hb (by omega) (by omega) ?_;rintro _ ⟨tb,gb,sb,lb,fb2,ob,rfl⟩ N5)
  |(refine ap (xs:=ag) (hL (nh (b:=ok) (by assumption))).hy hS.hp.1 hS.hp.2.1 ?_;rintro _ ⟨lo,q2,rfl⟩ IF)
  |(refine ap (xs:=places) (hL (nh (b:=ok) (by assumption))).hp (by omega) (by omega) ?_;rintro _ ⟨g5,u5,k5,f5,q5,x5,y5,rfl⟩ hsp)
  |(refine ap (xs:=pcg) hpcg (by omega) (by omega) ?_;rintro _ ⟨pp,rfl⟩ ahQ;have hP:=hS.fit.all _ _ (by omega) ahQ)
  |(refine ap (xs:=cuts) hc hP.r.1 hP.r.2 ?_;rintro _ ⟨p3,q3,l3,s3,r3,d3,rfl⟩ hsc)
  |(have q1:=Ou (nh (b:=ok) (by assumption));have q2:=Oa;refine And.intro ⟨by simp[tr],by simp[tr,bR];omega,by simp[tr,maxLen];omega⟩ ?_)
  |(refine And.intro (by kernel_rfl) ?_)
  |(refine And.intro (by omega) ?_)
  |(refine ai rfl (h1) ?_;rintro _ rfl)
  |(refine ai rfl (h3) ?_;rintro _ rfl)
  |(refine ai rfl (h2 (nh (b:=ok) (by assumption))) ?_;rintro _ rfl)
  |(refine cg (xs:=Dq) rfl vj.is (by omega) ?_;rintro _ ⟨a6,rfl⟩ hs6)
  |exact mF rfl (dw rfl) rfl
  |(exfalso;obtain⟨tb,gb,sb,lb,fb2,ob,FV,htb⟩:=hFd.get (nh (b:=fb) (by assumption)) hb SA;have hS:=hG (nh (b:=ok) (by assumption)) _ _ _ _ _ _ _ _ _ _ _ _ _ SA FV htb;have h7:=hS.hp;omega)
  |(exfalso;have h7:=hS.hp;have h8:=hS.hl;have h9:=hS.pO;have I0:=hS.hs;omega)
  |(exfalso;have h8:=hS.hl;have h9:=Qf IF;omega)
  |(exfalso;exact hFd.none (by omega) (JY (b:=fb) (by assumption)) (by omega) (hF (nh (b:=ok) (by assumption))))
  |(exfalso;have h7:=hS.c;have h8:k2=places.length:=(by omega);subst h8;omega)
  |(exfalso;have h7:0≤pp∧pp < (cuts.length:Int):=hP.r;omega)
  |(exfalso;have h7:=Ra (hI (nh (b:=ok) (by assumption))) hsc;omega)
  |(exfalso;have h7:=J6 hP hsc;omega)
  |(exfalso;exact Bool.noConfusion ((J6 hP hsc).1.symm.trans (by assumption:d3=true)))
  |(exfalso;have h7:=Rw hP hsc IF;have h8:=hS.hl;have h9:=Qf IF;omega)
  |(exfalso;have h7:=Ru hP hsc hsp;have h8:g5=gb:=h7;omega)
  |(exfalso;exact Qn vj (by rw[show pp=a6 by omega];exact hs6) hP.u)
  |(apply bc [1,3,5,6,7,12,13,15] [] [15] [(4,16),(8,1)] (Sh4 Dq.length [[csT sn bM ms ps us ss os ln wd rx ry sizes places ag bs cuts],Dq]) (Dq.length) [iV .i64 0];(conv=>whnf);exact⟨rfl,rfl,rfl,rfl⟩;exact rfl;exact rfl;exact .cons (aL.aF (xs:=[csT sn bM ms ps us ss os ln wd rx ry sizes places ag bs cuts]) rfl _) (.cons (aL.aF (xs:=Dq) rfl _) .nil);exact⟨0,by omega,rfl,rfl,rfl⟩;rintro _ _ _ ⟨j4,hj4,rfl,rfl,rfl⟩)
  |(refine aq [1,3,5,6,7,12,13,15] [] ?_;(conv=>whnf);exact⟨rfl,_,[_],_, .cons (aL.aF (xs:=[csT sn bM ms ps us ss os ln wd rx ry sizes places ag bs cuts]) rfl _) (.cons (aL.aF (xs:=Dq) rfl _) .nil),Sh4.next (by omega) (by have:=Ou (nh (b:=ok) (by assumption));omega),rfl,rfl,by omega⟩)
  |(apply bc [1,3,5,6,7,12] [] [5,12] [(4,16),(8,1)] (Sh3 (csT sn bM ms ps us ss os ln wd rx ry sizes places ag bs cuts) (uG cuts gz i) pcg (1000 * i)) (pcg.length) [bK 8 1 zs.length,iV .i64 0];(conv=>whnf);exact⟨rfl,rfl,rfl,rfl⟩;exact rfl;exact rfl;exact .cons (aL.aF (xs:=[csT sn bM ms ps us ss os ln wd rx ry sizes places ag bs cuts]) rfl _) (.cons (aL.aF (xs:=zs) rfl _) .nil);exact⟨0,zs,by omega,rfl,rfl,rfl,hz,by omega⟩;rintro _ _ _ ⟨k3,Dq,hk3,rfl,rfl,rfl,vj,Iw⟩)
  |(refine aq [1,3,5,6,7,12] [] ?_;(conv=>whnf);exact⟨rfl,_,[_,_],_, .cons (aL.aF (xs:=[csT sn bM ms ps us ss os ln wd rx ry sizes places ag bs cuts]) rfl _) (.cons (aL.aF (aL.snoc (xs:=Dq) rfl [tI _]) _) .nil),Sh3.next (by omega) Oa vj ahQ (by rw[Pq];have h7:0≤pp∧pp < (cuts.length:Int):=hP.r;omega) Iw (by simp[tr]),rfl,rfl,by omega⟩)
  |(apply bc [1,3,5,6,7,10,11] [] [10,11] [(4,16),(8,1)] (Sh2 places gb [[csT sn bM ms ps us ss os ln wd rx ry sizes places ag bs cuts],zs]) (places.length) [iV .i64 0,iV .i64 0];(conv=>whnf);exact⟨rfl,rfl,rfl,rfl⟩;exact rfl;exact rfl;exact .cons (aL.aF (xs:=[csT sn bM ms ps us ss os ln wd rx ry sizes places ag bs cuts]) rfl _) (.cons (aL.aF (xs:=zs) rfl _) .nil);exact⟨0,0,by omega,rfl,rfl,rfl,rfl,by omega⟩;rintro _ _ _ ⟨k2,c2,F8,rfl,rfl,rfl,Gh,ahU⟩)
  |(refine aq [1,3,5,6,7,10,11] [] ?_;(conv=>whnf);first|exact⟨rfl,_,[_,_],_, .cons (aL.aF (xs:=[csT sn bM ms ps us ss os ln wd rx ry sizes places ag bs cuts]) rfl _) (.cons (aL.aF (xs:=zs) rfl _) .nil),Sh2.Qu (by omega) (by have:=hql (nh (b:=ok) (by assumption));omega) Gh ahU hsp (show ¬ (g5=gb) by omega),rfl,rfl,by omega⟩|exact⟨rfl,_,[_,_],_, .cons (aL.aF (xs:=[csT sn bM ms ps us ss os ln wd rx ry sizes places ag bs cuts]) rfl _) (.cons (aL.aF (xs:=zs) rfl _) .nil),Sh2.hit (by omega) (by have:=hql (nh (b:=ok) (by assumption));omega) Gh ahU hsp (show g5=gb by omega),rfl,rfl,by omega⟩)
  |(apply bc [1,3,5,6,7,8,9] [] [7,8,9] [(4,16),(8,1)] (Sh1 bs gz i [[csT sn bM ms ps us ss os ln wd rx ry sizes places ag bs cuts],zs]) (bs.length) [iV .i64 0,bV false,iV .i64 0];(conv=>whnf);exact⟨rfl,rfl,rfl,rfl⟩;exact rfl;exact rfl;exact .cons (aL.aF (xs:=[csT sn bM ms ps us ss os ln wd rx ry sizes places ag bs cuts]) rfl _) (.cons (aL.aF (xs:=zs) rfl _) .nil);exact⟨0,0,false,by omega,rfl,rfl,rfl,fun hb=>by simp at hb,fun _ j e g hj=>by omega⟩;rintro _ _ _ ⟨k1,n1,fb,gj,rfl,rfl,rfl,hFd⟩)
  |(refine aq [1,3,5,6,7,8,9] [] ?_;(conv=>whnf);first|exact⟨rfl,_,[_,_,_],_, .cons (aL.aF (xs:=[csT sn bM ms ps us ss os ln wd rx ry sizes places ag bs cuts]) rfl _) (.cons (aL.aF (xs:=zs) rfl _) .nil),Sh1.Qu (by omega) (by have:=BK (nh (b:=ok) (by assumption));omega) hFd N5 SA (show ¬ (tb=tg) by omega),rfl,rfl,by omega⟩|exact⟨rfl,_,[_,_,_],_, .cons (aL.aF (xs:=[csT sn bM ms ps us ss os ln wd rx ry sizes places ag bs cuts]) rfl _) (.cons (aL.aF (xs:=zs) rfl _) .nil),Sh1.hit (by omega) (by have:=BK (nh (b:=ok) (by assumption));omega) N5 SA (show tb=tg by omega),rfl,rfl,by omega⟩)
  |(apply eN [1,3,5,6] [] [5,6] [(4,16),(8,1)] (Sh0 (csT sn bM ms ps us ss os ln wd rx ry sizes places ag bs cuts) cuts gz) (gz.length) [bK 8 1 0,iV .i64 0] (iA.jh 5 1 rfl);(conv=>whnf);exact⟨rfl,rfl,rfl,rfl⟩;exact rfl;exact rfl;exact .cons (aL.aF (xs:=[csT sn bM ms ps us ss os ln wd rx ry sizes places ag bs cuts]) rfl _) (.cons (aL.aF aL.nil _) .nil);exact⟨0,[],by omega,rfl,rfl,rfl,fun z hz=>by simp at hz,by simp⟩;rintro _ _ _ ⟨i,zs,hi,rfl,rfl,rfl,hz,sG⟩)
  |(refine aq [1,3,5,6] [] ?_;(conv=>whnf);exact⟨rfl,_,[_,_],_, .cons (aL.aF (xs:=[csT sn bM ms ps us ss os ln wd rx ry sizes places ag bs cuts]) rfl _) (.cons (aL.aF (xs:=Dq) rfl _) .nil),Sh0.next (by omega) (Ou (nh (b:=ok) (by assumption))) vj SA (by omega) (by omega) Iw,rfl,rfl,by omega⟩))
 all_goals (conv=>whnf)
theorem Pa {sizes ag bs:Lz} (hB:xA sizes ag bs bs.length) {a b:Nat} {e f:List T} (ha:bs[a]? =some e) (hb:bs[b]? =some f) (h:nI 0 e=nI 0 f):e=f:=by
 have la:=(List.getElem?_eq_some_iff.1 ha).1
 have lb:=(List.getElem?_eq_some_iff.1 hb).1
 rcases Nat.lt_trichotomy a b with hlt|rfl|hgt
 · exact((hB b f lb hb).t e (Nw hlt ha) h).elim
 · rw[ha,Option.some.injEq]at hb
   exact hb
 · exact((hB a e la ha).t f (Nw hgt hb) h.symm).elim
theorem ahB {sizes places ag cuts bs:Lz} (hB:xA sizes ag bs bs.length) (hb:JQ bs) (hO:Ok0 0 places ag cuts bs (jV sizes places ag cuts bs bs.length)) {i n:Nat} {t p s l t2 g2 s2 l2 f2 o2:Int} {cU:Lz}
 (hi:(jV sizes places ag cuts bs bs.length)[i]? =some (ko t p s l cU)) (hn:bs[n]? =some (jg t2 g2 s2 l2 f2 o2)) (ht:t2=t):ahY places ag cuts (jV sizes places ag cuts bs bs.length) i p s l g2 s2 l2 f2 o2 cU:=by
 subst ht
 have hG:=hO.all i _ (List.getElem?_eq_some_iff.1 hi).1 hi
 obtain⟨k,e,hk,h1,h2,h3,h4,_⟩:=(Nx (sizes:=sizes) (places:=places) (cuts:=cuts) hB hb bs.length).2 _ (List.mem_of_getElem? hi)
 have he:=Pa hB hk hn h1.symm
 subst he
 have hBk:=hB k _ (List.getElem?_eq_some_iff.1 hk).1 hk
 have f1:0≤f2∧f2 < o2∧o2≤(ag.length:Int):=hBk.f
 have p1:f2≤p:=h2
 have p2:p < o2:=h3
 have hlt:l=fK ag p:=hG.sE
 obtain⟨a1,a2,a3,a4,a5,a6,af,a7,a8,a9⟩:=hG.pre
 obtain⟨b1,k1,b2⟩:=agN af
 have Qv:=Pa hB b2 hk b1
 simp at Qv
 obtain⟨rfl,rfl,rfl,rfl,rfl,rfl⟩:=Qv
 refine⟨⟨by omega,by omega,p1,p2⟩,hlt,?_,a9,(pcI _ _ h4).QG,hG.fit _ _ _ _ _ _ af⟩
 have hx:ag[p.toNat]? =some ag[p.toNat]:=List.getElem?_eq_getElem (by omega)
 have hq:=hBk.l p.toNat _ (by show a5≤(p.toNat:Int);omega) (by show(p.toNat:Int) < a6;omega) hx
 rw[hlt]
 unfold fK
 rw[hx]
 exact hq
theorem Pw (hw:aD1) {x:List T} (h:iO YB x):Fn Tryz.prog 6 [.agg (x.map .t)] [] (bV true) []:=by
 obtain⟨sn,bM,ms,ps,us,ss,os,ln,wd,rx,ry,sizes,places,ag,bs,cuts,rfl,hok,hc,ee⟩:=ajF h
 obtain⟨b0,e0,h0,ef⟩:=ajE sn bM ms ps us ss os ln wd rx ry sizes places ag bs hok
 obtain⟨⟨ts,f,i,gz,rfl,hgz⟩,Tk⟩:=ef cuts hc ee
 have hB:okB b0 e0 ag.length places.length cuts=true→xA sizes ag bs bs.length:=fun h=>(h0 (aAi h).1).2.2 (Da (aAi h).2.2).1
 have hlen:okB b0 e0 ag.length places.length cuts=true→(jV sizes places ag cuts bs bs.length).length≤128:=fun h=>by
  have h1:=DA (places:=places) (cuts:=cuts) (h0 (aAi h).1).2.1.p (O7 hok.hb (hB h)) bs.length
  have h2:=(h0 (aAi h).1).2.1.b
  omega
 have hO:okB b0 e0 ag.length places.length cuts=true→Ok0 0 places ag cuts bs (jV sizes places ag cuts bs bs.length):=fun h=>Qm (hB h) hok.hb (by have:=hlen h;omega)
 have IP:okB b0 e0 ag.length places.length cuts=true→ ∀e,e∈jV sizes places ag cuts bs bs.length→Qd e:=fun h=>Pu (by have:=(h0 (aAi h).1).2.1.q;omega) _
 obtain⟨ts,f,_,rfl⟩:=Nv sn bM ms ps us ss os ln wd rx ry sizes places ag bs cuts hc hok.hb gz _ ⟨_,f,i,rfl⟩ (fun h=>(h0 (aAi h).1).1)
  (fun h=>by rw[hgz h];have:=hlen h;omega) (fun h=>(h0 (aAi h).1).2.1.b) (fun h=>(h0 (aAi h).1).2.1.q)
  (fun h=>by have:=(aAi h).2.1;simp only[AD,Bool.and_eq_true,decide_eq_true_eq]at this;exact this.1)
  (fun h=>by rw[hgz h];exact IP h)
  (fun h j g hj=>by
    rw[hgz h]at hj
    obtain⟨k,e,hk,h1,_⟩:=(Nx (sizes:=sizes) (places:=places) (cuts:=cuts) (hB h) hok.hb bs.length).2 _ (List.mem_of_getElem? hj)
    exact⟨k,e,hk,h1.symm⟩)
  (fun h i n t p s l t2 g2 s2 l2 f2 o2 cU hi hn ht=>by
    rw[hgz h]at hi⊢
    exact ahB (hB h) hok.hb (hO h) hi hn ht)
  (fun h=>(Da (aAi h).2.2).2.2)
  (fun h=>by
    obtain⟨ts,f,i,n,rfl,_,hn,_⟩:=Tk h gz (fun e he=>by rw[hgz h]at he;exact(IP h e he).gr) (by rw[hgz h];have:=hlen h;simp only[maxLen];omega)
    refine⟨_,f,i,?_⟩
    rw[hn (by rw[hgz h];exact hO h)]) hw
 exact f
end Go.aU.Cd
end
section
namespace Go.Proofs.YtlhffnnmmbannaaGreat
open Go.ChangeShapes Go.WideShapes Go.ChangeAt Go.RowKit
set_option maxRecDepth 100000
theorem Pp:(Rows.assemblyShadeRow.inPlace==Tryz.prog.inPlace 6)=true:=by kernel_rfl
theorem Qq:(Rows.assemblyShadeRow.unfollowed==Tryz.prog.unfollowed 6)=true:=by kernel_rfl
theorem Qr:(Rows.assemblyShadeRow.recurses==Tryz.prog.recurses 6)=true:=by kernel_rfl
theorem Qb:(Rows.assemblyShadeRow.named==Tryz.prog.varsNamed 6)=true:=by kernel_rfl
theorem ahV:(Rows.assemblyShadeRow.wf (OpenSpec.ofChange Rows.assemblyShadeSpec)&&laidOutB Tryz.prog&&mapsRowed Tryz.prog&&Tryz.f6.params.all (Tryz.prog.readableRec ·)&&namedTie Tryz.prog Rows.assemblyShadeRow.named Rows.assemblyShadeSpec.vars&& (Rows.assemblyShadeRow.stops== [])&& (Tryz.prog.stops== [])&& (Rows.assemblyShadeRow.knobs== [])&& (Tryz.prog.stopKnobs== []))=true:=by kernel_rfl
theorem Qs:joinedFacts Tryz.prog 6 Tryz.f6 Rows.assemblyShadeSpec Rows.assemblyShadeRow=true:=by
 unfold joinedFacts
 rw[ahV,Pp,Qq,Qr,Qb]
 kernel_rfl
end Go.Proofs.YtlhffnnmmbannaaGreat
end
section
namespace Go.Proofs.YtlhffnnmmbannaaGreat
open Go.aU Go.ChangeShapes Go.WideShapes Go.ChangeAt Go.RowKit
theorem Tryz.own:ownKnob Tryz.prog.godebug=none:=by kernel_rfl
theorem Tryz.laidOut:laidOutB Tryz.prog=true:=by kernel_rfl
def ahW:Value:= .agg #[.string ⟨#[]⟩, .slice none 0 0, .slice none 0 0, .slice none 0 0, .slice none 0 0, .slice none 0 0, .slice none 0 0, .int .i64 0, .int .i64 0, .int .i64 0, .int .i64 0, .slice none 0 0, .slice none 0 0, .slice none 0 0, .slice none 0 0, .slice none 0 0]
set_option maxRecDepth 100000 in
theorem Pr (hFn: ∀us,Typed Tryz.prog 12 Tryz.f6.params.toList us→aU.Fn Tryz.prog 6 us [] (.w (.one (.t (.val (.bool true))))) []) (os:Os) (started:os.Started) (H:Type) (enc:TypeId×Value→H):
 ReturnsInHanded {} Tryz.checked os 6 .any (Rows.assemblyShadeSpec.pre6 enc Tryz.prog Tryz.f6 Rows.assemblyShadeRow.domain false) (Rows.assemblyShadeSpec.post enc Tryz.prog Tryz.f6 false true false false):=by
 refine returnsInHanded_of_change (C:=Tryz.checked) Tryz.own started (by kernel_rfl) Tryz.func6
  (ChangeSpec.witness6 (enc:=enc) (C:=Tryz.checked) false ⟨#[], #[ahW],[]⟩ 8 (by kernel_rfl) (by kernel_rfl) (by kernel_rfl) (by kernel_rfl)) ?_
 intro W base args ds gs before hval hW _ _
 refine P2 (P:=Tryz.prog) (d:=11) (s:=Rows.assemblyShadeSpec) Tryz.laidOut rfl (by kernel_rfl) Tryz.underlying4 ?_ ?_ ?_ hFn hval (fun g vs hg=>by simp[Cr,No]at hg) hW
 · intro ds hds
   rw[Tryz.params6]at hds
   match ds,hds with
   | [a],_=>exact⟨rfl,rfl,rfl⟩
 · have:(Tryz.f6.params.toList.all fun t=>gZ Tryz.prog 12 t)=true:=by kernel_rfl
   exact List.all_eq_true.1 this
 · have:(Tryz.f6.params.toList.all fun t=>Tryz.prog.readableRec t&&decide (t < Tryz.prog.types.size))=true:=by kernel_rfl
   intro t ht
   have:=List.all_eq_true.1 this t ht
   simpa using this
theorem Px:Tryz.pinned.checked.prog.funcNamed Rows.assemblyShadeRow.func=some 6:=by kernel_rfl
theorem Qi:Tryz.f6.isInstance Tryz.pinned.checked.prog Rows.assemblyShadeRow.origin Rows.assemblyShadeRow.targs:=of_decide_eq_true (by kernel_rfl)
theorem Qg:Tryz.f6.isWrapper Tryz.pinned.checked.prog Rows.assemblyShadeRow.wrapper Rows.assemblyShadeRow.mainSum:=by
 unfold Func.isWrapper;first|(rw[if_pos (by decide+kernel)];kernel_rfl)|(rw[if_neg (by decide+kernel)];exact⟨rfl,rfl⟩)
theorem Qh (hFn: ∀us,Typed Tryz.prog 12 Tryz.f6.params.toList us→aU.Fn Tryz.prog 6 us [] (.w (.one (.t (.val (.bool true))))) []):Rows.AssemblyShadeSaid:=
 OpenClaim.holds_of_wide 6 Tryz.f6 rfl rfl rfl rfl rfl rfl rfl ⟨rfl,rfl,rfl,rfl,rfl⟩ rfl rfl rfl rfl rfl Px Tryz.func6 Qs Qi Qg
  (fun os started H enc _=>Pr hFn os started H enc)
end Go.Proofs.YtlhffnnmmbannaaGreat
end
