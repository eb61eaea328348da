import Derived.Test.YtlhffnnmmbannaaGreatME
import Derived.Test.YtlhffnnmmbannaaGreatRows
import Derived.ProofKit
set_option linter.all false
section
namespace Go.aU.Cd
open Go Go.Proofs
set_option maxRecDepth 100000
set_option maxHeartbeats 1000000
def c16:Rc:=Sq (Rg [Mb 4 false]) (Sq (Sq (Rg [Mv 7 0,Le 8 7,Mv 9 1,Le 10 9,Bt 11 .neq 8 10]) (Cn 11 (Sq (Rg [Mb 4 false]) Rt) Sk)) (Sq (Sq (Rg [Mk 5 0]) (Bk 0 (Lp (Sq (Sq (Rg [Mv 12 5,Mv 13 0,Le 14 13,Bt 15 .lss 12 14]) (Cn 15 Sk (Ex 0))) (Sq (Bk 1 (Sq (Sq (Dr (Mv 18 0::Mv 19 5::Ia 20 5 18 19::Fa 21 0 20::Ld 22 21::Mv 23 1::Mv 24 5::Ia 25 5 23 24::Fa 26 0 25::Ld 27 26::Bt 28 .neq 22 27::Mv 29 28::Ga 29 (Mv 30 0)::Ga 29 (Mv 31 5)::Ga 29 (Ia 32 5 30 31)::Ga 29 (Fa 33 1 32)::Ga 29 (Ld 34 33)::Ga 29 (Mv 35 1)::Ga 29 (Mv 36 5)::Ga 29 (Ia 37 5 35 36)::Ga 29 (Fa 38 1 37)::Ga 29 (Ld 39 38)::Ga 29 (Bt 40 .neq 34 39)::Pt 41 29 40::Mv 42 41::Ga 42 (Mv 43 0)::Ga 42 (Mv 44 5)::Ga 42 (Ia 45 5 43 44)::Ga 42 (Fa 46 2 45)::Ga 42 (Ld 47 46)::Ga 42 (Mv 48 1)::Ga 42 (Mv 49 5)::Ga 42 (Ia 50 5 48 49)::Ga 42 (Fa 51 2 50)::Ga 42 (Ld 52 51)::Ga 42 (Bt 53 .neq 47 52)::Pt 54 42 53::Mv 55 54::Ga 55 (Mv 56 0)::Ga 55 (Mv 57 5)::Ga 55 (Ia 58 5 56 57)::Ga 55 (Fa 59 3 58)::Ga 55 (Ld 60 59)::Ga 55 (Mv 61 1)::Ga 55 (Mv 62 5)::Ga 55 (Ia 63 5 61 62)::Ga 55 (Fa 64 3 63)::Ga 55 (Ld 65 64)::Ga 55 (Bt 66 .neq 60 65)::Pt 67 55 66::Mv 68 67::Ga 68 (Mv 69 0)::Ga 68 (Mv 70 5)::Ga 68 (Ia 71 5 69 70)::Ga 68 (Fa 72 4 71)::Ga 68 (Ld 73 72)::Ga 68 (Le 74 73)::Ga 68 (Mv 75 1)::Ga 68 (Mv 76 5)::Ga 68 (Ia 77 5 75 76)::Ga 68 (Fa 78 4 77)::Ga 68 (Ld 79 78)::Ga 68 (Le 80 79)::Ga 68 (Bt 81 .neq 74 80)::Pt 82 68 81::[]) ([]::[]::[0,1]::[2]::[3]::[]::[]::[5,6]::[7]::[8]::[4,9]::[10]::[11]::[11]::[12,13,11]::[14,11]::[15,11]::[11]::[11]::[17,18,11]::[19,11]::[20,11]::[16,21,11]::[11,22]::[23,11]::[24]::[24]::[25,26,24]::[27,24]::[28,24]::[24]::[24]::[30,31,24]::[32,24]::[33,24]::[29,34,24]::[24,35]::[36,24]::[37]::[37]::[38,39,37]::[40,37]::[41,37]::[37]::[37]::[43,44,37]::[45,37]::[46,37]::[42,47,37]::[37,48]::[49,37]::[50]::[50]::[51,52,50]::[53,50]::[54,50]::[55,50]::[50]::[50]::[57,58,50]::[59,50]::[60,50]::[61,50]::[56,62,50]::[50,63]::[])) (Cn 82 (Sq (Rg [Mb 4 false]) Rt) Sk)) (Sq (Rg [Mk 6 0]) (Bk 2 (Lp (Sq (Sq (Rg [Mv 83 6,Mv 84 0,Mv 85 5,Ia 86 5 84 85,Fa 87 4 86,Ld 88 87,Le 89 88,Bt 90 .lss 83 89]) (Cn 90 Sk (Ex 2))) (Sq (Bk 3 (Sq (Dr [Mv 93 0,Mv 94 5,Ia 95 5 93 94,Fa 96 4 95,Ld 97 96,Mv 98 6,Ia 99 1 97 98,Ld 100 99,Mv 101 1,Mv 102 5,Ia 103 5 101 102,Fa 104 4 103,Ld 105 104,Mv 106 6,Ia 107 1 105 106,Ld 108 107,Bt 109 .neq 100 108] [[],[],[0,1],[2],[3],[],[4,5],[6],[],[],[8,9],[10],[11],[],[12,13],[14],[7,15]]) (Cn 109 (Sq (Rg [Mb 4 false]) Rt) Sk))) (Rg [Mv 91 6,Bi 92 .add 91 1,Mv 6 92])))))))) (Rg [Mv 16 5,Bi 17 .add 16 1,Mv 5 17])))))) (Sq (Rg [Mb 4 true]) Rt)))
theorem ck16:ae Tryz.prog (Tryz.f16.body.getD .skip)=some c16:=by kernel_rfl
theorem bk16:Tryz.f16.body=some (Tryz.f16.body.getD .skip):=rfl
def Eqs (xs ys:Lz) (i:Nat):Prop:= ∀j,j < i→xs[j]? =ys[j]?
theorem Eqs.zero {xs ys:Lz}:Eqs xs ys 0:=fun j hj=>by omega
theorem Eqs.succ {xs ys:Lz} {i:Nat} (h:Eqs xs ys i) {e f:List T} (hx:xs[i]? =some e) (hy:ys[i]? =some f) (he:e=f):Eqs xs ys (i+1):=by
 intro j hj
 by_cases fk:j=i
 · subst fk
   rw[hx,hy,he]
 · exact h j (by omega)
theorem Eqs.all {xs ys:Lz} {i:Nat} (h:Eqs xs ys i) (hi:xs.length≤i) (hl:xs.length=ys.length):xs=ys:=by
 apply List.ext_getElem?
 intro j
 by_cases hj:j < i
 · exact h j hj
 · rw[List.getElem?_eq_none (by omega),List.getElem?_eq_none (by omega)]
def RSa (xs ys:Lz) (m:Nat) (vs:List V):Prop:= ∃i:Nat,i≤xs.length∧Eqs xs ys i∧m=xs.length - i∧vs=[iV .i64 (i:Int)]
theorem RSa.next {xs ys:Lz} {i:Nat} {e f:List T} (hi:(i:Int) < (xs.length:Int)) (hl:xs.length≤maxLen) (h:Eqs xs ys i) (hx:xs[((i:Int)).toNat]? =some e) (hy:ys[((i:Int)).toNat]? =some f) (he:e=f):RSa xs ys (xs.length - (i+1)) [iV .i64 (IntKind.i64.wrap ((i:Int)+1))]:=
 ⟨i+1,by omega,h.succ (by simpa using hx) (by simpa using hy) he,rfl,by simp only[maxLen]at hl;rw[bO (by omega) (by omega)];rfl⟩
theorem sa_bad {xs ys:Lz} {i:Nat} {e f:List T} (hx:xs[i]? =some e) (hy:ys[i]? =some f) (hn:e=f→False):false=true↔xs=ys:=by
 refine⟨fun h=>by simp at h,fun h=>?_⟩
 subst h
 rw[hx,Option.some.injEq]at hy
 exact(hn hy).elim
theorem sa_len {xs ys:Lz} (h:(xs.length:Int)≠ (ys.length:Int)):false=true↔xs=ys:=⟨fun h=>by simp at h,fun e=>by subst e;omega⟩
theorem gar_eq {t p s l t2 p2 s2 l2:Int} {q q2:Lz} (h:ko t p s l q=ko t2 p2 s2 l2 q2):t=t2∧p=p2∧s=s2∧l=l2∧q=q2:=by
 simp at h
 exact h
theorem int_eq {a b:Int} (h: [tI a]=[tI b]):a=b:=by simpa using h
theorem int_eq_at {xs ys:Lz} {i:Nat} {a b:Int} (h:xs=ys) (hx:xs[i]? =some [tI a]) (hy:ys[i]? =some [tI b]):a=b:=by
 subst h
 rw[hx,Option.some.injEq]at hy
 exact int_eq hy
theorem gar_mk {t p s l t2 p2 s2 l2:Int} {q q2:Lz} (h1:t=t2) (h2:p=p2) (h3:s=s2) (h4:l=l2) (h5:q=q2):ko t p s l q=ko t2 p2 s2 l2 q2:=by
 subst h1 h2 h3 h4 h5
 rfl
theorem garmentref50_Same (xs ys:Lz) (hx: ∀e,e∈xs→JJ e) (hy: ∀e,e∈ys→JJ e) (hxl:xs.length≤maxLen):Tg 16 [oL 5 xs,oL 5 ys] (M7 (xs=ys)):=by
 refine ah (n:=110) (rs:=[.tmp 4]) Tryz.func16 bk16 ck16 rfl rfl (by simp) ?_
 repeat' (conv=>whnf
          first
  |(refine az (fun h=>?_) (fun h=>?_))
  |(refine aC4 (fun h=>?_) (fun h=>?_))
  |(refine cv (fun h=>?_) (fun h=>?_))
  |(refine aB (fun h=>?_) (fun h=>?_))
  |(refine Nc EC (by omega) ?_)
  |(refine Nc hs4 (by omega) ?_)
  |(refine ap (xs:=xs) hx (by omega) (by omega) ?_;rintro _ ⟨t4,p4,s4,l4,pc4,rfl,hpc4,hpl4⟩ EC)
  |(refine ap (xs:=ys) hy (by omega) (by omega) ?_;rintro _ ⟨t5,p5,s5,l5,pc5,rfl,hpc5,hpl5⟩ hs4)
  |(refine ap (xs:=pc4) hpc4 (by omega) (by omega) ?_;rintro _ ⟨a4,rfl⟩ hs5)
  |(refine ap (xs:=pc5) hpc5 (by omega) (by omega) ?_;rintro _ ⟨a5,rfl⟩ hs6)
  |(refine Bc (by omega) (by omega) ?_;intro bb)
  |(refine fz (by omega) (by omega) ?_)
  |(refine And.intro (by kernel_rfl) ?_)
  |(refine And.intro (by omega) ?_)
  |exact QD rfl rfl (sa_len (by assumption))
  |exact QD rfl rfl ⟨fun _=>hp.all (by omega) (by omega),fun _=>rfl⟩
  |exact QD rfl rfl (sa_bad EC hs4 (fun h=>by have h9:=gar_eq h;have h8:=int_eq_at h9.2.2.2.2 hs5 hs6;omega))
  |exact QD rfl rfl (sa_bad EC hs4 (fun h=>by have h9:=gar_eq h;have h8:=congrArg List.length h9.2.2.2.2;omega))
  |(apply aK [0,1,5,6] [] [6] (RSa pc4 pc5) (pc4.length) [iV .i64 0];(conv=>whnf);exact⟨rfl,rfl,rfl,rfl⟩;exact rfl;exact rfl;exact⟨0,by omega,Eqs.zero,rfl,rfl⟩;rintro _ _ ⟨k,hk,hq,rfl,rfl⟩)
  |(refine aq [0,1,5,6] [] ?_;(conv=>whnf);exact⟨rfl,_,[_],RSa.next (by omega) hpl4 hq hs5 hs6 (by rw[show a4=a5 by omega]),rfl,rfl,rfl,by omega⟩)
  |(apply aK [0,1,5] [] [5] (RSa xs ys) (xs.length) [iV .i64 0];(conv=>whnf);exact⟨rfl,rfl,rfl,rfl⟩;exact rfl;exact rfl;exact⟨0,by omega,Eqs.zero,rfl,rfl⟩;rintro _ _ ⟨i,hi,hp,rfl,rfl⟩)
  |(refine aq [0,1,5] [] ?_;(conv=>whnf);exact⟨rfl,_,[_],RSa.next (by omega) hxl hp EC hs4 (gar_mk (by omega) (by omega) (by omega) (by omega) (hq.all (by omega) (by omega))),rfl,rfl,rfl,by omega⟩)
  |(exfalso;omega))
 all_goals (conv=>whnf)
end Go.aU.Cd
end
section
namespace Go.aU.Cd
open Go Go.Proofs
theorem fis {α:Type} (p:α→Bool) (e':α): ∀ (l:List α) (m:Nat) (e:α),l[m]? =some e→p e=p e'→(l.set m e').findIdx? p=l.findIdx? p
 | [],_,_,h,_=>by simp at h
 |a::l,0,e,h,hp=>by
  simp only[List.getElem?_cons_zero,Option.some.injEq]at h
  subst h
  simp only[List.set_cons_zero,List.findIdx?_cons,hp]
 |a::l,m+1,e,h,hp=>by
  simp only[List.getElem?_cons_succ]at h
  simp only[List.set_cons_succ,List.findIdx?_cons,fis p e' l m e h hp]
def Uni (cuts:Lz):Prop:= ∀ (i j:Nat) (e1 e2:List T),j < i→cuts[i]? =some e1→cuts[j]? =some e2→¬ (nI 0 e1=nI 0 e2∧nI 1 e1=nI 1 e2)
theorem Uni.ne {cuts:Lz} (h:Uni cuts) {i j:Nat} {e1 e2:List T} (hij:i≠j) (h1:cuts[i]? =some e1) (h2:cuts[j]? =some e2):¬ (nI 0 e1=nI 0 e2∧nI 1 e1=nI 1 e2):=by
 rcases Nat.lt_or_ge j i with hlt|hge
 · exact h i j e1 e2 hlt h1 h2
 · intro hx
   exact h j i e2 e1 (by omega) h2 h1 ⟨hx.1.symm,hx.2.symm⟩
abbrev eCt (p q l s:Int) (rs:Lz) (d:Bool):List T:=[tI p,tI q,tI l,tI s, .ao 1 rs,tB d]
theorem hit_eq {place jk sE size:Int} {e:List T} (h:Ak place jk sE size e=true):nI 1 e=place∧nI 0 e=jk:=by
 simp only[Ak,Bool.and_eq_true,decide_eq_true_eq]at h
 exact⟨h.1.1.1.1,h.1.1.1.2⟩
theorem fiF_dmg {cuts:Lz} {m:Nat} {p q l s:Int} {rs:Lz} {d:Bool} (hU:Uni cuts) (hm:cuts[m]? =some (eCt p q l s rs d)) (jk sE size:Int) (j:Nat):
 Mr (cuts.set m (eCt p q l s rs true)) jk sE size j=Mr cuts jk sE size j∨(Mr (cuts.set m (eCt p q l s rs true)) jk sE size j=none∧jk=p∧(j:Int)=q):=by
 have h0:Ak (j:Int) jk sE size (eCt p q l s rs true)=false:=by
  have:nB 5 (eCt p q l s rs true)=true:=rfl
  simp[Ak,this]
 cases hh:Ak (j:Int) jk sE size (eCt p q l s rs d)with
 |false=>
  left
  exact fis _ _ _ _ _ hm (by rw[hh,h0])
 |true=>
  right
  obtain⟨h1,h2⟩:=hit_eq hh
  have Gl:q=(j:Int):=h1
  have QC:p=jk:=h2
  refine⟨Ja (fun e he hx=>?_),QC.symm,Gl.symm⟩
  obtain⟨k,hk⟩:=List.mem_iff_getElem?.1 he
  by_cases hkm:m=k
  · subst hkm
    rw[List.getElem?_set_self (List.getElem?_eq_some_iff.1 hm).1,Option.some.injEq]at hk
    subst hk
    rw[h0]at hx
    cases hx
  · rw[List.getElem?_set_ne hkm]at hk
    obtain⟨h3,h4⟩:=hit_eq hx
    exact hU.ne hkm hm hk ⟨by rw[h2,h4],by rw[h1,h3]⟩
theorem pcsTo_dmg {g:Int} {places:Lz} {fi fi':Nat→Option Nat} {A:Nat→Prop} (h: ∀j,fi' j=fi j∨(fi' j=none∧A j)): ∀n,fJ g fi' places n=fJ g fi places n∨(fJ g fi' places n=none∧ ∃j p,A j∧places[j]? =some p∧nI 0 p=g)
 |0=> .inl rfl
 |n+1=>by
  rcases pcsTo_dmg h n (g:=g) (places:=places)with h1|⟨h1,h2⟩
  · simp only[fJ,h1]
    cases fJ g fi places n with
    |none=>exact .inl rfl
    |some zs=>
     cases hp:places[n]? with
     |none=>exact .inl rfl
     |some p=>
      simp only
      by_cases hg:nI 0 p=g
      · simp only[if_pos hg]
        rcases h n with h3|⟨h3,h4⟩
        · rw[h3]
          exact .inl rfl
        · rw[h3]
          exact .inr ⟨rfl,n,p,h4,hp,hg⟩
      · simp only[if_neg hg]
        exact .inl trivial
  · right
    refine⟨?_,h2⟩
    simp only[fJ,h1]
def Mis (C:Prop) (xs ys:Lz):Prop:=ys=xs∨(C∧ ∃a x b,xs=a++x::b∧ys=a++b)
theorem Mis.mono {C D:Prop} {xs ys:Lz} (h:Mis C xs ys) (hi:C→D):Mis D xs ys:=h.elim .inl (fun h=> .inr ⟨hi h.1,h.2⟩)
theorem Mis.right {C:Prop} {xs ys zs:Lz} (h:Mis C xs ys):Mis C (xs++zs) (ys++zs):=by
 rcases h with rfl|⟨hc,a,x,b,rfl,rfl⟩
 · exact .inl rfl
 · exact .inr ⟨hc,a,x,b++zs,by simp,by simp⟩
theorem Mis.left {C:Prop} {xs ys zs:Lz} (h:Mis C xs ys):Mis C (zs++xs) (zs++ys):=by
 rcases h with rfl|⟨hc,a,x,b,rfl,rfl⟩
 · exact .inl rfl
 · exact .inr ⟨hc,zs++a,x,b,by simp,by simp⟩
theorem Mis.at {C:Prop} {xs ys:Lz} (h:Mis C xs ys):ys.length≤xs.length∧xs.length≤ys.length+1∧ ∀i y,ys[i]? =some y→xs[i]? =some y∨xs[i+1]? =some y:=by
 rcases h with rfl|⟨_,a,x,b,rfl,rfl⟩
 · exact⟨Nat.le_refl _,Nat.le_succ _,fun i y h=> .inl h⟩
 · refine⟨by simp,by simp;omega,fun i y h=>?_⟩
   rcases Nat.lt_or_ge i a.length with hlt|hge
   · left
     rw[List.getElem?_append_left hlt]at h⊢
     exact h
   · right
     rw[List.getElem?_append_right hge]at h
     rw[List.getElem?_append_right (by omega),show i+1 - a.length=(i - a.length)+1 by omega]
     exact h
section
variable {sizes places ag cuts bs:Lz} {m:Nat} {p q l s:Int} {rs:Lz} {d:Bool} (hU:Uni cuts) (hm:cuts[m]? =some (eCt p q l s rs d))
include hU hm
theorem pcB_dmg (g jk:Int):Ih sizes places ag (cuts.set m (eCt p q l s rs true)) g jk=Ih sizes places ag cuts g jk∨(Ih sizes places ag (cuts.set m (eCt p q l s rs true)) g jk=none∧jk=p∧nI 0 ((places[q.toNat]?).getD [])=g):=by
 unfold Ih
 rcases pcsTo_dmg (g:=g) (places:=places) (fiF_dmg hU hm jk (fK ag jk) (E3 sizes g)) places.length with h|⟨h1,j,pl,⟨h2,h3⟩,h4,h5⟩
 · exact .inl h
 · refine .inr ⟨h1,h2,?_⟩
   rw[←h3,Int.toNat_natCast,h4]
   exact h5
theorem sewB_dmg (e:List T): ∀n:Nat,Mis (nI 0 ((places[q.toNat]?).getD [])=nI 1 e∧nI 4 e≤p∧p < nI 4 e+(n:Int)) (lI sizes places ag cuts e n) (lI sizes places ag (cuts.set m (eCt p q l s rs true)) e n)
 |0=> .inl rfl
 |n+1=>by
  have ih:=sewB_dmg e n
  simp only[lI]
  rcases pcB_dmg hU hm (nI 1 e) (nI 4 e+(n:Int)) (sizes:=sizes) (places:=places) (ag:=ag)with h|⟨h1,h2,h3⟩
  · rw[h]
    exact ih.right.mono (fun hx=>⟨hx.1,hx.2.1,by omega⟩)
  · rw[h1]
    have e1:lI sizes places ag (cuts.set m (eCt p q l s rs true)) e n=lI sizes places ag cuts e n:=by
     rcases ih with hx|⟨hx,_⟩
     · exact hx
     · exfalso
       omega
    rw[e1]
    cases Ih sizes places ag cuts (nI 1 e) (nI 4 e+(n:Int))with
    |none=>exact .inl rfl
    |some cU=>exact .inr ⟨⟨h3,by omega,by omega⟩,_,_,[],rfl,rfl⟩
theorem sewL_dmg (hB:xA sizes ag bs bs.length): ∀k:Nat,k≤bs.length→Mis (∃o,o∈bs.take k∧nI 0 ((places[q.toNat]?).getD [])=nI 1 o∧nI 4 o≤p∧p < nI 5 o) (jV sizes places ag cuts bs k) (jV sizes places ag (cuts.set m (eCt p q l s rs true)) bs k)
 |0,_=> .inl rfl
 |k+1,hk=>by
  have ih:=sewL_dmg hB k (by omega)
  have gj:bs[k]? =some bs[k]:=List.getElem?_eq_getElem (by omega)
  simp only[jV,gj]
  have hmem:bs[k]∈bs.take (k+1):=List.mem_iff_getElem?.2 ⟨k,by rw[List.getElem?_take_of_lt (by omega)];exact gj⟩
  have hsub: ∀o,o∈bs.take k→o∈bs.take (k+1):=fun o ho=>by
   rw[List.take_add_one]
   exact List.mem_append_left _ ho
  rcases sewB_dmg hU hm bs[k] (nI 5 bs[k] - nI 4 bs[k]).toNat (sizes:=sizes) (places:=places) (ag:=ag)with h|⟨h1,h2⟩
  · rw[h]
    exact ih.right.mono (fun⟨o,ho,hx⟩=>⟨o,hsub o ho,hx⟩)
  · have e1:jV sizes places ag (cuts.set m (eCt p q l s rs true)) bs k=jV sizes places ag cuts bs k:=by
     rcases ih with hx|⟨⟨o,ho,EE,Oe,IJ⟩,_⟩
     · exact hx
     · exfalso
       exact(hB k bs[k] (by omega) gj).o o ho ⟨by rw[←EE,h1.1],by omega,by omega⟩
    rw[e1]
    exact Mis.left (.inr ⟨⟨bs[k],hmem,h1.1,h1.2.1,by omega⟩,h2⟩)
theorem sew_dmg (hB:xA sizes ag bs bs.length):Mis True (jV sizes places ag cuts bs bs.length) (jV sizes places ag (cuts.set m (eCt p q l s rs true)) bs bs.length):=
 (sewL_dmg hU hm hB bs.length (Nat.le_refl _)).mono (fun _=>trivial)
end
theorem okB_dmg {b0:Bool} {e0:Int} {np nq:Nat} {cuts:Lz} {m:Nat} {p q l s:Int} {rs:Lz} {d:Bool} (hm:cuts[m]? =some (eCt p q l s rs d)):okB b0 e0 np nq (cuts.set m (eCt p q l s rs true))=okB b0 e0 np nq cuts:=by
 have key: ∀ (f:List T→Bool),f (eCt p q l s rs d)=f (eCt p q l s rs true)→(cuts.set m (eCt p q l s rs true)).all f=cuts.all f:=by
  intro f hf
  rw[Bool.eq_iff_iff,List.all_eq_true,List.all_eq_true]
  constructor
  · intro h x hx
    obtain⟨i,hi⟩:=List.mem_iff_getElem?.1 hx
    by_cases him:m=i
    · subst him
      rw[hm,Option.some.injEq]at hi
      subst hi
      rw[hf]
      exact h _ (List.mem_iff_getElem?.2 ⟨m,by rw[List.getElem?_set_self (List.getElem?_eq_some_iff.1 hm).1]⟩)
    · exact h x (List.mem_iff_getElem?.2 ⟨i,by rw[List.getElem?_set_ne him];exact hi⟩)
  · intro h x hx
    rcases List.mem_or_eq_of_mem_set hx with hx|rfl
    · exact h x hx
    · rw[←hf]
      exact h _ (List.mem_of_getElem? hm)
 have h1:=key (fun c=>decide ((nL 4 c).length≤4)) rfl
 have h2:=key (fun c=>decide (EJ np nq c)) rfl
 simp only[okB,AD,uK,List.length_set,h1,h2]
theorem Eu.dmg {cuts:Lz} (h:Eu cuts) {m:Nat} {p q l s:Int} {rs:Lz}:Eu (cuts.set m (eCt p q l s rs true)):=fun e he=>by
 rcases List.mem_or_eq_of_mem_set he with he|rfl
 · exact h e he
 · exact⟨_,_,_,_,_,_,rfl⟩
end Go.aU.Cd
end
section
namespace Go.aU.Cd
open Go Go.Proofs
set_option maxRecDepth 100000
set_option maxHeartbeats 1000000
def c8:Rc:=Sq (Rg [Bx 2 0,Mb 4 false]) (Sq (Rg [Lo 16 15 2,p 16 (.call 21 [t 15]),Mv 14 16,Et 17 14 0,Et 18 14 1,Mv 5 17,Mv 6 18]) (Sq (Sq (Rg [Mv 19 6,Nt 20 19,Mv 21 20,Ga 21 (Fa 22 15 2),Ga 21 (Ld 23 22),Ga 21 (Le 24 23),Ga 21 (Bi 25 .eql 24 0),Pt 26 21 25]) (Cn 26 (Sq (Rg [p 27 (.call 13 []),Mv 4 27]) Rt) Sk)) (Sq (Sq (Rg [Mk 7 0]) (Bk 0 (Lp (Sq (Sq (Rg [Mv 28 7,Fa 29 15 2,Ld 30 29,Le 31 30,Bt 32 .lss 28 31]) (Cn 32 Sk (Ex 0))) (Sq (Bk 1 (Sq (Rg [Mk 8 0]) (Bk 2 (Lp (Sq (Sq (Rg [Mv 35 8,Mv 36 7,Bt 37 .lss 35 36]) (Cn 37 Sk (Ex 2))) (Sq (Bk 3 (Sq (Dr [Fa 40 15 2,Ld 41 40,Mv 42 7,Ia 43 6 41 42,Fa 44 0 43,Ld 45 44,Fa 46 15 2,Ld 47 46,Mv 48 8,Ia 49 6 47 48,Fa 50 0 49,Ld 51 50,Bt 52 .eql 45 51,Mv 53 52,Gb 53 (Fa 54 15 2),Gb 53 (Ld 55 54),Gb 53 (Mv 56 7),Gb 53 (Ia 57 6 55 56),Gb 53 (Fa 58 1 57),Gb 53 (Ld 59 58),Gb 53 (Fa 60 15 2),Gb 53 (Ld 61 60),Gb 53 (Mv 62 8),Gb 53 (Ia 63 6 61 62),Gb 53 (Fa 64 1 63),Gb 53 (Ld 65 64),Gb 53 (Bt 66 .eql 59 65),Pf 67 53 66] [[],[0],[],[1,2],[3],[4],[],[6],[],[7,8],[9],[10],[5,11],[12],[13],[14,13],[13],[15,16,13],[17,13],[18,13],[13],[20,13],[13],[21,22,13],[23,13],[24,13],[19,25,13],[13,26]]) (Cn 67 (Sq (Rg [p 68 (.call 13 []),Mv 4 68]) Rt) Sk))) (Rg [Mv 38 8,Bi 39 .add 38 1,Mv 8 39]))))))) (Rg [Mv 33 7,Bi 34 .add 33 1,Mv 7 34])))))) (Sq (Rg [Lo 16 69 2,p 9 (.alloc [.t (.val (.string ⟨#[]⟩)),zn,zn,zn,zn,zn,zn,zi,zi,zi,zi,zn,zn,zn,zn,zn]),So 16 9 69]) (Sq (Rg [p 70 (.aT [zi,zi,zi,zi,zn,zb] 0 []),Fa 71 15 2,Ld 72 71,p 73 (.append 6 64 (t 70) (t 72)),Fa 74 15 9,So 1 74 73]) (Sq (Dr [Fa 75 15 9,Ld 76 75,Mv 77 1,p 78 (.conv .i64 (t 77)),Fa 79 15 9,Ld 80 79,Le 81 80,Bt 82 .rem 78 81,Ia 83 6 76 82,Fa 84 5 83,q (.store 1 (t 84) (kb true))] [[],[0],[],[2],[],[4],[5],[3,6],[1,7,0,1,2,3,4,5,6,7],[8,0,1,2,3,4,5,6,7],[9,0,1,2,3,4,5,6,7]]) (Sq (Rg [Lo 16 86 9,p 87 (.call 21 [t 86]),Mv 85 87,Et 88 85 0,Et 89 85 1,Mv 10 88,Mv 11 89]) (Sq (Sq (Rg [Mv 90 11,Nt 91 90,Mv 92 91,Ga 92 (Mv 93 10),Ga 92 (Le 94 93),Ga 92 (Mv 95 5),Ga 92 (Le 96 95),Ga 92 (Bt 97 .gtr 94 96),Pt 98 92 97,Mv 99 98,Ga 99 (Mv 100 10),Ga 99 (Le 101 100),Ga 99 (Bi 102 .add 101 1),Ga 99 (Mv 103 5),Ga 99 (Le 104 103),Ga 99 (Bt 105 .lss 102 104),Pt 106 99 105]) (Cn 106 (Sq (Rg [Mb 4 false]) Rt) Sk)) (Sq (Sq (Rg [Mk 12 0]) (Bk 4 (Lp (Sq (Sq (Rg [Mv 107 12,Mv 108 10,Le 109 108,Bt 110 .lss 107 109]) (Cn 110 Sk (Ex 4))) (Sq (Bk 5 (Sq (Rg [Mv 113 12,Mv 13 113]) (Sq (Sq (Dr [Mv 114 10,Mv 115 12,Mv 116 12,Bi 117 .add 116 1,p 118 (.slice 5 (t 114) (some (t 115)) (some (t 117))),Mv 119 5,Mv 120 13,Mv 121 13,Bi 122 .add 121 1,p 123 (.slice 5 (t 119) (some (t 120)) (some (t 122))),p 124 (.call 16 [t 118,t 123]),Nt 125 124] [[],[],[],[2],[0,1,3],[],[],[],[7],[5,6,8],[4,9],[10]]) (Cn 125 (Rg [Mv 126 12,Bi 127 .add 126 1,Mv 13 127]) Sk)) (Sq (Dr [Mv 128 13,Mv 129 5,Le 130 129,Bt 131 .geq 128 130,Mv 132 131,Ga 132 (Mv 133 10),Ga 132 (Mv 134 12),Ga 132 (Mv 135 12),Ga 132 (Bi 136 .add 135 1),Ga 132 (p 137 (.slice 5 (t 133) (some (t 134)) (some (t 136)))),Ga 132 (Mv 138 5),Ga 132 (Mv 139 13),Ga 132 (Mv 140 13),Ga 132 (Bi 141 .add 140 1),Ga 132 (p 142 (.slice 5 (t 138) (some (t 139)) (some (t 141)))),Ga 132 (p 143 (.call 16 [t 137,t 142])),Ga 132 (Nt 144 143),Pt 145 132 144] [[],[],[1],[0,2],[3],[4],[4],[4],[7,4],[5,6,8,4],[4],[4],[4],[12,4],[10,11,13,4],[9,14,4,4],[15,4],[4,16]]) (Cn 145 (Sq (Rg [Mb 4 false]) Rt) Sk))))) (Rg [Mv 111 12,Bi 112 .add 111 1,Mv 12 112])))))) (Sq (Rg [p 146 (.call 13 []),Mv 4 146]) Rt))))))))))
theorem ck8:ae Tryz.prog (Tryz.f8.body.getD .skip)=some c8:=by kernel_rfl
theorem bk8:Tryz.f8.body=some (Tryz.f8.body.getD .skip):=rfl
def UniTo (cuts:Lz) (n:Nat):Prop:= ∀ (i j:Nat) (e1 e2:List T),j < i→i < n→cuts[i]? =some e1→cuts[j]? =some e2→¬ (nI 0 e1=nI 0 e2∧nI 1 e1=nI 1 e2)
def UniAt (cuts:Lz) (i n:Nat):Prop:= ∀ (j:Nat) (e1 e2:List T),j < n→cuts[i]? =some e1→cuts[j]? =some e2→¬ (nI 0 e1=nI 0 e2∧nI 1 e1=nI 1 e2)
theorem UniTo.uni {cuts:Lz} {n:Nat} (h:UniTo cuts n) (hn:cuts.length≤n):Uni cuts:=fun i j e1 e2 hij h1 h2=>h i j e1 e2 hij (by have:=(List.getElem?_eq_some_iff.1 h1).1;omega) h1 h2
def RUo (cuts:Lz) (m:Nat) (vs:List V):Prop:= ∃i:Nat,i≤cuts.length∧UniTo cuts i∧m=cuts.length - i∧vs=[iV .i64 (i:Int)]
def RUi (cuts:Lz) (i m:Nat) (vs:List V):Prop:= ∃j:Nat,j≤i∧UniAt cuts i j∧m=i - j∧vs=[iV .i64 (j:Int)]
theorem RUo.next {cuts:Lz} {i j:Nat} (hi:(i:Int) < (cuts.length:Int)) (hl:cuts.length≤maxLen) (h:UniTo cuts i) (hV:UniAt cuts i j) (hj:i≤j):RUo cuts (cuts.length - (i+1)) [iV .i64 (IntKind.i64.wrap ((i:Int)+1))]:=by
 refine⟨i+1,by omega,fun a b e1 e2 hab ha h1 h2=>?_,rfl,by simp only[maxLen]at hl;rw[bO (by omega) (by omega)];rfl⟩
 by_cases hai:a=i
 · subst hai
   exact hV b e1 e2 (by omega) h1 h2
 · exact h a b e1 e2 hab (by omega) h1 h2
theorem RUi.next {cuts:Lz} {i j:Nat} {p1 q1 l1 s1 p2 q2 l2 s2:Int} {r1 r2:Lz} {d1 d2:Bool} (hj:(j:Int) < (i:Int)) (yA:i≤maxLen) (h:UniAt cuts i j) (h1:cuts[((i:Int)).toNat]? =some (eCt p1 q1 l1 s1 r1 d1)) (h2:cuts[((j:Int)).toNat]? =some (eCt p2 q2 l2 s2 r2 d2))
 (hn:¬ (p1=p2∧q1=q2)):RUi cuts i (i - (j+1)) [iV .i64 (IntKind.i64.wrap ((j:Int)+1))]:=by
 refine⟨j+1,by omega,fun b e1 e2 hb g1 g2=>?_,rfl,by simp only[maxLen]at yA;rw[bO (by omega) (by omega)];rfl⟩
 by_cases hbj:b=j
 · subst hbj
   rw[Int.toNat_natCast]at h1 h2
   rw[h1,Option.some.injEq]at g1
   rw[h2,Option.some.injEq]at g2
   subst g1 g2
   exact hn
 · exact h b e1 e2 (by omega) g1 g2
theorem take_one {xs:Lz} {i:Nat} {y:List T} (h:xs[i]? =some y):(xs.drop i).take 1=[y]:=by
 obtain⟨hi,rfl⟩:=List.getElem?_eq_some_iff.1 h
 rw[List.drop_eq_getElem_cons hi]
 rfl
theorem dmg_ok {C:Prop} {gz hz:Lz} (h:Mis C gz hz) {i:Nat} (hi:i < hz.length):(hz.drop i).take 1=(gz.drop i).take 1∨(i+1 < gz.length∧(hz.drop i).take 1=(gz.drop (i+1)).take 1):=by
 have h1:hz[i]? =some hz[i]:=List.getElem?_eq_getElem hi
 rcases h.at.2.2 i _ h1 with h2|h2
 · left
   rw[take_one h1,take_one h2]
 · right
   exact⟨(List.getElem?_eq_some_iff.1 h2).1,by rw[take_one h1,take_one h2]⟩
theorem cut_to {hz gz:Lz} {i k:Nat} (h:(hz.drop i).take 1=(gz.drop k).take 1) {a b c d:Nat} (ha:a=i) (hb:b=1) (hc:c=k) (hd:d=1):(hz.drop a).take b=(gz.drop c).take d:=by
 subst ha hb hc hd
 exact h
theorem not_both {b:Bool} (h1:b=true) (h2:(!b)=true):False:=by
 subst h1
 simp at h2
theorem dmr_ok {k:Int} {m:Nat} (hm:0 < m) (h0:0≤k) (h1:k < 256):0≤(IntKind.i64.wrap k).tmod (m:Int)∧(IntKind.i64.wrap k).tmod (m:Int) < (m:Int):=by
 rw[bO (by omega) (by omega)]
 exact⟨Int.tmod_nonneg _ h0,Int.tmod_lt_of_pos _ (by omega)⟩
theorem dmr_ok2 {k:Int} {c0:List T} {ct:Lz} (h0:0≤k) (h1:k < 256):((IntKind.i64.wrap k).tmod (((([]:List (List C)).length+((List.map (fun e=>List.map C.t e) ct).length+1):Nat)):Int)).toNat < (c0::ct).length:=by
 have:=dmr_ok (k:=k) (m:=([]:List (List C)).length+((List.map (fun e=>List.map C.t e) ct).length+1)) (by omega) h0 h1
 have e:([]:List (List C)).length+((List.map (fun e=>List.map C.t e) ct).length+1)=(c0::ct).length:=by simp
 rw[e]at this⊢
 omega
theorem garmentlaw50_AssemblyDamage (sn:ByteArray) (bM ms ps us ss os:Lz) (ln wd rx ry:Int) (sizes places ag bs cuts:Lz) (hc:Eu cuts) (ee:cuts.length≤maxLen) (kk:Int) (hk0:0≤kk) (gj:kk < 256) (gz:Lz) (ok:Bool) (h1:Te 21 [RR sn bM ms ps us ss os ln wd rx ry sizes places ag bs cuts] [oL 5 gz,oB ok]) (hcs:ok=true→cuts.length≤60) (Ou:ok=true→gz.length≤1000) (hg:ok=true→ ∀e,e∈gz→JJ e) (hD:ok=true→Uni cuts→ ∀ (m:Nat) (p q l s:Int) (rs:Lz) (d:Bool),cuts[m]? =some (eCt p q l s rs d)→ ∃hz,(Te 21 [RR sn bM ms ps us ss os ln wd rx ry sizes places ag bs (cuts.set m (eCt p q l s rs true))] [oL 5 hz,oB true])∧Mis True gz hz∧ ∀e,e∈hz→JJ e) (h3:Te 13 [] [oB true]):Tg 8 [RR sn bM ms ps us ss os ln wd rx ry sizes places ag bs cuts,oU8 kk] GTr:=by
 refine ah (n:=147) (rs:=[.tmp 4]) Tryz.func8 bk8 ck8 rfl rfl (by simp) ?_
 repeat' (conv=>whnf
          first
  |(refine az (fun h=>?_) (fun h=>?_))
  |(refine aC4 (fun h=>?_) (fun h=>?_))
  |(refine cv (fun h=>?_) (fun h=>?_))
  |(refine aB (fun h=>?_) (fun h=>?_))
  |(refine Nc mD (by omega) ?_)
  |(refine Nc lj (by omega) ?_)
  |(have h77:=mD;refine ap (xs:=cuts) hc (by omega) (by omega) ?_;rintro _ ⟨p2,q2,l2,s2,r2,d2,rfl⟩ lj)
  |(refine ap (xs:=cuts) hc (by omega) (by omega) ?_;rintro _ ⟨p1,q1,l1,s1,r1,d1,rfl⟩ mD)
  |(refine And.intro (dmr_ok (by omega) hk0 gj) ?_)
  |(refine fz (by first|omega|(have q1:=hM.at.1;have q2:=Ou (nh (b:=ok) (by assumption));simp (disch:=omega) only[aa]at h⊢;omega)|(have q1:=hM.at.1;have q2:=Ou (nh (b:=ok) (by assumption));simp (disch:=omega) only[aa];omega)) (by first|omega|(have q1:=hM.at.1;have q2:=Ou (nh (b:=ok) (by assumption));simp (disch:=omega) only[aa]at h⊢;omega)|(have q1:=hM.at.1;have q2:=Ou (nh (b:=ok) (by assumption));simp (disch:=omega) only[aa];omega)) ?_)
  |(refine And.intro (by have q1:=hM.at.1;have q2:=Ou (nh (b:=ok) (by assumption));simp (disch:=omega) only[aa];omega) ?_)
  |(refine And.intro (by have q2:=hcs (nh (b:=ok) (by assumption));simp only[List.length_cons]at q2;refine⟨?_,?_,?_⟩<;>simp[bR,maxLen]<;>omega) ?_)
  |(refine Bc (by omega) (by omega) ?_;intro bb)
  |(refine fz (by omega) (by omega) ?_)
  |(refine And.intro (by kernel_rfl) ?_)
  |(refine And.intro (by omega) ?_)
  |(refine ai rfl (h1) ?_;rintro _ rfl)
  |(refine au rfl (h1) ?_;rintro _ rfl)
  |(refine ai rfl (h3) ?_;rintro _ rfl)
  |(refine au rfl (h3) ?_;rintro _ rfl)
  |(refine cg (xs:=c0::ct) rfl hc (by have h5:=dmr_ok2 (c0:=c0) (ct:=ct) hk0 gj;simpa using h5) ?_;rintro _ ⟨p7,q7,l7,s7,r7,d7,rfl⟩ hs7)
  |(obtain⟨hz,D6,hM,hzg⟩:=hD (nh (b:=ok) (by assumption)) (hU.uni (by omega)) _ _ _ _ _ _ _ hs7;refine alI _ rfl (by rfl) (asJ (aL.set (xs:=c0::ct) rfl _ [tI p7,tI q7,tI l7,tI s7, .ao 1 r7,tB true]) (by simp)) D6 ?_;rintro _ rfl)
  |(have h78:=vT;refine au rfl (garmentref50_Same _ _ (cI hzg _ _) (cI (hg (nh (b:=ok) (by assumption))) _ _) (gU (by have:=hM.at.1;have:=Ou (nh (b:=ok) (by assumption));simp only[maxLen];omega) _ _)) ?_;rintro _ ⟨b2,rfl,pP⟩)
  |(refine au rfl (garmentref50_Same _ _ (cI hzg _ _) (cI (hg (nh (b:=ok) (by assumption))) _ _) (gU (by have:=hM.at.1;have:=Ou (nh (b:=ok) (by assumption));simp only[maxLen];omega) _ _)) ?_;rintro _ ⟨b1,rfl,vT⟩)
  |exact g1 rfl rfl rfl
  |(have h79:(cuts.length:Int)≤(i:Int):=(by omega);rcases cuts with _|⟨c0,ct⟩; · exact absurd (rfl:((([]:Lz).length:Nat):Int)=0) (by assumption))
  |(exfalso;have h7:=hM.at.1;have h8:=hM.at.2.1;have h9:=Ou (nh (b:=ok) (by assumption));first|omega|(simp (disch:=omega) only[aa]at h;omega))
  |(exfalso;exact not_both (pP.2 (vT.1 (nh (b:=b1) (by assumption)))) (by assumption))
  |(exfalso;have h8:=hM.at.2.1;have h9:=Ou (nh (b:=ok) (by assumption));have h6:=hM.at.1;rcases dmg_ok hM (i:=i2) (by omega)with h7|⟨h7,h8⟩<;>first|exact not_both (vT.2 (cut_to h7 (by first|omega|(simp (disch:=omega) only[aa];omega)) (by first|omega|(simp (disch:=omega) only[aa];omega)) (by first|omega|(simp (disch:=omega) only[aa];omega)) (by first|omega|(simp (disch:=omega) only[aa];omega)))) (by assumption)|exact not_both (pP.2 (cut_to h8 (by first|omega|(simp (disch:=omega) only[aa];omega)) (by first|omega|(simp (disch:=omega) only[aa];omega)) (by first|omega|(simp (disch:=omega) only[aa];omega)) (by first|omega|(simp (disch:=omega) only[aa];omega)))) (by assumption)|(simp (disch:=omega) only[aa]at h;omega))
  |(apply aK [5,10,12] [] [12] (RI hz.length) (hz.length) [iV .i64 0];(conv=>whnf);exact⟨rfl,rfl,rfl,rfl⟩;exact rfl;exact rfl;exact RI.zero;rintro _ _ ⟨i2,EF,rfl,rfl⟩)
  |(refine aq [5,10,12] [] ?_;(conv=>whnf);exact⟨rfl,_,[_],RI.succ (N:=hz.length) (i:=i2) (by omega) (by have:=hM.at.1;have:=Ou (nh (b:=ok) (by assumption));simp only[maxLen];omega),rfl,rfl,rfl,by omega⟩)
  |(apply aK [1,2,5,7,8] [] [8] (RUi cuts i) (i) [iV .i64 0];(conv=>whnf);exact⟨rfl,rfl,rfl,rfl⟩;exact rfl;exact rfl;exact⟨0,by omega,fun b _ _ hb=>by omega,rfl,rfl⟩;rintro _ _ ⟨j,hj,hV,rfl,rfl⟩)
  |(refine aq [1,2,5,7,8] [] ?_;(conv=>whnf);exact⟨rfl,_,[_],RUi.next (by omega) (by omega) hV mD lj (by omega),rfl,rfl,rfl,by omega⟩)
  |(apply aK [1,2,5,7] [] [7] (RUo cuts) (cuts.length) [iV .i64 0];(conv=>whnf);exact⟨rfl,rfl,rfl,rfl⟩;exact rfl;exact rfl;exact⟨0,by omega,fun a b _ _ _ ha=>by omega,rfl,rfl⟩;rintro _ _ ⟨i,hi,hU,rfl,rfl⟩)
  |(refine aq [1,2,5,7] [] ?_;(conv=>whnf);exact⟨rfl,_,[_],RUo.next (by omega) ee hU hV (by omega),rfl,rfl,rfl,by omega⟩)
  |(exfalso;omega))
 all_goals (conv=>whnf)
theorem law_damage (hw:aD1) {x:List T} (h:iO YB x) {kk:Int} (hk0:0≤kk) (gj:kk < 256):Fn Tryz.prog 8 [.agg (x.map .t),oU8 kk] [] (bV true) []:=by
 obtain⟨sn,bM,ms,ps,us,ss,os,ln,wd,rx,ry,sizes,places,ag,bs,cuts,rfl,hok,hc,ee⟩:=ajF h
 obtain⟨b0,e0,h0,ef⟩:=ajE sn bM ms ps us ss os ln wd rx ry sizes places ag bs hok
 obtain⟨⟨ts,f,i,gz,rfl,hgz⟩,_⟩:=ef cuts hc ee
 have hB:okB b0 e0 ag.length places.length cuts=true→xA sizes ag bs bs.length:=fun h=>(h0 (aAi h).1).2.2 (Da (aAi h).2.2).1
 have hq:okB b0 e0 ag.length places.length cuts=true→places.length≤maxLen:=fun h=>by have:=(h0 (aAi h).1).2.1.q;simp only[maxLen];omega
 obtain⟨ts,f,_,rfl⟩:=garmentlaw50_AssemblyDamage sn bM ms ps us ss os ln wd rx ry sizes places ag bs cuts hc ee kk hk0 gj gz _ ⟨_,f,i,rfl⟩
  (fun h=>by have:=(aAi h).2.1;simp only[AD,Bool.and_eq_true,decide_eq_true_eq]at this;exact this.1)
  (fun h=>by rw[hgz h];have h1:=DA (places:=places) (cuts:=cuts) (h0 (aAi h).1).2.1.p (O7 hok.hb (hB h)) bs.length;have h2:=(h0 (aAi h).1).2.1.b;omega)
  (fun h=>by rw[hgz h];exact H7 (hq h) _)
  (fun h hU m p q l s rs d hm=>by
    obtain⟨⟨ts,f2,i2,hz,rfl,hhz⟩,_⟩:=ef (cuts.set m (eCt p q l s rs true)) hc.dmg (by simpa using ee)
    rw[okB_dmg hm,h]at hhz f2 i2
    refine⟨hz,⟨_,f2,i2,rfl⟩,?_,?_⟩
    · rw[hgz h,hhz rfl]
      exact sew_dmg hU hm (hB h)
    · rw[hhz rfl]
      exact H7 (hq h) _) hw
 exact f
end Go.aU.Cd
end
section
namespace Go.Proofs.YtlhffnnmmbannaaGreat
open Go.ChangeShapes Go.WideShapes Go.ChangeAt Go.RowKit
set_option maxRecDepth 100000
theorem cf8_inPlace:(Rows.assemblyDamageRow.inPlace==Tryz.prog.inPlace 8)=true:=by kernel_rfl
theorem cf8_unf:(Rows.assemblyDamageRow.unfollowed==Tryz.prog.unfollowed 8)=true:=by kernel_rfl
theorem cf8_rec:(Rows.assemblyDamageRow.recurses==Tryz.prog.recurses 8)=true:=by kernel_rfl
theorem cf8_named:(Rows.assemblyDamageRow.named==Tryz.prog.varsNamed 8)=true:=by kernel_rfl
theorem cf8_a:(Rows.assemblyDamageRow.wf (OpenSpec.ofChange Rows.assemblyDamageSpec)&&laidOutB Tryz.prog&&mapsRowed Tryz.prog&&Tryz.f8.params.all (Tryz.prog.readableRec ·)&&namedTie Tryz.prog Rows.assemblyDamageRow.named Rows.assemblyDamageSpec.vars&& (Rows.assemblyDamageRow.stops== [])&& (Tryz.prog.stops== [])&& (Rows.assemblyDamageRow.knobs== [])&& (Tryz.prog.stopKnobs== []))=true:=by kernel_rfl
theorem cf8_all:joinedFacts Tryz.prog 8 Tryz.f8 Rows.assemblyDamageSpec Rows.assemblyDamageRow=true:=by
 unfold joinedFacts
 rw[cf8_a,cf8_inPlace,cf8_unf,cf8_rec,cf8_named]
 kernel_rfl
end Go.Proofs.YtlhffnnmmbannaaGreat
end
section
namespace Go.Proofs.YtlhffnnmmbannaaGreat
open Go.aU Go.ChangeShapes Go.WideShapes Go.ChangeAt Go.RowKit
theorem Tryz.own:ownKnob Tryz.prog.godebug=none:=by kernel_rfl
theorem Tryz.laidOut:laidOutB Tryz.prog=true:=by kernel_rfl
def case0:Value:= .agg #[.string ⟨#[]⟩, .slice none 0 0, .slice none 0 0, .slice none 0 0, .slice none 0 0, .slice none 0 0, .slice none 0 0, .int .i64 0, .int .i64 0, .int .i64 0, .int .i64 0, .slice none 0 0, .slice none 0 0, .slice none 0 0, .slice none 0 0, .slice none 0 0]
set_option maxRecDepth 100000 in
theorem fdm_lifted (hFn: ∀us,Typed Tryz.prog 12 Tryz.f8.params.toList us→aU.Fn Tryz.prog 8 us [] (.w (.one (.t (.val (.bool true))))) []) (os:Os) (started:os.Started) (H:Type) (enc:TypeId×Value→H):
 ReturnsInHanded {} Tryz.checked os 8 .any (Rows.assemblyDamageSpec.pre6 enc Tryz.prog Tryz.f8 Rows.assemblyDamageRow.domain false) (Rows.assemblyDamageSpec.post enc Tryz.prog Tryz.f8 false true false false):=by
 refine returnsInHanded_of_change (C:=Tryz.checked) Tryz.own started (by kernel_rfl) Tryz.func8
  (ChangeSpec.witness6 (enc:=enc) (C:=Tryz.checked) false ⟨#[], #[case0, .int .u8 0],[]⟩ 8 (by kernel_rfl) (by kernel_rfl) (by kernel_rfl) (by kernel_rfl)) ?_
 intro W base args ds gs before hval hW _ _
 refine P2 (P:=Tryz.prog) (d:=11) (s:=Rows.assemblyDamageSpec) Tryz.laidOut rfl (by kernel_rfl) Tryz.underlying4 ?_ ?_ ?_ hFn hval (fun g vs hg=>by simp[Cr,No]at hg) hW
 · intro ds hds
   rw[Tryz.params8]at hds
   match ds,hds with
   | [a,b],_=>exact⟨rfl,rfl,rfl⟩
 · have:(Tryz.f8.params.toList.all fun t=>gZ Tryz.prog 12 t)=true:=by kernel_rfl
   exact List.all_eq_true.1 this
 · have:(Tryz.f8.params.toList.all fun t=>Tryz.prog.readableRec t&&decide (t < Tryz.prog.types.size))=true:=by kernel_rfl
   intro t ht
   have:=List.all_eq_true.1 this t ht
   simpa using this
theorem fdm_named:Tryz.pinned.checked.prog.funcNamed Rows.assemblyDamageRow.func=some 8:=by kernel_rfl
theorem fdm_inst:Tryz.f8.isInstance Tryz.pinned.checked.prog Rows.assemblyDamageRow.origin Rows.assemblyDamageRow.targs:=of_decide_eq_true (by kernel_rfl)
theorem fdm_wrap:Tryz.f8.isWrapper Tryz.pinned.checked.prog Rows.assemblyDamageRow.wrapper Rows.assemblyDamageRow.mainSum:=by
 unfold Func.isWrapper;first|(rw[if_pos (by decide+kernel)];kernel_rfl)|(rw[if_neg (by decide+kernel)];exact⟨rfl,rfl⟩)
theorem fdm_over (hFn: ∀us,Typed Tryz.prog 12 Tryz.f8.params.toList us→aU.Fn Tryz.prog 8 us [] (.w (.one (.t (.val (.bool true))))) []):Rows.AssemblyDamageSaid:=
 OpenClaim.holds_of_wide 8 Tryz.f8 rfl rfl rfl rfl rfl rfl rfl ⟨rfl,rfl,rfl,rfl,rfl⟩ rfl rfl rfl rfl rfl fdm_named Tryz.func8 cf8_all fdm_inst fdm_wrap
  (fun os started H enc _=>fdm_lifted hFn os started H enc)
end Go.Proofs.YtlhffnnmmbannaaGreat
end
