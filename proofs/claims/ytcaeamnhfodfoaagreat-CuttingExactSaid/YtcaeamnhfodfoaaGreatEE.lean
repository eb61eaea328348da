import Derived.Test.YtcaeamnhfodfoaaGreatED
import Derived.Shelf.SlSortCmp.NoneTotal
import Derived.Shelf.SlicesG.Cmp
import Derived.Test.YtcaeamnhfodfoaaGreatProg
import Derived.Maps.RangeRun
import GoSem.ClaimChange
import Derived.Carry
import Derived.ChangeSame
import Derived.ChangeShapes
import Derived.OpenShut
set_option linter.all false
section
namespace Go.aT.Cd
open Go Go.Proofs
set_option maxRecDepth 100000
set_option maxHeartbeats 4000000
theorem Ku {a b c d:Int} (h:(a==c&& (b==d&&true))=true):([tI a,tI b]:List T)=[tI c,tI d]:=by
 simp only[Bool.and_true,Bool.and_eq_true,beq_iff_eq]at h
 rw[h.1,h.2]
theorem Rh (xs:Lz) (a b:Int) (hx:bG xs) (hl:xs.length≤1000000): ∃ts,Fn Tryz.prog 139 [oL 2 xs,eo (a,b)] [] (aL ts) []∧(aL ts).bL=true∧kZ (fun n=>n < 0↔ [tI a,tI b]∉xs) ts:=by
 refine ah Tryz.func139 ?_
 repeat' (conv=>whnf
          first
  |(refine au (fun h=>?_) (fun h=>?_))
  |(refine aF (fun h=>?_) (fun h=>?_))
  |(refine aq hx (by first|omega|exact bF (by first|omega|(simp (disch:=omega) only[aa];omega))|(simp (disch:=omega) only[aa];omega)) (by first|omega|exact bq (by omega)|(simp (disch:=omega) only[aa];omega)) ?_;rintro _ ⟨c,d,rfl⟩ hs)
  |(refine And.intro (by kernel_rfl) ?_)
  |exact gi rfl rfl (iff_of_true (by decide) (ha.all (by omega)))
  |exact gi rfl rfl (iff_of_false (by omega) (fun g=>g (by rw[Ku (by assumption)];exact List.mem_of_getElem? hs)))
  |(apply aM [0,3,7,8] [] [8] (T3 xs [tI a,tI b]) (xs.length) [iV .i64 0];(conv=>whnf);exact⟨rfl,rfl,rfl,rfl⟩;exact rfl;exact rfl;exact⟨0,by omega,fun j hj=>by omega,rfl,rfl⟩;rintro _ _ ⟨i,hi,ha,rfl,rfl⟩)
  |(refine ak [0,3,7,8] [] ?_;(conv=>whnf);exact⟨rfl,_,[_],T3.next (by omega) hl ha hs (Cy h),rfl,rfl,rfl,by omega⟩))
 all_goals (conv=>whnf)
theorem Ip (xs:Lz) (a b:Int) (hx:bG xs) (hl:xs.length≤1000000): ∃ts,Fn Tryz.prog 106 [oL 2 xs,eo (a,b)] [] (aL ts) []∧(aL ts).bL=true∧ze ([tI a,tI b]∈xs) ts:=by
 refine ah Tryz.func106 ?_
 repeat' (conv=>whnf
          first
  |(refine ai rfl (Rh xs _ _ hx hl) ?_;rintro _ ⟨n,rfl,hn⟩)
  |(refine tv rfl rfl ?_;rw[decide_eq_true_eq];by_cases g: [tI a,tI b]∈xs<;>simp only[g,not_true_eq_false,not_false_eq_true,iff_true,iff_false]at hn⊢ <;>omega))
 all_goals (conv=>whnf)
abbrev dw (xs:Lz):Prop:= ∀e,e∈xs→IK e
theorem dw.wo {xs:Lz} (h:dw xs):bG xs:=fun e he=>by
 obtain⟨a,b,rfl,_⟩:=h e he
 exact⟨a,b,rfl⟩
theorem dS (xs:Lz):(pts xs).length=xs.length:=by simp[pts]
theorem zU {xs:Lz} {i k:Nat} {a b:Int} (hs:xs[k]? =some [tI a,tI b]) (hk:k=i % xs.length):bn.gt (pts xs) i=(a,b):=by
 subst hk
 simp only[bn.gt,dS,List.length_map,List.getD,pts,List.getElem?_map,hs,Option.map_some,Option.getD_some,pt]
theorem nf {b:Bool} (h:b=false) (g:b=true):False:=by rw[h]at g;simp at g
theorem ix0 {i n:Nat} (h:i < n):((i:Int)).toNat=i % n:=by rw[Nat.mod_eq_of_lt h];omega
theorem WY {i n:Nat} {k:Int} (hi:i≤1000000) (h0:0≤k) (hk:k≤2) (hn:0 < n):((IntKind.i64.wrap ((i:Int)+k)).tmod (n:Int)).toNat=(i+k.toNat) % n:=by
 rw[aa (by omega) (by omega),Int.tmod_eq_emod_of_nonneg (by omega)]
 have:(i:Int)+k=((i+k.toNat:Nat):Int):=by omega
 rw[this];omega
def T6 (xs:Lz) (i:Nat):Prop:=¬bn.zY (bn.gt (pts xs) i) (bn.gt (pts xs) (i+1)) (bn.gt (pts xs) (i+2))
def LS (xs:Lz) (i j:Nat):Prop:= ∀k,i+2≤k→k < j→(k+1) % xs.length≠i→¬bn.nZ (bn.gt (pts xs) i) (bn.gt (pts xs) (i+1)) (bn.gt (pts xs) k) (bn.gt (pts xs) (k+1))
def Z4 (xs:Lz) (m:Nat) (vs:List V):Prop:= ∃i:Nat,i≤xs.length∧(∀i',i' < i→T6 xs i'∧LS xs i' xs.length)∧m=xs.length - i∧vs=[iV .i64 (i:Int)]
def NM (xs:Lz) (i:Nat) (m:Nat) (vs:List V):Prop:= ∃j:Nat,i+2≤j∧j≤xs.length+2∧LS xs i j∧m=xs.length+2 - j∧vs=[iV .i64 j]
section
variable {xs:Lz} {i j:Nat} {a1 b1 a2 b2 a3 b3 a4 b4:Int} {b:Bool}
theorem NC (hl:xs.length≤40) (hi:(i:Int) < (xs.length:Int)) (h:xs[((i:Int)).toNat]? =some [tI a1,tI b1]):bn.gt (pts xs) i=(a1,b1):=zU h (ix0 (by omega))
theorem SR (hl:xs.length≤40) (hi:(i:Int) < (xs.length:Int)) (h:xs[((IntKind.i64.wrap ((i:Int)+1)).tmod (xs.length:Int)).toNat]? =some [tI a1,tI b1]):bn.gt (pts xs) (i+1)=(a1,b1):=zU h (WY (k:=1) (by omega) (by omega) (by omega) (by omega))
theorem at3 (hl:xs.length≤40) (hi:(i:Int) < (xs.length:Int)) (h:xs[((IntKind.i64.wrap ((i:Int)+2)).tmod (xs.length:Int)).toNat]? =some [tI a1,tI b1]):bn.gt (pts xs) (i+2)=(a1,b1):=zU h (WY (k:=2) (by omega) (by omega) (by omega) (by omega))
theorem FV (hl:xs.length≤40) (hi:(i:Int) < (xs.length:Int)) (hj:(j:Int) < (xs.length:Int)) (h1:xs[((i:Int)).toNat]? =some [tI a1,tI b1]) (h2:xs[((IntKind.i64.wrap ((i:Int)+1)).tmod (xs.length:Int)).toNat]? =some [tI a2,tI b2])
 (h3:xs[((j:Int)).toNat]? =some [tI a3,tI b3]) (h4:xs[((IntKind.i64.wrap ((j:Int)+1)).tmod (xs.length:Int)).toNat]? =some [tI a4,tI b4]) (hb:b=true↔bn.nZ (a1,b1) (a2,b2) (a3,b3) (a4,b4)):
 b=true↔bn.nZ (bn.gt (pts xs) i) (bn.gt (pts xs) (i+1)) (bn.gt (pts xs) j) (bn.gt (pts xs) (j+1)):=by
 rw[NC hl hi h1,SR hl hi h2,NC hl hj h3,SR hl hj h4];exact hb
theorem Gb (hl:xs.length≤40) (hi:(i:Int) < (xs.length:Int)) (h1:xs[((i:Int)).toNat]? =some [tI a1,tI b1]) (h2:xs[((IntKind.i64.wrap ((i:Int)+1)).tmod (xs.length:Int)).toNat]? =some [tI a2,tI b2])
 (h3:xs[((IntKind.i64.wrap ((i:Int)+2)).tmod (xs.length:Int)).toNat]? =some [tI a3,tI b3]) (hb:b=true↔bn.zY (a1,b1) (a2,b2) (a3,b3)):b=true↔¬T6 xs i:=by
 rw[T6,NC hl hi h1,SR hl hi h2,at3 hl hi h3,Classical.not_not];exact hb
theorem WA (hl:xs.length≤40) (h0:j≤xs.length+2) (hj:(j:Int) < (xs.length:Int)) (h:(IntKind.i64.wrap ((j:Int)+1)).tmod (xs.length:Int)≠ (i:Int)):(j+1) % xs.length≠i:=fun e=>h (by
 have k:=WY (i:=j) (n:=xs.length) (k:=1) (by omega) (by omega) (by omega) (by omega)
 have k0:0≤(IntKind.i64.wrap ((j:Int)+1)).tmod (xs.length:Int):=bF (by(simp (disch:=omega) only[aa];omega))
 have k:((IntKind.i64.wrap ((j:Int)+1)).tmod (xs.length:Int)).toNat=(j+1) % xs.length:=k
 omega)
theorem NM.next (hj:i+2≤j) (hj2:(j:Int) < (xs.length:Int)) (hl:xs.length≤40) (hm:LS xs i j) (hb:b=true↔bn.nZ (bn.gt (pts xs) i) (bn.gt (pts xs) (i+1)) (bn.gt (pts xs) j) (bn.gt (pts xs) (j+1))) (h:b=false):
 NM xs i (xs.length+2 - (j+1)) [iV .i64 (IntKind.i64.wrap ((j:Int)+1))]:=by
 refine⟨j+1,by omega,by omega,fun k g1 g2 g3=>?_,rfl,by rw[aa (by omega) (by omega)];rfl⟩
 by_cases e:k=j
 · subst e;exact fun g=>nf h (hb.2 g)
 · exact hm k g1 (by omega) g3
theorem adF (hm:LS xs i j) (h:¬ (j:Int) < (xs.length:Int)):LS xs i xs.length:=fun k g1 g2 g3=>hm k g1 (by omega) g3
theorem adE (hl:xs.length≤40) (hj:i+2≤j) (hm:LS xs i j) (hj2:(j:Int) < (xs.length:Int)) (h:(IntKind.i64.wrap ((j:Int)+1)).tmod (xs.length:Int)=(i:Int)):LS xs i xs.length:=fun k g1 g2 g3=>by
 have e:=WY (i:=j) (n:=xs.length) (k:=1) (by omega) (by omega) (by omega) (by omega)
 rw[h]at e
 have e:i=(j+1) % xs.length:=by simpa using e
 have:j+1=xs.length:=by
  rcases Nat.lt_or_ge (j+1) xs.length with f|f
  · rw[Nat.mod_eq_of_lt f]at e;omega
  · omega
 by_cases f:k=j
 · subst f;exact absurd e.symm g3
 · exact hm k g1 (by omega) g3
theorem Z4.next (hl:xs.length≤40) (hi:(i:Int) < (xs.length:Int)) (hok: ∀i',i' < i→T6 xs i'∧LS xs i' xs.length) (hb:b=true↔¬T6 xs i) (h:b=false) (hm:LS xs i xs.length):Z4 xs (xs.length - (i+1)) [iV .i64 (IntKind.i64.wrap ((i:Int)+1))]:=by
 refine⟨i+1,by omega,fun i' g=>?_,rfl,by rw[aa (by omega) (by omega)];rfl⟩
 by_cases e:i'=i
 · subst e;exact⟨Classical.not_not.1 (fun g=>nf h (hb.2 g)),hm⟩
 · exact hok i' (by omega)
theorem acS {e f:List T} (he:IK e) (hf:IK f) (h:pt e=pt f):e=f:=by
 obtain⟨a,b,rfl,_⟩:=he
 obtain⟨c,d,rfl,_⟩:=hf
 simp only[pt,Prod.mk.injEq]at h
 rw[h.1,h.2]
theorem OD (hx:dw xs):(pts xs).Nodup↔xs.Nodup:=by
 rw[pts]
 constructor
 · intro h
   rw[List.nodup_iff_pairwise_ne,List.pairwise_map]at h
   rw[List.nodup_iff_pairwise_ne]
   exact h.imp (fun k e=>k (by rw[e]))
 · intro h
   rw[List.nodup_iff_pairwise_ne,List.pairwise_map]
   rw[List.nodup_iff_pairwise_ne]at h
   exact h.imp_of_mem (fun ha hb hab e=>hab (acS (hx _ ha) (hx _ hb) e))
theorem Sy (h:GQ xs xs.length):xs.Nodup:=by
 rw[List.nodup_iff_pairwise_ne,List.pairwise_iff_getElem]
 intro i j hi hj hij e
 exact h j xs[j] hj (by simp[hj]) (by rw[←e];exact List.mem_take_iff_getElem.2 ⟨i,by omega,rfl⟩)
theorem Sv (hx:dw xs) {e:List T} (hs:xs[((i:Int)).toNat]? =some e) (h:e∈ (xs.drop 0).take ((i:Int).toNat - 0)):¬bn.o5 (pts xs):=fun g=>by
 have nd:=(OD hx).1 g.nd
 have h:e∈xs.take i:=by simpa using h
 obtain⟨j,hj,rfl⟩:=List.mem_take_iff_getElem.1 h
 have hs:xs[i]? =some xs[j]:=by simpa using hs
 obtain⟨hi,e⟩:=List.getElem?_eq_some_iff.1 hs
 have:=(List.getElem_inj nd).1 e
 omega
theorem G5 (hx:dw xs) (hl:xs.length≤40) (ha:GQ xs xs.length) (hok: ∀i',i' < i→T6 xs i'∧LS xs i' xs.length) (hi:¬ (i:Int) < (xs.length:Int)):bn.o5 (pts xs):=by
 refine⟨(OD hx).2 (Sy ha),fun k hk=>(hok k ?_).1,fun k j g1 g2 g3=>?_⟩
 · rw[dS]at hk;omega
 · rw[dS]at g2 g3
   exact(hok k (by omega)).2 j g1 g2 g3
end
theorem Mj (xs:Lz) (hx:dw xs) (h3:3≤xs.length) (hl:xs.length≤40): ∃ts,Fn Tryz.prog 81 [oL 2 xs] [] (aL ts) []∧(aL ts).bL=true∧ze (bn.o5 (pts xs)) ts:=by
 refine ah Tryz.func81 ?_
 repeat' (conv=>whnf
          first
  |(refine au (fun h=>?_) (fun h=>?_))
  |(refine ca (fun h=>?_) (fun h=>?_))
  |(refine aF (fun h=>?_) (fun h=>?_))
  |(refine aq (n:=(i0:Int)) hx (by omega) (by omega) ?_;rintro _ ⟨a0,b0,rfl,p0⟩ hs0)
  |(refine aq (n:=(i:Int)) hx (by omega) (by omega) ?_;rintro _ ⟨a1,b1,rfl,p1⟩ hs1)
  |(refine aq (n:=(IntKind.i64.wrap ((i:Int)+1)).tmod (xs.length:Int)) hx (bF (by(simp (disch:=omega) only[aa];omega))) (bq (by omega)) ?_;rintro _ ⟨a2,b2,rfl,p2⟩ bW)
  |(refine aq (n:=(IntKind.i64.wrap ((i:Int)+2)).tmod (xs.length:Int)) hx (bF (by(simp (disch:=omega) only[aa];omega))) (bq (by omega)) ?_;rintro _ ⟨a3,b3,rfl,p3⟩ CU)
  |(refine aq (n:=(j:Int)) hx (by omega) (by omega) ?_;rintro _ ⟨a4,b4,rfl,p4⟩ hs4)
  |(refine aq (n:=(IntKind.i64.wrap ((j:Int)+1)).tmod (xs.length:Int)) hx (bF (by(simp (disch:=omega) only[aa];omega))) (bq (by omega)) ?_;rintro _ ⟨a5,b5,rfl,p5⟩ Zq)
  |(refine gK (by omega) (by omega) ?_)
  |(refine And.intro (by kernel_rfl) ?_)
  |(refine And.intro (by omega) ?_)
  |(refine aC rfl (Ip _ _ _ (cE hx.wo _ _) (by simp;omega)) ?_;rintro _ ⟨cb,rfl,hc⟩)
  |(refine aC rfl (M7 (_,_) (_,_) (_,_) p1 p2 p3) ?_;rintro _ ⟨fb,rfl,hb⟩)
  |(refine aC rfl (WN (_,_) (_,_) (_,_) (_,_) p1 p2 p4 p5) ?_;rintro _ ⟨mb,rfl,hd⟩)
  |exact tv rfl rfl (iff_of_true rfl (G5 hx hl (Gk ha (by omega)) hok (by assumption)))
  |exact tv rfl rfl (iff_of_false (by decide) (Sv hx hs0 (hc.1 (by assumption))))
  |exact tv rfl rfl (iff_of_false (by decide) (fun g=>(Gb hl (by assumption) hs1 bW CU hb).1 (by assumption) (g.fo i (by rw[dS];omega))))
  |exact tv rfl rfl (iff_of_false (by decide) (fun g=>g.me i j hj (by rw[dS];omega) (by rw[dS];exact WA hl hj2 (by assumption) (by assumption)) ((FV hl (by assumption) (by assumption) hs1 bW hs4 Zq hd).1 (by assumption))))
  |(apply aM [0,3,6,7,8,9,25,26,27] [] [9] (NM xs i) (xs.length - i) [iV .i64 (IntKind.i64.wrap ((i:Int)+2))];(conv=>whnf);exact⟨rfl,rfl,rfl,rfl⟩;exact rfl;exact rfl;exact⟨i+2,by omega,by omega,fun k g1 g2=>by omega,by omega,by rw[aa (by omega) (by omega)];rfl⟩;rintro _ _ ⟨j,hj,hj2,hm,rfl,rfl⟩)
  |(refine ak [0,3,6,7,8,9,25,26,27] [] ?_;(conv=>whnf);exact⟨rfl,_,[_],NM.next hj (by assumption) hl hm (FV hl (by assumption) (by assumption) hs1 bW hs4 Zq hd) (by assumption),rfl,rfl,rfl,by omega⟩)
  |(apply aM [0,3,25,26,27] [] [27] (Z4 xs) (xs.length) [iV .i64 0];(conv=>whnf);exact⟨rfl,rfl,rfl,rfl⟩;exact rfl;exact rfl;exact⟨0,by omega,fun i' h=>by omega,rfl,rfl⟩;rintro _ _ ⟨i,hi,hok,rfl,rfl⟩)
  |(refine ak [0,3,25,26,27] [] ?_;(conv=>whnf);exact⟨rfl,_,[_],Z4.next hl (by omega) hok (Gb hl (by omega) hs1 bW CU hb) (by assumption) (by first|exact adF hm (by assumption)|exact adE hl hj hm (by assumption) (by assumption)),rfl,rfl,rfl,by omega⟩)
  |(apply aM [0,3,12,13,14] [] [14] (Ix xs) (xs.length) [iV .i64 0];(conv=>whnf);exact⟨rfl,rfl,rfl,rfl⟩;exact rfl;exact rfl;exact⟨0,by omega,fun j e hj=>by omega,rfl,rfl⟩;rintro _ _ ⟨i0,sB,ha,rfl,rfl⟩)
  |(refine ak [0,3,12,13,14] [] ?_;(conv=>whnf);exact⟨rfl,_,[_],Ix.next (by omega) (by omega) ha hs0 (fun g=>nf (by assumption) (hc.2 g)),rfl,rfl,rfl,by omega⟩))
 all_goals (conv=>whnf)
end Go.aT.Cd
end
section
namespace Go.aT.Cd
open Go Go.Proofs
set_option maxRecDepth 100000
set_option maxHeartbeats 4000000
theorem Rg {xs:Lz} {k:Nat} {a b:Int} (g:dw xs) (hs:xs[k]? =some [tI a,tI b]):gJ (a,b):=by
 obtain⟨c,d,e,h⟩:=g _ (List.mem_of_getElem? hs)
 simp only[List.cons.injEq,T.val.injEq,Value.int.injEq,true_and,and_true]at e
 rw[e.1,e.2];exact h
theorem inb {xs:Lz} {b:Bool} (h:b=true↔¬dw xs) (g:b=false):dw xs:=Classical.not_not.1 (fun k=>nf g (h.2 k))
theorem QZ {b:Bool} (h:(!b)=false):b=true:=by simpa using h
theorem My {b:Bool} (h:(!b)=true):¬b=true:=by simpa using h
theorem Iy (xs:Lz) (hx:bG xs) (hl:xs.length≤1000000): ∃ts,Fn Tryz.prog 105 [oL 2 xs,fV 80] [] (aL ts) []∧(aL ts).bL=true∧kZ (fun n=>n < 0↔dw xs) ts:=by
 refine ah Tryz.func105 ?_
 repeat' (conv=>whnf
          first
  |(refine au (fun h=>?_) (fun h=>?_))
  |(refine aF (fun h=>?_) (fun h=>?_))
  |(refine And.intro KB ?_)
  |(refine aq hx (by first|omega|exact bF (by first|omega|(simp (disch:=omega) only[aa];omega))|(simp (disch:=omega) only[aa];omega)) (by first|omega|exact bq (by omega)|(simp (disch:=omega) only[aa];omega)) ?_;rintro _ ⟨a,b,rfl⟩ hs)
  |(refine ai rfl (sX (_,_)) ?_;rintro _ ⟨b,rfl,hb⟩)
  |exact gi rfl rfl (iff_of_true (by decide) (K6 ha (by omega)))
  |exact gi rfl rfl (iff_of_false (by omega) (fun g=>hb.1 (by assumption) (Rg g hs)))
  |(apply aM [0,1,7,8] [] [8] (An xs) (xs.length) [iV .i64 0];(conv=>whnf);exact⟨rfl,rfl,rfl,rfl⟩;exact rfl;exact rfl;exact⟨0,by omega,fun j e hj=>by omega,rfl,rfl⟩;rintro _ _ ⟨i,hi,ha,rfl,rfl⟩)
  |(refine ak [0,1,7,8] [] ?_;(conv=>whnf);exact⟨rfl,_,[_],An.succ (by omega) hl ha hs (by simp_all),rfl,rfl,rfl,by omega⟩))
 all_goals (conv=>whnf)
theorem Lt (xs:Lz) (hx:bG xs) (hl:xs.length≤1000000): ∃ts,Fn Tryz.prog 79 [oL 2 xs,fV 80] [] (aL ts) []∧(aL ts).bL=true∧ze (¬dw xs) ts:=by
 refine ah Tryz.func79 ?_
 repeat' (conv=>whnf
          first
  |(refine ai rfl (Iy xs hx hl) ?_;rintro _ ⟨n,rfl,hn⟩)
  |(refine tv rfl rfl ?_;rw[decide_eq_true_eq, ←hn];omega))
 all_goals (conv=>whnf)
structure iO (xs:Lz):Prop where
 n3:3≤xs.length
 n:xs.length≤40
 ie:dw xs
 si:bn.o5 (pts xs)
theorem nV (xs:Lz) (hx:bG xs) (hl:xs.length≤1000000): ∃ts,Fn Tryz.prog 55 [oL 2 xs] [] (aL ts) []∧(aL ts).bL=true∧kZ (fun n=>n=0↔iO xs) ts:=by
 refine ah Tryz.func55 ?_
 repeat' (conv=>whnf
          first
  |(refine au (fun h=>?_) (fun h=>?_))
  |(refine aF (fun h=>?_) (fun h=>?_))
  |(refine ai rfl (Lt xs hx hl) ?_;rintro _ ⟨c,rfl,hc⟩)
  |(refine ai rfl (Mj xs (inb hc (by assumption)) (by omega) (by omega)) ?_;rintro _ ⟨d,rfl,hd⟩)
  |exact gi rfl rfl (iff_of_false (by decide) (fun g=>by have h1:=g.n;omega))
  |exact gi rfl rfl (iff_of_false (by decide) (fun g=>by have h1:=g.n3;omega))
  |exact gi rfl rfl (iff_of_false (by decide) (fun g=>hc.1 (by assumption) g.ie))
  |exact gi rfl rfl (iff_of_true rfl ⟨by omega,by omega,inb hc (by assumption),hd.1 (QZ (by assumption))⟩)
  |exact gi rfl rfl (iff_of_false (by decide) (fun g=>My (by assumption) (hd.2 g.si))))
 all_goals (conv=>whnf)
def II (l:List Sp):Nat→Int
 |0=>0
 |i+1=>II l i+((bn.gt l i).1 * (bn.gt l (i+1)).2 - (bn.gt l (i+1)).1 * (bn.gt l i).2)
theorem Oz: ∀ (L:List Sp) (i:Nat) (h:i < (bn.pe L).length) (h2:i+1 < L.length),(bn.pe L)[i]=(L[i],L[i+1])
 | [],i,h,_=>by simp[bn.pe]at h
 | [a],i,h,_=>by simp[bn.pe]at h
 |a::b::r,0,h,_=>by simp[bn.pe]
 |a::b::r,i+1,h,h2=>by
  have:=Oz (b::r) i (by simpa[bn.pe]using h) (by simpa using h2)
  simp only[bn.pe,List.getElem_cons_succ]
  rw[this];rfl
theorem SH (l:List Sp):bn.ce l=(List.range l.length).map fun i=>(bn.gt l i,bn.gt l (i+1)):=by
 have hl:(bn.ce l).length=l.length:=by have:=congrArg List.length (bn.xN l);simpa using this
 apply List.ext_getElem
 · simp[hl]
 · intro i h1 h2
   cases l with
   |nil=>simp[bn.ce]at h1
   |cons a r=>
    rw[hl]at h1
    simp only[List.getElem_map,List.getElem_range]
    have:=Oz (a::r++[a]) i (by have k:=hl;simp only[bn.ce]at k;rw[k];exact h1) (by simp at h1⊢;omega)
    simp only[bn.ce]
    rw[this]
    have e1:(a::r++[a])[i]'(by simp at h1⊢;omega)=bn.gt (a::r) i:=by rw[bn.uA h1,List.getElem_append_left h1]
    rw[e1]
    congr 1
    by_cases k:i+1 < (a::r).length
    · rw[bn.uA k,List.getElem_append_left k]
    · have k':i+1=(a::r).length:=by omega
      rw[←bn.jW]
      simp only[k',Nat.mod_self]
      rw[bn.uA (by simp)]
      simp
theorem SS (l:List Sp):II l l.length=bn.ar l:=by
 have: ∀n,II l n=bn.sA ((List.range n).map fun i=>(bn.gt l i,bn.gt l (i+1))):=by
  intro n
  induction n with
  |zero=>rfl
  |succ n ih=>rw[List.range_succ,List.map_append,bn.nP, ←ih];simp[II,bn.sA]
 rw[this,bn.ar,SH]
theorem C7 {xs:Lz} (hx:dw xs) (h:0 < xs.length) (i:Nat):gJ (bn.gt (pts xs) i):=by
 have hi:=Nat.mod_lt i h
 obtain⟨a,b,e,hab⟩:=hx _ (List.getElem_mem hi)
 rw[zU (k:=i % xs.length) (a:=a) (b:=b) (by rw[←e];simp[hi]) rfl]
 exact hab
theorem Zj {x y:Int} (h1: -1048576≤x) (h2:x≤1048576) (h3: -1048576≤y) (h4:y≤1048576): -4398046511104≤x * y∧x * y≤4398046511104:=mb (by omega) (by omega) (by omega) (by omega)
theorem PI {xs:Lz} (hx:dw xs) (h:0 < xs.length): ∀i:Nat, -(8796093022208 * (i:Int))≤II (pts xs) i∧II (pts xs) i≤8796093022208 * (i:Int)
 |0=>by simp[II]
 |i+1=>by
  have ih:=PI hx h i
  have g1:=C7 hx h i
  have g2:=C7 hx h (i+1)
  simp only[gJ]at g1 g2
  have m1:=Zj g1.1.1 g1.1.2 g2.2.1 g2.2.2
  have m2:=Zj g2.1.1 g2.1.2 g1.2.1 g1.2.2
  simp only[II]
  omega
def RAr (xs:Lz) (m:Nat) (vs:List V):Prop:= ∃ (i:Nat) (s:Int),i≤xs.length∧m=xs.length - i∧vs=[iV .i64 s,iV .i64 i]∧s=II (pts xs) i
theorem RAr.next {xs:Lz} {i:Nat} {s a1 b1 a2 b2:Int} (hx:dw xs) (hl:xs.length≤40) (hi:(i:Int) < (xs.length:Int)) (hs:s=II (pts xs) i) (hs1:xs[((i:Int)).toNat]? =some [tI a1,tI b1]) (bW:xs[((IntKind.i64.wrap ((i:Int)+1)).tmod (xs.length:Int)).toNat]? =some [tI a2,tI b2]):
 RAr xs (xs.length - (i+1)) [iV .i64 (IntKind.i64.wrap (s+IntKind.i64.wrap (IntKind.i64.wrap (a1 * b2) - IntKind.i64.wrap (b1 * a2)))),iV .i64 (IntKind.i64.wrap ((i:Int)+1))]:=by
 have k1:=NC hl hi hs1
 have k2:=SR hl hi bW
 have g1:=C7 hx (by omega) i
 have g2:=C7 hx (by omega) (i+1)
 have b:=PI hx (by omega) i
 rw[k1]at g1
 rw[k2]at g2
 simp only[gJ]at g1 g2
 have m1:=Zj g1.1.1 g1.1.2 g2.2.1 g2.2.2
 have m2:=Zj g1.2.1 g1.2.2 g2.1.1 g2.1.2
 refine⟨i+1,II (pts xs) (i+1),by omega,rfl,?_,rfl⟩
 rw[aa (n:=a1 * b2) (by omega) (by omega),aa (n:=b1 * a2) (by omega) (by omega),aa (n:=a1 * b2 - b1 * a2) (by omega) (by omega),aa (n:=s+_) (by omega) (by omega),aa (n:=(i:Int)+1) (by omega) (by omega)]
 simp only[II,k1,k2,hs,Int.mul_comm b1 a2]
 rfl
theorem Yy (xs:Lz) (hx:dw xs) (hl:xs.length≤40): ∃ts,Fn Tryz.prog 149 [oL 2 xs] [] (aL ts) []∧(aL ts).bL=true∧kZ (fun n=>n=bn.ar (pts xs)) ts:=by
 refine ah Tryz.func149 ?_
 repeat' (conv=>whnf
          first
  |(refine au (fun h=>?_) (fun h=>?_))
  |(refine aq (n:=(i:Int)) hx (by omega) (by omega) ?_;rintro _ ⟨a1,b1,rfl,p1⟩ hs1)
  |(refine aq (n:=(IntKind.i64.wrap ((i:Int)+1)).tmod (xs.length:Int)) hx (bF (by(simp (disch:=omega) only[aa];omega))) (bq (by omega)) ?_;rintro _ ⟨a2,b2,rfl,p2⟩ bW)
  |(refine And.intro (by omega) ?_)
  |exact gi rfl rfl (by rw[R6, ←SS,dS,show i=xs.length by omega])
  |(apply aM [0,3,7,8,9] [] [3,9] (RAr xs) (xs.length) [iV .i64 0,iV .i64 0];(conv=>whnf);exact⟨rfl,rfl,rfl,rfl⟩;exact rfl;exact rfl;exact⟨0,0,by omega,by omega,rfl,rfl⟩;rintro _ _ ⟨i,s,hi,rfl,rfl,R6⟩)
  |(refine ak [0,3,7,8,9] [] ?_;(conv=>whnf);exact⟨rfl,_,[_,_],RAr.next hx hl (by assumption) R6 hs1 bW,rfl,rfl,rfl,by omega⟩))
 all_goals (conv=>whnf)
theorem ixM {i n:Nat} (hi:i < n) (hn:n≤1000000):((IntKind.i64.wrap (IntKind.i64.wrap ((i:Int)+(n:Int)) - 1)).tmod (n:Int)).toNat=(i+n - 1) % n:=by
 rw[aa (n:=(i:Int)+(n:Int)) (by omega) (by omega),aa (by omega) (by omega),Int.tmod_eq_emod_of_nonneg (by omega)]
 have:(i:Int)+(n:Int) - 1=((i+n - 1:Nat):Int):=by omega
 rw[this];omega
theorem Yx (xs:Lz) (i:Nat) (hx:dw xs) (hl:xs.length≤40) (hi:i < xs.length): ∃ts,Fn Tryz.prog 148 [oL 2 xs,oI i] [] (aL ts) []∧(aL ts).bL=true∧kZ (fun n=>n=bn.cr (bn.gt (pts xs) (i+xs.length - 1)) (bn.gt (pts xs) i) (bn.gt (pts xs) (i+1))) ts:=by
 refine ah Tryz.func148 ?_
 repeat' (conv=>whnf
          first
  |(refine aq (n:=(IntKind.i64.wrap (IntKind.i64.wrap ((i:Int)+(xs.length:Int)) - 1)).tmod (xs.length:Int)) hx (bF (by(simp (disch:=omega) only[aa];omega))) (bq (by omega)) ?_;rintro _ ⟨a1,b1,rfl,p1⟩ hs1)
  |(refine aq (n:=(i:Int)) hx (by omega) (by omega) ?_;rintro _ ⟨a2,b2,rfl,p2⟩ bW)
  |(refine aq (n:=(IntKind.i64.wrap ((i:Int)+1)).tmod (xs.length:Int)) hx (bF (by(simp (disch:=omega) only[aa];omega))) (bq (by omega)) ?_;rintro _ ⟨a3,b3,rfl,p3⟩ CU)
  |(refine And.intro (by kernel_rfl) ?_)
  |(refine And.intro (by omega) ?_)
  |(refine aC rfl (xK (_,_) (_,_) (_,_) p1 p2 p3) ?_;rintro _ ⟨n,rfl,rfl⟩)
  |(exact gi rfl rfl (by rw[zU hs1 (ixM hi (by omega)),NC hl (by omega) bW,SR hl (by omega) CU])))
 all_goals (conv=>whnf)
def S1 (xs zs:Lz) (i q:Int):Prop:= ∀k:Nat,k < xs.length→zs[k]? =if(k:Int) < i∨q < (k:Int)then xs[xs.length - 1 - k]? else xs[k]?
theorem S1.next {xs zs:Lz} {i q:Int} {u v:List T} (h:S1 xs zs i q) (hl:zs.length=xs.length) (e:i+q=(xs.length:Int) - 1) (h0:0≤i) (hlt:i < q) (hq:zs[0+q.toNat]? =some u) (hi:zs[0+i.toNat]? =some v):
 S1 xs ((zs.set (0+i.toNat) u).set (0+q.toNat) v) (i+1) (q - 1):=by
 intro k hk
 rw[Nat.zero_add]at hq hi
 rw[Nat.zero_add,Nat.zero_add]
 have hI:=h i.toNat (by omega)
 have hQ:=h q.toNat (by omega)
 rw[if_neg (by omega)]at hI hQ
 by_cases k1:k=q.toNat
 · subst k1
   rw[List.getElem?_set_self (by simp;omega),if_pos (by omega),show xs.length - 1 - q.toNat=i.toNat by omega, ←hI,hi]
 · rw[List.getElem?_set_ne (by omega)]
   by_cases k2:k=i.toNat
   · subst k2
     rw[List.getElem?_set_self (by omega),if_pos (by omega),show xs.length - 1 - i.toNat=q.toNat by omega, ←hQ,hq]
   · rw[List.getElem?_set_ne (by omega),h k hk]
     by_cases c:(k:Int) < i∨q < (k:Int)
     · rw[if_pos c,if_pos (by omega)]
     · rw[if_neg c,if_neg (by omega)]
theorem S1.fin {xs zs:Lz} {i q:Int} (h:S1 xs zs i q) (hl:zs.length=xs.length) (e:i+q=(xs.length:Int) - 1) (hge:¬i < q):zs=xs.reverse:=by
 apply List.ext_getElem?
 intro k
 by_cases hk:k < xs.length
 · rw[h k hk,List.getElem?_reverse hk]
   by_cases c:(k:Int) < i∨q < (k:Int)
   · rw[if_pos c]
   · rw[if_neg c,show xs.length - 1 - k=k by omega]
 · rw[List.getElem?_eq_none (by omega),List.getElem?_eq_none (by simp;omega)]
def NN (xs:Lz) (m:Nat) (ws:List V) (xss:List (Lz)):Prop:= ∃ (i q:Int) (zs:Lz),(0≤i∧i≤(xs.length:Int)∧q < (xs.length:Int)∧ -1≤q∧i+q=(xs.length:Int) - 1)∧m=(q+1 - i).toNat∧ws=[iV .i64 i,iV .i64 q]∧xss=[zs]∧(zs.length=xs.length∧S1 xs zs i q)∧bG zs
theorem NN.next {xs:Lz} {i q:Int} {zs:Lz} (hb:0≤i∧i≤(xs.length:Int)∧q < (xs.length:Int)∧ -1≤q∧i+q=(xs.length:Int) - 1) (h:i < q) (hn:xs.length≤1000000) (hz:zs.length=xs.length∧S1 xs zs i q) (hS:bG zs) {a b c d:Int} (hq:zs[0+q.toNat]? =some [tI a,tI b]) (hi:zs[0+i.toNat]? =some [tI c,tI d]):
 NN xs (q - 1+1 - (i+1)).toNat [iV .i64 (IntKind.i64.wrap (i+1)),iV .i64 (IntKind.i64.wrap (q - 1))] [(zs.set (0+i.toNat) [tI a,tI b]).set (0+q.toNat) [tI c,tI d]]:=
 ⟨i+1,q - 1,_,by omega,rfl,by rw[bh (by omega) (by omega),bh (by omega) (by omega)],rfl,⟨by simp[hz.1],hz.2.next hz.1 hb.2.2.2.2 hb.1 h hq hi⟩,(hS.set _ a b).set _ c d⟩
def ajB (xs:Lz) (ts:List W) (hout:HS):Prop:=ts=[]∧ ∃ys,hout=[(0, .row 2 (tr ys))]∧ys=xs.reverse∧bG ys
theorem Jl (xs:Lz) (hx:bG xs) (hl:xs.length≤1000000): ∃ts hout,Fn Tryz.prog 150 [.one (.own 0 2 0 xs.length)] [(0, .row 2 (tr xs))] (aL ts) hout∧ajB xs ts hout:=by
 refine dD Tryz.func150 ?_
 repeat' (conv=>whnf
          first
  |(refine au (fun h=>?_) (fun h=>?_))
  |(refine And.intro ⟨by omega,by omega⟩ ?_)
  |(refine And.intro (by kernel_rfl) ?_)
  |(refine bJ (i:=0+q.toNat) (xs:=zs) rfl hU (by omega) ?_;rintro _ ⟨a1,b1,rfl⟩ hs1)
  |(refine bJ (i:=0+i.toNat) (xs:=zs) rfl hU (by omega) ?_;rintro _ ⟨a2,b2,rfl⟩ bW)
  |(refine bJ (xs:=zs.set _ [tI _,tI _]) (az.set (xs:=zs) rfl _ [tI _,tI _]) (hU.set _ _ _) (by simp;omega) ?_;rintro _ ⟨a,b,rfl⟩ hs)
  |exact⟨[],[],_,rfl,rfl,Bh rfl (xs:=xs) (ys:=zs) rfl,rfl,zs,rfl,hz.2.fin hz.1 hb.2.2.2.2 (by assumption),hU⟩
  |(apply bp [0,2,3] [] [2,3] [(0,2)] (NN xs) (xs.length) [iV .i64 0,iV .i64 (IntKind.i64.wrap ((xs.length:Int) - 1))];(conv=>whnf);exact⟨rfl,rfl,rfl,rfl⟩;exact rfl;exact rfl;exact .cons (az.av (xs:=xs) rfl _) .nil;exact⟨0,(xs.length:Int) - 1,xs,by omega,by omega,by rw[bh (by omega) (by omega)],rfl,⟨rfl,fun k hk=>by rw[if_neg (by omega)]⟩,hx⟩;rintro _ _ _ ⟨i,q,zs,hb,rfl,rfl,rfl,hz,hU⟩)
  |(refine ak [0,2,3] [] ?_;(conv=>whnf);exact⟨rfl,_,[_,_],_, .cons (az.av (az.set (az.set (xs:=zs) rfl _ [tI _,tI _]) _ [tI _,tI _]) _) .nil,NN.next hb (by assumption) hl hz hU hs1 (by assumption),rfl,rfl,by omega⟩))
 all_goals (conv=>whnf)
def LD (e:List T):Lz:=
 match e with
 | [.aB _ xs]=>xs
 |_=>[]
def Fm (ls:Lz) (m:Nat) (ws:List V) (xss:List (Lz)):Prop:= ∃ (i:Nat) (zs:Lz),i≤ls.length∧m=ls.length - i∧ws=[bD 4 2 zs.length,iV .i64 (i:Int)]∧xss=[zs]∧(zs.length=eX (ls.take i)∧zs=(ls.take i).flatMap LD)∧bG zs
theorem Gd {ls:Lz} {i:Nat} {e:List T} (h:ls[((i:Int)).toNat]? =some e):(ls.take (i+1)).flatMap LD=(ls.take i).flatMap LD++LD e:=by
 have h:ls[i]? =some e:=by simpa using h
 rw[fW h,List.flatMap_append];simp
theorem Fm.same {ls zs:Lz} {i:Nat} (hl:ls.length≤4) (hi:(i:Int) < (ls.length:Int)) (hs:ls[((i:Int)).toNat]? =some [.aB 2 []]) (hz:zs.length=eX (ls.take i)∧zs=(ls.take i).flatMap LD) (hS:bG zs):Fm ls (ls.length - (i+1)) [bD 4 2 zs.length,iV .i64 (IntKind.i64.wrap ((i:Int)+1))] [zs]:=by
 obtain⟨i',zs',h1,h2,h3,h4,h5,h6⟩:=PP.same hl hi hs hz.1 hS
 refine⟨i+1,zs,by omega,rfl,by rw[bh (by omega) (by omega)];rfl,rfl,⟨?_,?_⟩,hS⟩
 · have h1:=lj (es:=ls) (i:=i) (by simpa using hs)
   simp only[tl,List.length_nil,Nat.add_zero]at h1
   omega
 · rw[Gd hs, ←hz.2];simp[LD]
theorem Fm.Fc {ls zs ys:Lz} {y:List T} {i k:Nat} (hl:ls.length≤4) (hi:(i:Int) < (ls.length:Int)) (hs:ls[((i:Int)).toNat]? =some [.aB 2 (y::ys)]) (hy:bG (y::ys)) (hz:zs.length=eX (ls.take i)∧zs=(ls.take i).flatMap LD) (hS:bG zs) (hk:k=zs.length+(ys.length+1)):Fm ls (ls.length - (i+1)) [bD 4 2 k,iV .i64 (IntKind.i64.wrap ((i:Int)+1))] [zs++y::ys]:=by
 have h1:=lj (es:=ls) (i:=i) (by simpa using hs)
 simp only[tl,List.length_cons]at h1
 refine⟨i+1,_,by omega,rfl,by rw[bh (by omega) (by omega),hk];simp,rfl,⟨by simp;omega,?_⟩,?_⟩
 · rw[Gd hs, ←hz.2];simp[LD]
 · intro e he
   rcases List.mem_append.1 he with he|he
   · exact hS e he
   · exact hy e he
theorem Nk (ls:Lz) (hls: ∀e,e∈ls→DL e) (hl:ls.length≤4) (h1:1≤eX ls): ∃ts hout,Ar Tryz.prog 151 [oL 1 ls] (aL ts) hout∧GN 2 (fun zs=>zs=ls.flatMap LD∧bG zs) ts hout:=by
 refine rN Tryz.func151 ?_
 repeat' (conv=>whnf
          first
  |(refine au (fun h=>?_) (fun h=>?_))
  |(refine aq (xs:=ls) (n:=(i:Int)) hls (by omega) (by omega) ?_;rintro _ ⟨ys,rfl,hys,j8⟩ hs)
  |(refine aq (xs:=ls) (n:=(q:Int)) hls (by omega) (by omega) ?_;rintro _ ⟨_|⟨y,ys⟩,rfl,hys,j8⟩ hs)
  |(exfalso;exact KQ hls hl j8 h)
  |(refine And.intro (Yt (by have:=tb hls hl q;omega) (by simp at j8;omega)) ?_)
  |(refine Of rfl (Ue.new (O0 (eX (ls.take i)) (by rw[List.take_of_length_le (by omega)];exact h1) (by have:=tb hls hl i;omega))) ?_;rintro _ rfl)
  |exact gN rfl rfl rfl (xs:=zs) rfl rfl ⟨by rw[hz.2,List.take_of_length_le (by omega)],hS⟩
  |(apply bp [6,25,26,27] [] [6,27] [(4,2)] (Fm ls) (ls.length) [bD 4 2 0,iV .i64 0];(conv=>whnf);exact⟨rfl,rfl,rfl,rfl⟩;exact rfl;exact rfl;exact .cons (az.av (xs:=[]) rfl _) .nil;exact⟨0,[],by omega,rfl,rfl,rfl,by simp[eX],fun e he=>by simp at he⟩;rintro _ _ _ ⟨q,zs,hq,rfl,rfl,rfl,hz,hS⟩)
  |(refine ak [6,25,26,27] [] ?_;(conv=>whnf);first|exact⟨rfl,_,[_,_],_, .cons (az.av (xs:=zs) rfl _) .nil,Fm.same hl (by omega) hs hz hS,rfl,rfl,by omega⟩|exact⟨rfl,_,[_,_],_, .cons (az.av (az.Fc (xs:=zs) rfl (y::ys)) _) .nil,Fm.Fc hl (by omega) hs hys hz hS (by simp[tr]),rfl,rfl,by omega⟩)
  |(apply aM [0,3,9,10,11] [] [3,11] (PR ls) (ls.length) [iV .i64 0,iV .i64 0];(conv=>whnf);exact⟨rfl,rfl,rfl,rfl⟩;exact rfl;exact rfl;exact⟨0,by omega,rfl,by simp[eX]⟩;rintro _ _ ⟨i,hi,rfl,rfl⟩)
  |(refine ak [0,3,9,10,11] [] ?_;(conv=>whnf);exact⟨rfl,_,[_,_],PR.next hls hl (by omega) hs (by simp),rfl,rfl,rfl,by omega⟩))
 all_goals (conv=>whnf)
end Go.aT.Cd
end
section
namespace Go.aT.Cd
open Go Go.Proofs
set_option maxRecDepth 100000
set_option maxHeartbeats 4000000
theorem Gp {A B:Lz} (hA:bG A) (hB:bG B) (h1:1≤A.length+B.length) (h:A.length+B.length≤100000): ∃ts hout,Ar Tryz.prog 151 [oL 1 [[.aB 2 A],[.aB 2 B]]] (aL ts) hout∧GN 2 (fun zs=>zs=A++B∧bG zs) ts hout:=by
 have:=Nk [[.aB 2 A],[.aB 2 B]] (D8 hA hB h) (by simp) (by rw[vM];exact h1)
 simpa[LD]using this
theorem Ya {A:Lz}: ∀xs:Lz,xs=A∧bG xs→(bA.row 2 (tr xs)).flat=true:=fun xs h=>flN (n:=xs.length) xs ⟨rfl,h.2⟩
theorem dw.take {xs:Lz} (h:dw xs) (n:Nat):dw (xs.take n):=fun e he=>h e (List.mem_of_mem_take he)
theorem dw.snoc {xs:Lz} (h:dw xs) {a b:Int} (hab:gJ (a,b)):dw (xs++[[tI a,tI b]]):=fun e he=>by
 rcases List.mem_append.1 he with he|he
 · exact h e he
 · exact⟨a,b,by simpa using he,hab⟩
def Fk (xs:Lz) (f:Sp→Bool) (m:Nat) (ws:List V) (xss:List (Lz)):Prop:= ∃ (i:Nat) (zs:Lz),i≤xs.length∧m=xs.length - i∧ws=[bD 4 2 zs.length,iV .i64 (i:Int)]∧xss=[zs]∧(zs.length≤i∧pts zs=((pts xs).take i).filter f)∧dw zs
theorem Eo {xs:Lz} {i:Nat} {a b:Int} (hs:xs[((i:Int)).toNat]? =some [tI a,tI b]):(pts xs).take (i+1)=(pts xs).take i++[(a,b)]:=by
 have hs:xs[i]? =some [tI a,tI b]:=by simpa using hs
 have:(pts xs)[i]? =some (a,b):=by simp[pts,hs,pt]
 rw[List.take_add_one,this];rfl
theorem Fk.same {xs zs:Lz} {f:Sp→Bool} {i:Nat} {n a b:Int} (hf: ∀b,f b=true↔¬bn.tQ (pts xs) b) (hG:iO xs) (h:(i:Int) < (xs.length:Int)) (hz:zs.length≤i∧pts zs=((pts xs).take i).filter f) (hS:dw zs)
 (hs:xs[((i:Int)).toNat]? =some [tI a,tI b]) (hn:n=bn.cr (bn.gt (pts xs) (i+xs.length - 1)) (bn.gt (pts xs) i) (bn.gt (pts xs) (i+1))) (h0:n=0):Fk xs f (xs.length - (i+1)) [bD 4 2 zs.length,iV .i64 (IntKind.i64.wrap ((i:Int)+1))] [zs]:=by
 have hl:=hG.n
 refine⟨i+1,zs,by omega,rfl,by rw[bh (by omega) (by omega)];rfl,rfl,⟨by omega,?_⟩,hS⟩
 have k:=bn.Om (hG.si.sm (by rw[dS];exact hG.n3)) (i:=i) (by rw[dS];omega)
 rw[dS,NC hl h hs]at k
 rw[NC hl h hs]at hn
 have:f (a,b)=false:=by
  have e:=hf (a,b)
  have:bn.tQ (pts xs) (a,b):=k.2 (by rw[←hn];exact h0)
  simpa[this]using e
 rw[Eo hs,List.filter_append, ←hz.2];simp[this]
theorem Fk.Fc {xs zs:Lz} {f:Sp→Bool} {i k:Nat} {n a b:Int} (hf: ∀b,f b=true↔¬bn.tQ (pts xs) b) (hG:iO xs) (h:(i:Int) < (xs.length:Int)) (hz:zs.length≤i∧pts zs=((pts xs).take i).filter f) (hS:dw zs)
 (hs:xs[((i:Int)).toNat]? =some [tI a,tI b]) (hab:gJ (a,b)) (hn:n=bn.cr (bn.gt (pts xs) (i+xs.length - 1)) (bn.gt (pts xs) i) (bn.gt (pts xs) (i+1))) (h0:¬n=0) (hk:k=zs.length+1):Fk xs f (xs.length - (i+1)) [bD 4 2 k,iV .i64 (IntKind.i64.wrap ((i:Int)+1))] [zs++[[tI a,tI b]]]:=by
 have hl:=hG.n
 refine⟨i+1,_,by omega,rfl,by rw[bh (by omega) (by omega),hk];simp,rfl,⟨by simp;omega,?_⟩,hS.snoc hab⟩
 have k:=bn.Om (hG.si.sm (by rw[dS];exact hG.n3)) (i:=i) (by rw[dS];omega)
 rw[dS,NC hl h hs]at k
 rw[NC hl h hs]at hn
 have:f (a,b)=true:=(hf (a,b)).2 (fun g=>h0 (hn.trans (k.1 g)))
 rw[Eo hs,List.filter_append, ←hz.2];simp[this,pts,pt]
def GNf (xs:Lz) (ts:List W):Prop:= ∃zs e,ts=[oL 2 zs,oI e]∧(e=0↔iO xs)∧(e=0→dw zs∧zs.length≤40∧bn.Good (pts zs))
section
variable {xs zs ys ws:Lz} {f:Sp→Bool} {i:Nat} {ar:Int}
theorem nf0 (hf: ∀b,f b=true↔¬bn.tQ (pts xs) b) (hG:iO xs) (hz:zs.length≤i∧pts zs=((pts xs).take i).filter f) (hi:¬ (i:Int) < (xs.length:Int)):bn.Sm (pts zs)∧bn.ar (pts zs)=bn.ar (pts xs):=by
 rw[hz.2,List.take_of_length_le (by rw[dS];omega)]
 exact bn.Yl (hG.si.sm (by rw[dS];exact hG.n3)) hf
theorem nf1 (hf: ∀b,f b=true↔¬bn.tQ (pts xs) b) (hG:iO xs) (hz:zs.length≤i∧pts zs=((pts xs).take i).filter f) (hi:¬ (i:Int) < (xs.length:Int)) (ha:ar=bn.ar (pts xs)) (h:¬ar < 0):bn.Good (pts zs):=by
 obtain⟨h1,h2⟩:=nf0 hf hG hz hi
 exact⟨h1,by have:=bn.PF h1;omega⟩
theorem nf2 (hf: ∀b,f b=true↔¬bn.tQ (pts xs) b) (hG:iO xs) (hz:zs.length≤i∧pts zs=((pts xs).take i).filter f) (hi:¬ (i:Int) < (xs.length:Int)) (ha:ar=bn.ar (pts xs)) (h:ar < 0):bn.Good (pts zs.reverse):=by
 obtain⟨h1,h2⟩:=nf0 hf hG hz hi
 obtain⟨h3,h4⟩:=bn.QF h1
 have e:pts zs.reverse=(pts zs).reverse:=by simp[pts]
 rw[e]
 exact⟨h3,by omega⟩
theorem nf3 {q:Nat} (hy:dw ys) (hl:ys.length≤40) (hG:bn.Good (pts ys)) (hw:ws=ys.drop q++ys.take q):dw ((ws.drop 0).take ws.length)∧((ws.drop 0).take ws.length).length≤40∧bn.Good (pts ((ws.drop 0).take ws.length)):=by
 have e:(ws.drop 0).take ws.length=ws:=by simp
 rw[e,hw]
 refine⟨fun e he=>?_,by simp;omega,?_⟩
 · rcases List.mem_append.1 he with he|he
   · exact hy e (List.mem_of_mem_drop he)
   · exact hy e (List.mem_of_mem_take he)
 · have:pts (ys.drop q++ys.take q)=(pts ys).drop q++(pts ys).take q:=by simp[pts]
   rw[this]
   exact bn.Good.ym (by rw[List.take_append_drop];exact hG)
theorem nf4 {q n:Nat} (hn:n=ys.length) (h:ws=((ys.take n).drop ((q:Int)).toNat).take ((ys.take n).length - ((q:Int)).toNat)++((ys.take n).drop 0).take (((q:Int)).toNat - 0)):ws=ys.drop q++ys.take q:=by
 subst hn
 rw[h]
 simp only[List.take_length,List.drop_zero,Nat.sub_zero,show((q:Int)).toNat=q by omega]
 congr 1
 exact List.take_of_length_le (by simp)
theorem OC (h:bn.Good (pts ys)) (hy:ys.length=0):False:=by
 have:=h.sm.n3
 rw[dS]at this;omega
theorem dw.rev (h:dw zs):dw zs.reverse:=fun e he=>h e (List.mem_reverse.1 he)
end
theorem Mz (xs:Lz) (hx:bG xs) (hl:xs.length≤1000000): ∃ts,Fn Tryz.prog 119 [oL 2 xs] [] (aL ts) []∧(aL ts).bL=true∧GNf xs ts:=by
 obtain⟨f0,TM⟩:=bn.exF (pts xs)
 refine aJ ?_
 refine ah Tryz.func119 ?_
 repeat' (conv=>whnf
          first
  |(refine au (fun h=>?_) (fun h=>?_))
  |(refine ca (fun h=>?_) (fun h=>?_))
  |(refine aq (xs:=xs) (hP.1 (by assumption)).ie (by omega) (by omega) ?_;rintro _ ⟨a,b,rfl,hab⟩ hs)
  |(refine aq (xs:=zs.take zs.length) (hz.wo.take _) (by omega) (by simp;omega) ?_;rintro _ ⟨a,b,rfl⟩ hs)
  |(refine aq (xs:=zs.reverse.take zs.length) (hys.take _) (by omega) (by simp;omega) ?_;rintro _ ⟨a,b,rfl⟩ hs)
  |(refine And.intro ⟨by simp[tr],by simp[tr,aW];have:=(hP.1 (by assumption)).n;omega,by simp[tr,maxLen];have:=(hP.1 (by assumption)).n;omega⟩ ?_)
  |(refine gK (Nat.zero_le _) (by simp;omega) ?_)
  |(refine gK (by simp;omega) (by simp) ?_)
  |(refine gK (by omega) (by omega) ?_)
  |(refine And.intro (by kernel_rfl) ?_)
  |(refine And.intro (by omega) ?_)
  |(refine ai rfl (nV xs hx hl) ?_;rintro _ ⟨e,rfl,hP⟩)
  |(refine ai rfl (Yx xs i (hP.1 (by assumption)).ie (hP.1 (by assumption)).n (by omega)) ?_;rintro _ ⟨n,rfl,hn⟩)
  |(refine ai rfl (Yy xs (hP.1 (by assumption)).ie (hP.1 (by assumption)).n) ?_;rintro _ ⟨ar,rfl,R6⟩)
  |(refine fu [4] rfl (Jl zs hz.wo (by have:=(hP.1 (by assumption)).n;omega)) rfl (jU rfl rfl) ?_;rintro _ _ ⟨rfl,ys,rfl,rfl,hys⟩)
  |(refine lW rfl Ya (Gp (cE (hz.wo.take _) _ _) (cE (hz.wo.take _) _ _) (by simp;omega) (by have:=(hP.1 (by assumption)).n;simp;omega)) ?_;rintro ws ⟨yg,EI⟩)
  |(refine lW rfl Ya (Gp (cE (hys.take _) _ _) (cE (hys.take _) _ _) (by simp;omega) (by have:=(hP.1 (by assumption)).n;simp;omega)) ?_;rintro ws ⟨yg,EI⟩)
  |(refine vK rfl (vX (cE (hz.wo.take _) _ _) (cE (hz.wo.take _) _ _) (by simp only[List.length_take,List.length_drop];omega)) (fun rs h=>by subst h;rfl) ?_;rintro _ rfl)
  |(refine vK rfl (vX (cE (hys.take _) _ _) (cE (hys.take _) _ _) (by simp only[List.length_take,List.length_drop,List.length_reverse];omega)) (fun rs h=>by subst h;rfl) ?_;rintro _ rfl)
  |exact dg rfl (bR 2 rfl) (bS rfl) ⟨_,_,rfl,iff_of_false (by assumption) (fun g=>absurd (hP.2 g) (by assumption)),fun h0=>absurd h0 (by assumption)⟩
  |exact dg rfl (fz rfl rfl (xs:=ws) rfl (by omega)) (bS rfl) ⟨_,_,rfl,iff_of_true rfl (hP.1 (by assumption)),fun _=>by first|exact nf3 hz.rev (by have:=(hP.1 (by assumption)).n;have:=jn.1;simp;omega) (nf2 TM (hP.1 (by assumption)) jn (by assumption) R6 (by assumption)) (nf4 (by simp) yg)|exact nf3 hz (by have:=(hP.1 (by assumption)).n;have:=jn.1;omega) (nf1 TM (hP.1 (by assumption)) jn (by assumption) R6 (by assumption)) (nf4 rfl yg)⟩
  |exact dg rfl (bR 2 rfl) (bS rfl) ⟨_,_,rfl,iff_of_true rfl (hP.1 (by assumption)),fun _=>by first|exact(OC (nf2 TM (hP.1 (by assumption)) jn (by assumption) R6 (by assumption)) (by rw[List.length_reverse];omega)).elim|exact(OC (nf1 TM (hP.1 (by assumption)) jn (by assumption) R6 (by assumption)) (by omega)).elim⟩
  |(apply dQ [5,8,38,39,40] [] [8,40] [] (GD zs.length) (zs.length) [iV .i64 0,iV .i64 0] (dK.Kj (xs:=zs.reverse) [5,38] 4 (JE rfl rfl) rfl (az.av rfl _) (by simp));(conv=>whnf);exact⟨rfl,rfl,rfl,rfl⟩;exact rfl;exact rfl;exact .nil;exact GD.zero;rintro _ _ _ ⟨q,f,hq,(hf|⟨hc,rfl⟩),rfl,rfl,rfl⟩)
  |(refine ak [5,8,38,39,40] [] ?_;(conv=>whnf);exact⟨rfl,_,[_,_],_, .nil,GD.keep (by omega) (by omega) (by omega),rfl,rfl,by omega⟩)
  |(apply dQ [5,8,38,39,40] [] [8,40] [] (GD zs.length) (zs.length) [iV .i64 0,iV .i64 0] (dK.Kj (xs:=zs) [5,38] 4 (JE rfl rfl) rfl rfl (Nat.le_refl _));(conv=>whnf);exact⟨rfl,rfl,rfl,rfl⟩;exact rfl;exact rfl;exact .nil;exact GD.zero;rintro _ _ _ ⟨q,f,hq,(hf|⟨hc,rfl⟩),rfl,rfl,rfl⟩)
  |(apply dQ [0,5,17,18,19] [] [5,19] [(4,2)] (Fk xs f0) (xs.length) [bD 4 2 0,iV .i64 0] (dK.jq 5 2 rfl);(conv=>whnf);exact⟨rfl,rfl,rfl,rfl⟩;exact rfl;exact rfl;exact .cons (az.av az.nil _) .nil;exact⟨0,[],by omega,rfl,rfl,rfl,by simp[pts],fun e he=>by simp at he⟩;rintro _ _ _ ⟨i,zs,hi,rfl,rfl,rfl,jn,hz⟩)
  |(refine ak [0,5,17,18,19] [] ?_;(conv=>whnf);first|exact⟨rfl,_,[_,_],_, .cons (az.av (xs:=zs) rfl _) .nil,Fk.same TM (hP.1 (by assumption)) (by assumption) jn hz hs hn (by assumption),rfl,rfl,by omega⟩|exact⟨rfl,_,[_,_],_, .cons (az.av (az.snoc (xs:=zs) rfl [tI _,tI _]) _) .nil,Fk.Fc TM (hP.1 (by assumption)) (by assumption) jn hz hs hab hn (by assumption) (by simp[tr]),rfl,rfl,by omega⟩))
 all_goals (conv=>whnf)
end Go.aT.Cd
end
section
namespace Go.aT.Cd
open Go Go.Proofs
set_option maxRecDepth 100000
set_option maxHeartbeats 4000000
theorem En (gF:Array TypeId) (ty:TypeId) (x y z:Int):aH Tryz.prog (Builtin.min_ gF ty #[.int .i64 x, .int .i64 y, .int .i64 z])=some (.int .i64 (min (min x y) z)):=by
 have h: ∀a b:Int,aH Tryz.prog (Builtin.min2 (.int .i64 a) (.int .i64 b))=some (.int .i64 (min a b)):=fun a b=>by
  have e:(if b < a then b else a)=min a b:=by omega
  unfold Builtin.min2
  simp[aD,e]
 unfold Builtin.min_
 simp[aI,h]
theorem L3 {ctr a b c:Nat} {ty:TypeId} {gF:Array TypeId} {tm:TS} {hp:HS} {x y z:Int} {K:V→HS→Prop} (ha:find tm a=some (iV .i64 x)) (hb:find tm b=some (iV .i64 y)) (hc:find tm c=some (iV .i64 z)) (hk:K (iV .i64 (min (min x y) z)) hp):
 ∃v aG,YW Tryz.prog (.call ⟨.builtin .min, #[.tmp a, .tmp b, .tmp c],gF⟩) ty tm hp ctr v aG∧K v aG:=by
 refine⟨iV .i64 (min (min x y) z),hp,⟨fun get=>rfl,?_⟩,hk⟩
 rintro n ⟨dst',op',ty',pos',after',guard'⟩ rfl rfl
 have e:aY Tryz.prog (St.get ⟨n,tm,hp⟩) ⟨dst', .call ⟨.builtin .min, #[.tmp a, .tmp b, .tmp c],gF⟩,ty',pos',after',guard'⟩=some (iV .i64 (min (min x y) z)):=by
  unfold aY
  have hall:(fL (Op.call ⟨.builtin .min, #[.tmp a, .tmp b, .tmp c],gF⟩)&& (Op.call ⟨.builtin .min, #[.tmp a, .tmp b, .tmp c],gF⟩).operands.toList.all fun x=>(St.get ⟨n,tm,hp⟩ x).val?.isSome)=true:=by
   have RB:(Op.call ⟨.builtin .min, #[.tmp a, .tmp b, .tmp c],gF⟩).operands.toList=[.tmp a, .tmp b, .tmp c]:=rfl
   rw[RB]
   simp[fL,St.get,ha,hb,hc,V.val?,W.val?,C.val?]
  rw[if_pos hall]
  have:aH Tryz.prog (execOp (fun x=>((St.get ⟨n,tm,hp⟩ x).val?).getD undef) ⟨dst', .call ⟨.builtin .min, #[.tmp a, .tmp b, .tmp c],gF⟩,ty',pos',after',guard'⟩)=some (.value (.int .i64 (min (min x y) z))):=by
   simp[execOp,resolve,invoke,builtin,cW,St.get,ha,hb,hc,V.val?,W.val?,C.val?,En]
  rw[this]
  rfl
 simp only[aj,e,Option.map_some]
theorem RG {a b c q:Sp} {n1 n2 n3 m:Int} (h1:n1=bn.cr a b q) (h2:n2=bn.cr b c q) (h3:n3=bn.cr c a q) (h:0≤m↔0≤min (min n1 n2) n3):0≤m↔bn.yM a b c q:=by
 simp only[bn.yM];omega
theorem adA (s:Sp): ∃ts,Fn Tryz.prog 152 [eo s] [] (aL ts) []∧(aL ts).bL=true∧ze (¬gJ s) ts:=by
 refine ah Tryz.func152 ?_
 repeat' (conv=>whnf
          first
  |(refine au (fun h=>?_) (fun h=>?_))
  |(refine tv rfl rfl ?_;simp only[gJ];first|(simp;omega)|omega))
 all_goals (conv=>whnf)
theorem tJ (a b c:Sp) (ha:gJ a) (hb:gJ b) (hc:gJ c): ∃ts,Fn Tryz.prog 122 [eo a,eo b,eo c] [] (aL ts) []∧(aL ts).bL=true∧kZ (fun n=>n=bn.cr a b c) ts:=by
 refine ah Tryz.func122 ?_
 repeat' (conv=>whnf
          first
  |exact gi rfl rfl (crW ha hb hc))
 all_goals (conv=>whnf)
theorem RH (a b c q:Sp) (ha:gJ a) (hb:gJ b) (hc:gJ c) (hq:gJ q) (K0:0 < bn.cr a b c): ∃ts,Fn Tryz.prog 124 [oL 2 [eSp a,eSp b,eSp c],eo q] [] (aL ts) []∧(aL ts).bL=true∧kZ (fun n=>0≤n↔bn.yM a b c q) ts:=by
 have K0':0 < bn.cr (a.1,a.2) (b.1,b.2) (c.1,c.2):=K0
 refine ah Tryz.func124 ?_
 repeat' (conv=>whnf
          first
  |(refine au (fun h=>?_) (fun h=>?_))
  |(refine aF (fun h=>?_) (fun h=>?_))
  |(exfalso;omega)
  |(refine Exists.intro _ (And.intro rfl ?_))
  |(refine And.intro (by kernel_rfl) ?_)
  |(refine And.intro (by omega) ?_)
  |(refine ai rfl (adA (_,_)) ?_;rintro _ ⟨o,rfl,ho⟩)
  |(refine ai rfl (tJ (_,_) (_,_) (_,_) ha hb hc) ?_;rintro _ ⟨n,rfl,hn⟩)
  |(refine aC rfl (tJ (_,_) (_,_) (_,_) ha hb hq) ?_;rintro _ ⟨n1,rfl,h1⟩)
  |(refine aC rfl (tJ (_,_) (_,_) (_,_) hb hc hq) ?_;rintro _ ⟨n2,rfl,h2⟩)
  |(refine aC rfl (tJ (_,_) (_,_) (_,_) hc ha hq) ?_;rintro _ ⟨n3,rfl,h3⟩)
  |(refine L3 rfl rfl rfl ?_)
  |(exfalso;first|exact ho.1 (by assumption) hq|exact ho.1 (by assumption) ha|exact ho.1 (by assumption) hb|exact ho.1 (by assumption) hc)
  |exact gi rfl rfl (RG h1 h2 h3 (by omega)))
 all_goals (conv=>whnf)
abbrev LL (k:Nat) (zs:Lz):List Sp:=pts (zs.take k)
theorem gtk {k j i:Nat} {zs:Lz} {a b:Int} (hs:zs[0+j]? =some [tI a,tI b]) (hj:j < k) (hk:k≤zs.length) (e:j=i % k):bn.gt (LL k zs) i=(a,b):=by
 refine zU (k:=j) ?_ ?_
 · rw[Nat.zero_add]at hs
   rw[List.getElem?_take_of_lt hj];exact hs
 · rw[List.length_take,Nat.min_eq_left hk];exact e
def CA (k:Nat) (zs:Lz) (i:Int):Sp:=bn.gt (LL k zs) (i.toNat+k - 1)
def CB (k:Nat) (zs:Lz) (i:Int):Sp:=bn.gt (LL k zs) i.toNat
def CC (k:Nat) (zs:Lz) (i:Int):Sp:=bn.gt (LL k zs) (i.toNat+1)
def YS (k:Nat) (zs:Lz) (i:Int) (ts:List W):Prop:= ∃a b c d e f:Int,ts=[eo (a,b),eo (c,d),eo (e,f)]∧(a,b)=CA k zs i∧(c,d)=CB k zs i∧(e,f)=CC k zs i
theorem spA {k:Nat} {zs:Lz} {i a1 b1 a2 b2 a3 b3:Int} (hk:k≤zs.length) (zR:zs.length≤1000000) (sB:0≤i) (hi:i < (k:Int))
 (h1:zs[0+((IntKind.i64.wrap (IntKind.i64.wrap (i+(k:Int)) - 1)).tmod (k:Int)).toNat]? =some [tI a1,tI b1]) (h2:zs[0+i.toNat]? =some [tI a2,tI b2]) (h3:zs[0+((IntKind.i64.wrap (i+1)).tmod (k:Int)).toNat]? =some [tI a3,tI b3]):
 YS k zs i [eo (a1,b1),eo (a2,b2),eo (a3,b3)]:=by
 obtain⟨n,rfl⟩: ∃n:Nat,i=(n:Int):=⟨i.toNat,by omega⟩
 have e1:=ixM (i:=n) (n:=k) (by omega) (by omega)
 have e3:=WY (i:=n) (n:=k) (k:=1) (by omega) (by omega) (by omega) (by omega)
 have m1:=Nat.mod_lt (n+k - 1) (show 0 < k by omega)
 have m3:=Nat.mod_lt (n+1) (show 0 < k by omega)
 rw[e1]at h1
 have e3:((IntKind.i64.wrap ((n:Int)+1)).tmod (k:Int)).toNat=(n+1) % k:=e3
 rw[e3]at h3
 exact⟨_,_,_,_,_,_,rfl,(gtk (i:=((n:Int)).toNat+k - 1) h1 m1 hk (by simp)).symm,(gtk (i:=((n:Int)).toNat) h2 (by omega) hk (by rw[Nat.mod_eq_of_lt (by omega)])).symm,(gtk (i:=((n:Int)).toNat+1) h3 m3 hk (by simp)).symm⟩
theorem On (k:Nat) (zs:Lz) (hz:bG zs) (hk:k≤zs.length) (zR:zs.length≤1000000) (i:Int) (sB:0≤i) (hi:i < (k:Int)): ∃ts hout,Fn Tryz.prog 120 [oI i, .one (.ptr 0 1 0 0)] (R7 k zs) (aL ts) hout∧(fun ts hout=>hout=R7 k zs∧YS k zs i ts) ts hout:=by
 refine dD Tryz.func120 ?_
 repeat' (conv=>whnf
          first
  |(refine And.intro ⟨by omega,by omega⟩ ?_)
  |(refine And.intro ⟨bF (by rw[bh (n:=i+(k:Int)) (by omega) (by omega),bh (by omega) (by omega)];omega),bq (by omega)⟩ ?_)
  |(refine And.intro ⟨bF (by rw[bh (by omega) (by omega)];omega),bq (by omega)⟩ ?_)
  |(refine And.intro (show((k:Nat):Int)≠0 by omega) ?_)
  |(refine And.intro (by kernel_rfl) ?_)
  |(refine bJ (xs:=zs) (i:=0+((IntKind.i64.wrap (IntKind.i64.wrap (i+(k:Int)) - 1)).tmod (k:Int)).toNat) rfl hz (by have h1:=bq (a:=IntKind.i64.wrap (IntKind.i64.wrap (i+(k:Int)) - 1)) (b:=(k:Int)) (by omega);omega) ?_;rintro _ ⟨a1,b1,rfl⟩ hs1)
  |(refine bJ (xs:=zs) (i:=0+i.toNat) rfl hz (by omega) ?_;rintro _ ⟨a2,b2,rfl⟩ bW)
  |(refine bJ (xs:=zs) (i:=0+((IntKind.i64.wrap (i+1)).tmod (k:Int)).toNat) rfl hz (by have h2:=bq (a:=IntKind.i64.wrap (i+1)) (b:=(k:Int)) (by omega);omega) ?_;rintro _ ⟨a3,b3,rfl⟩ CU)
  |exact⟨_,_,_,rfl,rfl,F4 rfl rfl rfl,rfl,spA hk zR sB hi hs1 bW CU⟩)
 all_goals (conv=>whnf)
theorem BX {k:Nat} {zs:Lz} (hk:k≤zs.length):(LL k zs).length=k:=by rw[dS,List.length_take,Nat.min_eq_left hk]
theorem Lm {k:Nat} {zs:Lz} (hz:dw zs) (h0:0 < k) (hk:k≤zs.length) (i:Nat):gJ (bn.gt (LL k zs) i):=C7 (hz.take k) (by rw[List.length_take];omega) i
theorem CI {k:Nat} {zs:Lz} {i:Int} {a b c d e f:Int} (hz:dw zs) (h0:0 < k) (hk:k≤zs.length) (eA:(a,b)=CA k zs i) (eB:(c,d)=CB k zs i) (eC:(e,f)=CC k zs i):gJ (a,b)∧gJ (c,d)∧gJ (e,f):=by
 rw[eA,eB,eC];exact⟨Lm hz h0 hk _,Lm hz h0 hk _,Lm hz h0 hk _⟩
theorem V2 (k:Nat) (zs:Lz) (hz:dw zs) (hk:k≤zs.length) (zR:zs.length≤1000000) (i:Int) (sB:0≤i) (hi:i < (k:Int)): ∃ts hout,Fn Tryz.prog 121 [oI i, .one (.ptr 2 1 0 0)] (Bw k zs) (aL ts) hout∧(fun ts hout=>hout=Bw k zs∧ze (bn.cr (CA k zs i) (CB k zs i) (CC k zs i)=0) ts) ts hout:=by
 refine dD Tryz.func121 ?_
 repeat' (conv=>whnf
          first
  |(refine And.intro Ik ?_)
  |(refine iq [0,1] rfl (TV rfl rfl rfl rfl rfl) rfl (IE rfl rfl rfl rfl) (On k zs hz.wo hk zR i sB hi) ?_;rintro _ ⟨a,b,c,d,e,f,rfl,eA,eB,eC⟩;have hI:=CI hz (by omega) hk eA eB eC)
  |(refine ai rfl (tJ (_,_) (_,_) (_,_) hI.1 hI.2.1 hI.2.2) ?_;rintro _ ⟨n,rfl,hn⟩)
  |exact⟨_,_,_,rfl,rfl,ga rfl rfl rfl rfl,rfl,_,rfl,by rw[←eA, ←eB, ←eC, ←hn];simp⟩)
 all_goals (conv=>whnf)
def oG (k:Nat) (zs:Lz) (i:Int):Prop:=0 < bn.cr (CA k zs i) (CB k zs i) (CC k zs i)∧ ∀q,q∈LL k zs→bn.yM (CA k zs i) (CB k zs i) (CC k zs i) q→q=CA k zs i∨q=CB k zs i∨q=CC k zs i
def aiD (k:Nat) (zs:Lz) (a b c d e f:Int) (m:Nat) (vs:List V) (hq:HS):Prop:= ∃ (i:Nat) (rows:List (List C)),i≤k∧m=k - i∧vs=[iV .i64 (i:Int)]∧az rows zs∧
 hq=[(0, .row 1 [[.own 1 2 0 k]]),(1, .row 2 rows),(2, .row 1 [[.jx 120 [(0,1,0,0)]]]),(4, .row 2 [[.t (tI a), .t (tI b)]]),(8, .row 2 [[.t (tI c), .t (tI d)]]),(12, .row 2 [[.t (tI e), .t (tI f)]])]∧
 ∀q,q∈ (LL k zs).take i→bn.yM (a,b) (c,d) (e,f) q→q=(a,b)∨q=(c,d)∨q=(e,f)
section
variable {k j:Nat} {zs:Lz} {i a b c d e f x y n:Int}
theorem I1 (h:(!(x==a&& (y==b&&true)))=false):(x,y)=(a,b):=by
 simp only[Bool.and_true,Bool.not_eq_false',Bool.and_eq_true,beq_iff_eq]at h
 rw[h.1,h.2]
theorem I0 (h:(!(x==a&& (y==b&&true)))=true):(x,y)≠ (a,b):=by
 intro g
 simp only[Prod.mk.injEq]at g
 simp[g.1,g.2]at h
theorem PT (hk:k≤zs.length) (hj:(j:Int) < (k:Int)) (hs:zs[0+((j:Int)).toNat]? =some [tI x,tI y]):(LL k zs).take (j+1)=(LL k zs).take j++[(x,y)]:=by
 have:(zs.take k)[((j:Int)).toNat]? =some [tI x,tI y]:=by
  rw[Nat.zero_add]at hs
  rw[List.getElem?_take_of_lt (by omega)];exact hs
 exact Eo this
theorem M6 (hk:k≤zs.length) (hj:(j:Int) < (k:Int)) (hs:zs[0+((j:Int)).toNat]? =some [tI x,tI y]) (h: ∀q,q∈ (LL k zs).take j→bn.yM (a,b) (c,d) (e,f) q→q=(a,b)∨q=(c,d)∨q=(e,f))
 (h1:bn.yM (a,b) (c,d) (e,f) (x,y)→(x,y)=(a,b)∨(x,y)=(c,d)∨(x,y)=(e,f)): ∀q,q∈ (LL k zs).take (j+1)→bn.yM (a,b) (c,d) (e,f) q→q=(a,b)∨q=(c,d)∨q=(e,f):=by
 intro q hq
 rw[PT hk hj hs]at hq
 rcases List.mem_append.1 hq with hq|hq
 · exact h q hq
 · rw[List.mem_singleton.1 hq];exact h1
theorem fr0 (eA:(a,b)=CA k zs i) (eB:(c,d)=CB k zs i) (eC:(e,f)=CC k zs i) (hn:n=bn.cr (a,b) (c,d) (e,f)) (h:n≤0):¬oG k zs i:=fun g=>by
 have:=g.1
 rw[←eA, ←eB, ←eC]at this
 omega
theorem fr1 (hk:k≤zs.length) (eA:(a,b)=CA k zs i) (eB:(c,d)=CB k zs i) (eC:(e,f)=CC k zs i) (hj:(j:Int) < (k:Int)) (hs:zs[0+((j:Int)).toNat]? =some [tI x,tI y]) (h1:(!(x==a&& (y==b&&true)))=true) (h2:(!(x==c&& (y==d&&true)))=true) (h3:(!(x==e&& (y==f&&true)))=true)
 (h:bn.yM (a,b) (c,d) (e,f) (x,y)):¬oG k zs i:=fun g=>by
 have g2:=g.2 (x,y) (List.mem_of_mem_take (i:=j+1) (by rw[PT hk hj hs];simp))
 rw[←eA, ←eB, ←eC]at g2
 rcases g2 h with k|k|k
 · exact I0 h1 k
 · exact I0 h2 k
 · exact I0 h3 k
theorem fr2 (hk:k≤zs.length) (eA:(a,b)=CA k zs i) (eB:(c,d)=CB k zs i) (eC:(e,f)=CC k zs i) (hn:n=bn.cr (a,b) (c,d) (e,f)) (h0:¬n≤0) (hj:¬ (j:Int) < (k:Int)) (h: ∀q,q∈ (LL k zs).take j→bn.yM (a,b) (c,d) (e,f) q→q=(a,b)∨q=(c,d)∨q=(e,f)):oG k zs i:=by
 rw[List.take_of_length_le (by rw[BX hk];omega)]at h
 refine⟨by rw[←eA, ←eB, ←eC];omega,fun q hq=>?_⟩
 rw[←eA, ←eB, ←eC];exact h q hq
end
theorem V1 (k:Nat) (zs:Lz) (hz:dw zs) (hk:k≤zs.length) (zR:zs.length≤1000000) (i:Int) (sB:0≤i) (hi:i < (k:Int)): ∃ts hout,Fn Tryz.prog 123 [oI i, .one (.ptr 2 1 0 0), .one (.ptr 0 1 0 0)] (Bw k zs) (aL ts) hout∧(fun ts hout=>hout=Bw k zs∧ze (oG k zs i) ts) ts hout:=by
 refine dD Tryz.func123 ?_
 repeat' (conv=>whnf
          first
  |(refine au (fun h=>?_) (fun h=>?_))
  |(refine aF (fun h=>?_) (fun h=>?_))
  |(refine And.intro Ik ?_)
  |(refine And.intro ⟨by omega,by omega⟩ ?_)
  |(refine iq [0,1] rfl (TV rfl rfl rfl rfl rfl) rfl (IE rfl rfl rfl rfl) (On k zs hz.wo hk zR i sB hi) ?_;rintro _ ⟨a,b,c,d,e,f,rfl,eA,eB,eC⟩;have hI:=CI hz (by omega) hk eA eB eC)
  |(refine bJ (xs:=zs) hR hz (by omega) ?_;rintro _ ⟨x,y,rfl,hxy⟩ hs)
  |(refine Ax rfl rfl rfl ?_)
  |(refine ai rfl (tJ (_,_) (_,_) (_,_) hI.1 hI.2.1 hI.2.2) ?_;rintro _ ⟨n,rfl,hn⟩)
  |(refine ai rfl (RH (a,b) (c,d) (e,f) (_,_) hI.1 hI.2.1 hI.2.2 hxy (by rw[←hn];omega)) ?_;rintro _ ⟨n2,rfl,J5⟩)
  |exact⟨_,_,_,rfl,rfl,ga rfl rfl rfl rfl,rfl,_,rfl,iff_of_false (by decide) (fr0 eA eB eC hn (by assumption))⟩
  |exact⟨_,_,_,rfl,rfl,ga rfl rfl rfl hR,rfl,_,rfl,iff_of_false (by decide) (fr1 hk eA eB eC (by assumption) hs (by assumption) (by assumption) (by assumption) (J5.1 (by assumption)))⟩
  |exact⟨_,_,_,rfl,rfl,ga rfl rfl rfl hR,rfl,_,rfl,iff_of_true rfl (fr2 hk eA eB eC hn (by assumption) (by assumption) hall)⟩
  |(apply bX [5,6,7,22,23,24] [] [24] (aiD k zs a b c d e f) (k) [iV .i64 0];(conv=>whnf);exact⟨rfl,rfl,rfl,rfl⟩;exact rfl;exact rfl;exact⟨0,_,by omega,rfl,rfl,az.av (xs:=zs) rfl _,rfl,fun q hq=>by simp at hq⟩;rintro _ _ _ ⟨j,rows,hj,rfl,rfl,hR,rfl,hall⟩)
  |(refine ak [5,6,7,22,23,24] [] ?_;(conv=>whnf);exact⟨rfl,_,[_],⟨j+1,_,by omega,rfl,by rw[bh (by omega) (by omega)];rfl,hR.av _,rfl,M6 hk (by assumption) hs hall (by first|exact fun hh=>absurd (J5.2 hh) (by assumption)|exact fun _=> .inl (I1 (by assumption))|exact fun _=> .inr (.inl (I1 (by assumption)))|exact fun _=> .inr (.inr (I1 (by assumption))))⟩,rfl,rfl,by omega⟩))
 all_goals (conv=>whnf)
def YU (k:Nat) (Pd:Int→Prop) (ts:List W):Prop:= ∃r:Int,ts=[oI r]∧ -1≤r∧r < (k:Int)∧(r < 0→ ∀j:Nat,j < k→¬Pd (j:Int))∧(0≤r→Pd r)
def RFF (k:Nat) (zs:Lz) (Pd:Int→Prop) (m:Nat) (vs:List V) (hq:HS):Prop:= ∃ (i:Nat) (rows:List (List C)),i≤k∧m=k - i∧vs=[iV .i64 (i:Int)]∧az rows zs∧
 hq=[(0, .row 1 [[.own 1 2 0 k]]),(1, .row 2 rows),(2, .row 1 [[.jx 120 [(0,1,0,0)]]])]∧ ∀j:Nat,j < i→¬Pd (j:Int)
theorem FU {Pd:Int→Prop} {i:Nat} {b:Bool} (h: ∀j:Nat,j < i→¬Pd (j:Int)) (hb:b=true↔Pd (i:Int)) (h0:b=false): ∀j:Nat,j < i+1→¬Pd (j:Int):=fun j hj=>by
 by_cases e:j=i
 · subst e;exact fun g=>nf h0 (hb.2 g)
 · exact h j (by omega)
abbrev Iv (k:Nat) (zs:Lz) (i:Int):Prop:=bn.cr (CA k zs i) (CB k zs i) (CC k zs i)=0
theorem M9 (k:Nat) (zs:Lz) (hz:dw zs) (hk:k≤zs.length) (zR:zs.length≤1000000): ∃ts hout,Fn Tryz.prog 125 [oI k, .one (.jx 121 [(2,1,0,0)])] (Bw k zs) (aL ts) hout∧(fun ts hout=>hout=Bw k zs∧YU k (Iv k zs) ts) ts hout:=by
 refine dD Tryz.func125 ?_
 repeat' (conv=>whnf
          first
  |(refine au (fun h=>?_) (fun h=>?_))
  |(refine aF (fun h=>?_) (fun h=>?_))
  |(refine And.intro Ye ?_)
  |(refine iq [0,1,2] rfl (PD rfl rfl rfl hR rfl rfl rfl rfl) rfl (hi2 rfl rfl rfl hR rfl rfl) (V2 k zs hz hk zR (j:Int) (by omega) (by omega)) ?_;rintro _ ⟨b,rfl,hb⟩)
  |exact⟨_,_,_,rfl,rfl,ga rfl rfl rfl hR,rfl,_,rfl,by omega,by omega,fun hh=>by omega,fun _=>hb.1 (by assumption)⟩
  |exact⟨_,_,_,rfl,rfl,ga rfl rfl rfl hR,rfl,_,rfl,by omega,by omega,fun _ j' hj'=>hno j' (by omega),fun hh=>by omega⟩
  |(apply bX [1,6,7] [] [7] (RFF k zs (Iv k zs)) (k) [iV .i64 0];(conv=>whnf);exact⟨rfl,rfl,rfl,rfl⟩;exact rfl;exact rfl;exact⟨0,_,by omega,rfl,rfl,az.av (xs:=zs) rfl _,rfl,fun j hj=>by omega⟩;rintro _ _ _ ⟨j,rows,hj,rfl,rfl,hR,rfl,hno⟩)
  |(refine ak [1,6,7] [] ?_;(conv=>whnf);exact⟨rfl,_,[_],⟨j+1,_,by omega,rfl,by rw[bh (by omega) (by omega)];rfl,hR.av _,rfl,FU hno hb (by assumption)⟩,rfl,rfl,by omega⟩))
 all_goals (conv=>whnf)
theorem M8 (k:Nat) (zs:Lz) (hz:dw zs) (hk:k≤zs.length) (zR:zs.length≤1000000): ∃ts hout,Fn Tryz.prog 125 [oI k, .one (.jx 123 [(2,1,0,0),(0,1,0,0)])] (Bw k zs) (aL ts) hout∧(fun ts hout=>hout=Bw k zs∧YU k (oG k zs) ts) ts hout:=by
 refine dD Tryz.func125 ?_
 repeat' (conv=>whnf
          first
  |(refine au (fun h=>?_) (fun h=>?_))
  |(refine aF (fun h=>?_) (fun h=>?_))
  |(refine And.intro Yd ?_)
  |(refine iq [0,1,2] rfl (PD rfl rfl rfl hR rfl rfl rfl rfl) rfl (hi2 rfl rfl rfl hR rfl rfl) (V1 k zs hz hk zR (j:Int) (by omega) (by omega)) ?_;rintro _ ⟨b,rfl,hb⟩)
  |exact⟨_,_,_,rfl,rfl,ga rfl rfl rfl hR,rfl,_,rfl,by omega,by omega,fun hh=>by omega,fun _=>hb.1 (by assumption)⟩
  |exact⟨_,_,_,rfl,rfl,ga rfl rfl rfl hR,rfl,_,rfl,by omega,by omega,fun _ j' hj'=>hno j' (by omega),fun hh=>by omega⟩
  |(apply bX [1,6,7] [] [7] (RFF k zs (oG k zs)) (k) [iV .i64 0];(conv=>whnf);exact⟨rfl,rfl,rfl,rfl⟩;exact rfl;exact rfl;exact⟨0,_,by omega,rfl,rfl,az.av (xs:=zs) rfl _,rfl,fun j hj=>by omega⟩;rintro _ _ _ ⟨j,rows,hj,rfl,rfl,hR,rfl,hno⟩)
  |(refine ak [1,6,7] [] ?_;(conv=>whnf);exact⟨rfl,_,[_],⟨j+1,_,by omega,rfl,by rw[bh (by omega) (by omega)];rfl,hR.av _,rfl,FU hno hb (by assumption)⟩,rfl,rfl,by omega⟩))
 all_goals (conv=>whnf)
end Go.aT.Cd
end
section
namespace Go.aT.Cd
open Go Go.Proofs
set_option maxRecDepth 100000
set_option maxHeartbeats 4000000
theorem Fy {P:Program} {d s t1 t2 ty e id sz i len ctr:Nat} {tm:TS} {hp:HS} {c:C} {rows:List (List C)} {xs ys:Lz} {K:V→HS→Prop}
 (hd:find tm d=some (.w (.one (.own id sz i len)))) (hs:find tm s=some (.w (.one c))) (hn:isNil c=false) (he:elems hp c=some (sz,tr ys))
 (ht:P.underlying t1=some (.slice e)) (hz:cF P e=some sz) (hf:find hp id=some (.row sz rows)) (hR:az rows xs) (hl:i+len≤xs.length)
 (h0:(ys.take len).length=0→ ∀n,K (iV .i64 n) hp) (hk: ∀n,K (iV .i64 n) (jN hp id (.row sz (tr (aR xs i (ys.take len)))))):
 ∃v aG,YW P (.call ⟨.builtin .copy, #[.tmp d, .tmp s], #[t1,t2]⟩) ty tm hp ctr v aG∧K v aG:=by
 have C6:rows=tr xs:=hR
 subst C6
 by_cases hc:(ys.take len).length=0
 · refine⟨_,hp,⟨fun get=>rfl,?_⟩,h0 hc 0⟩
   rintro n ⟨dst',op',ty',pos',after',guard'⟩ rfl rfl
   simp only[aj,St.get,hd,hs,Option.getD_some,dV,ht,hz,hn,he,Bool.false_eq_true,if_false,oJ,mh,hc,if_true]
   rfl
 · refine⟨_,_,⟨fun get=>rfl,?_⟩,hk ((ys.take len).length:Nat)⟩
   rintro n ⟨dst',op',ty',pos',after',guard'⟩ rfl rfl
   have hl':True∧True∧True∧i+len≤xs.length:=⟨trivial,trivial,trivial,hl⟩
   simp only[aj,St.get,hd,hs,Option.getD_some,dV,ht,hz,hn,he,hf,Bool.false_eq_true,if_false,oJ,mh,hc,sI]
   rw[if_pos hl']
   rfl
def Fi (m:Nat) (vs:List V) (hq:HS):Prop:= ∃ (k:Nat) (zs rs:Lz) (rl rr:List (List C)),m=k∧(k≤zs.length∧zs.length≤40)∧(dw zs∧bn.Good (LL k zs))∧rs.length+k≤40∧BV rs∧az rr rs∧az rl zs∧vs=[bD 12 1 rs.length]∧
 hq=[(4, .row 1 [[.own 16 2 0 k]]),(8, .row 1 [[.jx 120 [(4,1,0,0)]]]),(12, .row 1 rr),(16, .row 2 rl)]
theorem Fi.next {k q:Nat} {zs rs:Lz} {rl rr:List (List C)} (h4:(k:Int) > 3) (hk:k≤zs.length∧zs.length≤40) (hz:dw zs∧bn.Good (LL (k - 1) zs)) (hn:rs.length+(k - 1)≤40) (ht:BV rs) (h1:az rr rs) (h2:az rl zs) (hq:q=rs.length):
 Fi (k - 1) [bD 12 1 q] [(4, .row 1 [[.own 16 2 0 ((IntKind.i64.wrap ((k:Int) - 1)).toNat - 0)]]),(8, .row 1 [[.jx 120 [(4,1,0,0)]]]),(12, .row 1 rr),(16, .row 2 rl)]:=by
 have e:(IntKind.i64.wrap ((k:Int) - 1)).toNat - 0=k - 1:=by rw[bh (by omega) (by omega)];omega
 rw[e,hq]
 exact⟨k - 1,zs,rs,rl,rr,rfl,by omega,hz,hn,ht,h1,h2,rfl,rfl⟩
theorem nAB {k j:Nat} {zs:Lz} (hk:k≤zs.length) (hj:j < k):bn.nA (LL k zs) j=CA k zs (j:Int)∧bn.nB (LL k zs) j=CB k zs (j:Int)∧bn.nC (LL k zs) j=CC k zs (j:Int):=by
 simp only[bn.nA,bn.nB,bn.nC,CA,CB,CC,bn.gt,BX hk,show((j:Int)).toNat=j by omega,Nat.mod_eq_of_lt hj,and_self]
theorem QY {k:Nat} {zs:Lz} (hG:bn.Good (LL k zs)) (hk:k≤zs.length) (h: ∀j:Nat,j < k→¬oG k zs (j:Int)):False:=by
 obtain⟨j,h1,h2,h3⟩:=hG.has
 rw[BX hk]at h1
 obtain⟨e1,e2,e3⟩:=nAB hk h1
 rw[e1,e2,e3]at h2 h3
 exact h j h1 ⟨h2,h3⟩
section
variable {k:Nat} {zs:Lz} {r:Int}
theorem FP (h4:(k:Int) > 3) (hk:k≤zs.length) (hG:bn.Good (LL k zs)) (h0:¬r < 0) (h1:r < (k:Int)) (h:Iv k zs r∨oG k zs r):bn.Good ((LL k zs).take r.toNat++(LL k zs).drop (r.toNat+1)):=by
 obtain⟨n,rfl⟩: ∃n:Nat,r=(n:Int):=⟨r.toNat,by omega⟩
 obtain⟨e1,e2,e3⟩:=nAB (j:=n) hk (by omega)
 have hl:=BX hk
 rw[show((n:Int)).toNat=n by omega]
 rcases h with h|h
 · exact hG.str (by omega) (i:=n) (by omega) (by rw[e1,e2,e3];exact h)
 · exact hG.free (by omega) (i:=n) (by omega) (by rw[e1,e2,e3];exact h.1) (fun q hq=>by rw[e1,e2,e3];exact h.2 q hq)
theorem Ln (n:Nat):(LL k zs).take n++(LL k zs).drop (n+1)=pts ((zs.take k).take n++(zs.take k).drop (n+1)):=by simp[pts]
theorem wr1 (h0:¬r < 0) (h1:r < (k:Int)) (hk:k≤zs.length∧zs.length≤40):(IntKind.i64.wrap (r+1)).toNat=r.toNat+1:=by rw[bh (by omega) (by omega)];omega
theorem VY (h4:(k:Int) > 3) (hk:k≤zs.length∧zs.length≤40) (hz:dw zs∧bn.Good (LL k zs)) (h0:¬r < 0) (h1:r < (k:Int)) (h:Iv k zs r∨oG k zs r) (he:k=(IntKind.i64.wrap (r+1)).toNat):dw zs∧bn.Good (LL (k - 1) zs):=by
 rw[wr1 h0 h1 hk]at he
 have g:=FP h4 hk.1 hz.2 h0 h1 h
 rw[Ln]at g
 have e:(zs.take k).take r.toNat++(zs.take k).drop (r.toNat+1)=zs.take (k - 1):=by
  rw[List.drop_of_length_le (by simp;omega),List.append_nil,List.take_take]
  congr 1;omega
 rw[e]at g
 exact⟨hz.1,g⟩
theorem Zh (hk:k≤zs.length∧zs.length≤40) (h0:¬r < 0) (h1:r < (k:Int)) (hne:k≠ (IntKind.i64.wrap (r+1)).toNat) (hc:(((((zs.drop (0+(IntKind.i64.wrap (r+1)).toNat)).take (k - (IntKind.i64.wrap (r+1)).toNat))).take (k - r.toNat))).length=0):False:=by
 rw[wr1 h0 h1 hk]at hne hc
 simp only[List.length_take,List.length_drop]at hc
 omega
theorem Zg (h4:(k:Int) > 3) (hk:k≤zs.length∧zs.length≤40) (hz:dw zs∧bn.Good (LL k zs)) (h0:¬r < 0) (h1:r < (k:Int)) (h:Iv k zs r∨oG k zs r):
 dw (aR zs (0+r.toNat) (((((zs.drop (0+(IntKind.i64.wrap (r+1)).toNat)).take (k - (IntKind.i64.wrap (r+1)).toNat))).take (k - r.toNat))))∧bn.Good (LL (k - 1) (aR zs (0+r.toNat) (((((zs.drop (0+(IntKind.i64.wrap (r+1)).toNat)).take (k - (IntKind.i64.wrap (r+1)).toNat))).take (k - r.toNat))))):=by
 rw[wr1 h0 h1 hk]
 refine⟨fun e he=>?_,?_⟩
 · rcases wq he with he|he
   · exact hz.1 e he
   · exact hz.1 e (List.mem_of_mem_drop (List.mem_of_mem_take (List.mem_of_mem_take he)))
 · have g:=FP h4 hk.1 hz.2 h0 h1 h
   rw[Ln]at g
   have e:(zs.take k).take r.toNat++(zs.take k).drop (r.toNat+1)=(aR zs (0+r.toNat) (((zs.drop (0+(r.toNat+1))).take (k - (r.toNat+1))).take (k - r.toNat))).take (k - 1):=by
    have e1:(zs.drop (0+(r.toNat+1))).take (k - (r.toNat+1))=(zs.take k).drop (r.toNat+1):=by rw[Nat.zero_add,List.drop_take]
    have e2:((zs.take k).drop (r.toNat+1)).take (k - r.toNat)=(zs.take k).drop (r.toNat+1):=List.take_of_length_le (by simp;omega)
    rw[e1,e2]
    unfold aR
    rw[Nat.zero_add,List.append_assoc, ←List.append_assoc,List.take_append,List.take_take]
    have l1:(zs.take r.toNat++(zs.take k).drop (r.toNat+1)).length=k - 1:=by simp;omega
    rw[l1,Nat.sub_self,List.take_zero,List.append_nil,Nat.min_eq_left (by omega),List.take_of_length_le (Nat.le_of_eq l1)]
   rw[e]at g
   exact g
theorem Zf (h4:(k:Int) > 3) (hk:k≤zs.length∧zs.length≤40) (hz:dw zs∧bn.Good (LL k zs)) (h0:¬r < 0) (h1:r < (k:Int)) (h:Iv k zs r∨oG k zs r) (he:k=(IntKind.i64.wrap (r+1)).toNat):
 dw (aR zs (0+r.toNat) ([].take (k - r.toNat)))∧bn.Good (LL (k - 1) (aR zs (0+r.toNat) ([].take (k - r.toNat)))):=by
 have e:aR zs (0+r.toNat) ([].take (k - r.toNat))=zs:=by simp[aR]
 rw[e];exact VY h4 hk hz h0 h1 h he
theorem sx9 {form:Lz} (h:dw form∧form.length≤40∧bn.Good (pts form)):dw (aR (List.replicate ((form.length:Nat):Int).toNat [tI 0,tI 0]) 0 (form.take ((form.length:Nat):Int).toNat))∧bn.Good (LL ((form.length:Nat):Int).toNat (aR (List.replicate ((form.length:Nat):Int).toNat [tI 0,tI 0]) 0 (form.take ((form.length:Nat):Int).toNat))):=by
 have e0:((form.length:Nat):Int).toNat=form.length:=by omega
 have e:aR (List.replicate form.length [tI 0,tI 0]) 0 (form.take form.length)=form:=by simp[aR]
 rw[e0,e]
 refine⟨h.1,?_⟩
 rw[show LL form.length form=pts form by simp[LL]]
 exact h.2.2
end
def GTs (xs:Lz) (ts:List W):Prop:= ∃rs e,ts=[oL 1 rs,oI e]∧(e=0↔iO xs)∧(e=0→BV rs∧rs.length≤41)
theorem Qw (xs:Lz) (hx:bG xs) (hl:xs.length≤1000000): ∃ts,Fn Tryz.prog 90 [oL 2 xs] [] (aL ts) []∧(aL ts).bL=true∧GTs xs ts:=by
 refine aJ ?_
 refine ah Tryz.func90 ?_
 repeat' (conv=>whnf
          first
  |(refine au (fun h=>?_) (fun h=>?_))
  |(refine ca (fun h=>?_) (fun h=>?_))
  |(refine And.intro ⟨by omega,by omega,by have:=(hF (by omega)).2.1;omega,by have:=(hF (by omega)).2.1;omega⟩ ?_)
  |(refine And.intro Ik ?_)
  |(refine And.intro ⟨h1.len.symm,by rw[h1.len];simp[aW];omega,by rw[h1.len];simp[maxLen];omega⟩ ?_)
  |(refine And.intro (show(0:Int)≤IntKind.i64.wrap (r+1) by rw[bh (by omega) (by omega)];omega) ?_)
  |(refine And.intro (show(0:Int)≤IntKind.i64.wrap ((k:Int) - 1) by rw[bh (by omega) (by omega)];omega) ?_)
  |(refine And.intro (show(0:Int)≤r by omega) ?_)
  |(refine lX (l:=r.toNat) (by omega) (Nat.le_refl _) (.inl (by omega)) ?_)
  |(refine lX (l:=0) (Nat.zero_le _) (by rw[bh (by omega) (by omega)];omega) (.inr rfl) ?_)
  |(refine Fx (by rw[bh (by omega) (by omega)];omega) (Nat.le_refl _) (fun hne=>?_) (fun heq F6=>?_) (fun heq F6=>by omega))
  |(refine And.intro (by kernel_rfl) ?_)
  |(refine ai rfl (Mz xs hx hl) ?_;rintro _ ⟨form,e,rfl,hP,hF⟩)
  |(refine D6 (ys:=form) rfl rfl rfl rfl Qn Ty rfl (az.replicate _ [tI 0,tI 0]) (by simp) ?_)
  |(refine iq [4,16,8] rfl (PD rfl rfl rfl h2 rfl rfl rfl rfl) rfl (hi2 rfl rfl rfl h2 rfl rfl) (M9 k zs hz.1 hk.1 (by omega)) ?_;rintro _ ⟨r,rfl,td,kC,TF,pP⟩)
  |(refine iq [4,16,8] rfl (PD rfl rfl rfl h2 rfl rfl rfl rfl) rfl (hi2 rfl rfl rfl h2 rfl rfl) (M8 k zs hz.1 hk.1 (by omega)) ?_;rintro _ ⟨r,rfl,td,kC,TF,pP⟩)
  |(refine iq [4,16] rfl (TV rfl rfl h2 rfl rfl) rfl (IE rfl rfl h2 rfl) (Mg k zs hz.1.wo hk.1 (by omega) r (by omega) (by omega)) ?_;rintro _ ⟨a,b,c,d,e,f,rfl⟩)
  |(refine Ax rfl rfl rfl ?_)
  |(refine Fy rfl rfl rfl (z8 rfl h2 (by rw[bh (by omega) (by omega)];omega)) Qn Ty rfl h2 (by omega) (fun hc0 n=>?_) (fun n=>?_))
  |(refine Fy (ys:=[]) rfl rfl rfl rfl Qn Ty rfl h2 (by omega) (fun hc0 n=>?_) (fun n=>?_))
  |exact dg rfl (bR 1 rfl) (bS rfl) ⟨_,_,rfl,iff_of_false (by assumption) (fun g=>absurd (hP.2 g) (by assumption)),fun h0=>absurd h0 (by assumption)⟩
  |exact(QY hz.2 hk.1 (TF (by omega))).elim
  |exact dg rfl (Jm rfl rfl (rs:=rs) (zs:=zs) (by rw[show rr=tr rs from h1];rfl) (by rw[h1.len];rfl) rfl h2 hk.1 rfl) (bS rfl) ⟨_,_,rfl,iff_of_true rfl (hP.1 (by assumption)),fun _=>⟨ht.snoc (hz.1.wo.take _) (by simp;omega),by simp;omega⟩⟩
  |(apply ij [6,7,8,9,10] [(6,0)] [10] (Fi) (form.length) [bD 12 1 0] (dK.jq 10 1 rfl);(conv=>whnf);exact⟨rfl,rfl,rfl,rfl⟩;exact rfl;exact rfl;exact⟨((form.length:Nat):Int).toNat,_,[],_,_,by omega,⟨by rw[Gm (hF (by omega)).2.1];omega,by rw[Gm (hF (by omega)).2.1];exact(hF (by omega)).2.1⟩,sx9 (hF (by omega)),by have:=(hF (by omega)).2.1;simp;omega,fun e he=>by simp at he,az.av az.nil _,az.av (xs:=aR (List.replicate _ [tI 0,tI 0]) 0 _) rfl _,rfl,rfl⟩;rintro _ _ _ ⟨k,zs,rs,rl,rr,hmk,hk,hz,hn,ht,h1,h2,rfl,rfl⟩)
  |(refine ak [6,7,8,9,10] [(6,0)] ?_;(conv=>whnf);first|exact⟨rfl,_,[_],Fi.next (by omega) hk (by first|exact VY (by assumption) hk hz (by assumption) kC (by first|exact .inl (pP (by omega))|exact .inr (pP (by omega))) (by assumption)|exact Zg (by assumption) hk hz (by assumption) kC (by first|exact .inl (pP (by omega))|exact .inr (pP (by omega)))|exact Zf (by assumption) hk hz (by assumption) kC (by first|exact .inl (pP (by omega))|exact .inr (pP (by omega))) (by assumption)|exact(Zh hk (by assumption) kC (by assumption) hc0).elim) (by omega) ht (h1.av _) (h2.av _) rfl,rfl,rfl,by omega⟩|exact⟨rfl,_,[_],Fi.next (by omega) hk (by first|exact VY (by assumption) hk hz (by assumption) kC (by first|exact .inl (pP (by omega))|exact .inr (pP (by omega))) (by assumption)|exact Zg (by assumption) hk hz (by assumption) kC (by first|exact .inl (pP (by omega))|exact .inr (pP (by omega)))|exact Zf (by assumption) hk hz (by assumption) kC (by first|exact .inl (pP (by omega))|exact .inr (pP (by omega))) (by assumption)|exact(Zh hk (by assumption) kC (by assumption) hc0).elim) (by simp;omega) (ht.snoc (G1 _ _ _ _ _ _) (by simp)) ((az.snoc h1 [.aB 2 [[tI _,tI _],[tI _,tI _],[tI _,tI _]]]).av _) (h2.av _) (by have:=h1.len;simp;omega),rfl,rfl,by omega⟩|exact⟨rfl,_,[_],Fi.next (by omega) (zq hk (by omega)) (by first|exact VY (by assumption) hk hz (by assumption) kC (by first|exact .inl (pP (by omega))|exact .inr (pP (by omega))) (by assumption)|exact Zg (by assumption) hk hz (by assumption) kC (by first|exact .inl (pP (by omega))|exact .inr (pP (by omega)))|exact Zf (by assumption) hk hz (by assumption) kC (by first|exact .inl (pP (by omega))|exact .inr (pP (by omega))) (by assumption)|exact(Zh hk (by assumption) kC (by assumption) hc0).elim) (by omega) ht (h1.av _) (az.av (xs:=aR zs _ _) rfl _) rfl,rfl,rfl,by omega⟩|exact⟨rfl,_,[_],Fi.next (by omega) (zq hk (by omega)) (by first|exact VY (by assumption) hk hz (by assumption) kC (by first|exact .inl (pP (by omega))|exact .inr (pP (by omega))) (by assumption)|exact Zg (by assumption) hk hz (by assumption) kC (by first|exact .inl (pP (by omega))|exact .inr (pP (by omega)))|exact Zf (by assumption) hk hz (by assumption) kC (by first|exact .inl (pP (by omega))|exact .inr (pP (by omega))) (by assumption)|exact(Zh hk (by assumption) kC (by assumption) hc0).elim) (by simp;omega) (ht.snoc (G1 _ _ _ _ _ _) (by simp)) ((az.snoc h1 [.aB 2 [[tI _,tI _],[tI _,tI _],[tI _,tI _]]]).av _) (az.av (xs:=aR zs _ _) rfl _) (by have:=h1.len;simp;omega),rfl,rfl,by omega⟩))
 all_goals (conv=>whnf)
end Go.aT.Cd
end
section
namespace Go.aT.Cd
open Go Go.Proofs
set_option maxRecDepth 100000
class Aq:Type 1 where
 pk: {α:Type}→[Inhabited α]→FuncId→List W→(α→List W)→(α→Prop)→α
 ok: ∀ {α:Type} [Inhabited α] {f:FuncId} {args:List W} {enc:α→List W} {Q:α→Prop},(∃a,Fn Tryz.prog f args [] (aL (enc a)) []∧(aL (enc a)).bL=true∧Q a)→
  Fn Tryz.prog f args [] (aL (enc (pk f args enc Q))) []∧(aL (enc (pk f args enc Q))).bL=true∧Q (pk f args enc Q)
open Classical in
theorem QR:Nonempty Aq:=by
 refine⟨⟨fun f args enc Q=>if h: ∃a,Fn Tryz.prog f args [] (aL (enc a)) []∧(aL (enc a)).bL=true∧Q a then h.choose else default,?_⟩⟩
 intro α _ f args enc Q h
 rw[dif_pos h]
 exact h.choose_spec
variable [Aq]
def pk {α:Type} [Inhabited α] (f:FuncId) (args:List W) (enc:α→List W) (Q:α→Prop):α:=Aq.pk f args enc Q
theorem ue {α:Type} [Inhabited α] {f:FuncId} {args:List W} {enc:α→List W} {Q:α→Prop} (h: ∃a,Fn Tryz.prog f args [] (aL (enc a)) []∧(aL (enc a)).bL=true∧Q a):
 ∃ts,Fn Tryz.prog f args [] (aL ts) []∧(aL ts).bL=true∧(ts=enc (pk f args enc Q)∧Q (pk f args enc Q)):=
 ⟨_,(Aq.ok h).1,(Aq.ok h).2.1,rfl,(Aq.ok h).2.2⟩
end Go.aT.Cd
end
section
namespace Go.aT.Cd
open Go Go.Proofs
set_option maxRecDepth 100000
set_option maxHeartbeats 1000000
abbrev uJ (r f t a:Int):List T:=[tI r,tI f,tI t,tI a]
abbrev DQ (r f t a:Int):W:= .agg [.t (tI r), .t (tI f), .t (tI t), .t (tI a)]
def aiM (e:List T):Prop:= ∃a b c d,e=[tI a,tI b,tI c,tI d]
abbrev Ao (xs:Lz):Prop:= ∀e,e∈xs→aiM e
abbrev oRl (id:ByteArray) (w l a b c:Int) (fl:Lz):W:= .agg [.t (.val (.string id)), .t (tI w), .t (tI l), .t (tI a), .t (tI b), .t (tI c), .t (.aB 4 fl)]
def aiL (e:List T):Prop:= ∃id w l a b c fl,e=[.val (.string id),tI w,tI l,tI a,tI b,tI c, .aB 4 fl]∧id.size≤maxLen∧Ao fl∧fl.length≤maxLen
abbrev Fh (xs:Lz):Prop:= ∀e,e∈xs→aiL e
def rR (e:List T):Int:=IntKind.i64.wrap (IntKind.i64.wrap (nI 3 e+nI 2 e) - nI 1 e)
theorem nF (r f t a:Int):Tg 62 [DQ r f t a] (kZ (fun n=>n=rR (uJ r f t a))):=by
 refine ah Tryz.func62 ?_
 repeat' (conv=>whnf
          first
  |exact gi rfl rfl rfl)
 all_goals (conv=>whnf)
abbrev IsC (n:Int):Prop:=0≤n∧n≤1048576
theorem j5 (n:Int):Tg 93 [oI n] (ze (IsC n)):=by
 refine ah Tryz.func93 ?_
 repeat' (conv=>whnf
          first
  |(refine au (fun h=>?_) (fun h=>?_))
  |(refine tv rfl rfl ?_;first|(rw[decide_eq_true_eq];omega)|(refine iff_of_false (by decide) ?_;omega)))
 all_goals (conv=>whnf)
def Lw (p:List T) (x w:Int):Prop:=(IsC (nI 3 p)∧IsC (nI 1 p)∧IsC (nI 2 p))∧nI 3 p≤x∧IntKind.i64.wrap (x+w)≤rR p
theorem xF (r f t a x y w h:Int):Tg 69 [DQ r f t a,DQ x y w h] (ze (Lw (uJ r f t a) x w)):=by
 refine ah Tryz.func69 ?_
 repeat' (conv=>whnf
          first
  |(refine au (fun h=>?_) (fun h=>?_))
  |(refine aF (fun h=>?_) (fun h=>?_))
  |(refine ai rfl (j5 a) ?_;rintro _ ⟨b1,rfl,h1⟩)
  |(refine ai rfl (j5 f) ?_;rintro _ ⟨b2,rfl,h2⟩)
  |(refine ai rfl (j5 t) ?_;rintro _ ⟨b3,rfl,h3⟩)
  |(refine tv rfl rfl ?_;simp only[Lw,rR,nI];first|(refine iff_of_false (by decide) (fun g=>?_);first|exact nf (by assumption) (h1.2 g.1.1)|exact nf (by assumption) (h2.2 g.1.2.1)|exact nf (by assumption) (h3.2 g.1.2.2)|exact absurd g.2.1 (by assumption))|(rw[decide_eq_true_eq];exact⟨fun g=>⟨⟨h1.1 (by assumption),h2.1 (by assumption),h3.1 (by assumption)⟩,by assumption,g⟩,fun g=>g.2.2⟩)))
 all_goals (conv=>whnf)
theorem aRc:ju Tryz.prog 152=some true:=by kernel_rfl
theorem zRc:cF Tryz.prog 152=some 4:=by kernel_rfl
def GBx (xs:Lz) (ts:List W):Prop:= ∃a b c d e,ts=[DQ a b c d,oI e]∧(e=0↔iO xs)∧(e=0→(-1048576≤a∧a≤1048576)∧0≤c∧c≤2097152)
def RBx (xs:Lz) (m:Nat) (vs:List V) (xss:List (Lz)):Prop:= ∃ (i:Nat) (a b c d:Int),i≤xs.length∧m=xs.length - i∧vs=[iV .i64 (i:Int)]∧xss=[[[tI 0,tI 0,tI 0,tI 0]],[[tI a,tI b]],[[tI c,tI d]]]∧(-1048576≤a∧a≤c∧c≤1048576)
theorem RBx.next {xs:Lz} {i:Nat} {a b c d a2 c2 x y:Int} (hi:(i:Int) < (xs.length:Int)) (hl:xs.length≤1000000) (hac: -1048576≤a2∧a2≤c2∧c2≤1048576) (hx:gJ (x,y)) (ha:a=if x < a2 then x else a2) (hc:c=if x > c2 then x else c2):RBx xs (xs.length - (i+1)) [iV .i64 (IntKind.i64.wrap ((i:Int)+1))] [[[tI 0,tI 0,tI 0,tI 0]],[[tI a,tI b]],[[tI c,tI d]]]:=by
 simp only[gJ]at hx
 refine⟨i+1,_,_,_,_,by omega,rfl,by rw[bh (by omega) (by omega)];rfl,rfl,?_⟩
 have e1:a=min x a2:=by rw[ha];omega
 have e2:c=max x c2:=by rw[hc];omega
 omega
theorem bx0 {xs:Lz} {a b c d:Int} (h1:xs[Int.toNat 0]? =some [tI a,tI b]) (h2:xs[Int.toNat 0]? =some [tI c,tI d]) (h:gJ (c,d)): -1048576≤a∧a≤c∧c≤1048576:=by
 rw[h1]at h2
 simp only[Option.some.injEq,List.cons.injEq,T.val.injEq,Value.int.injEq,true_and,and_true]at h2
 simp only[gJ]at h
 omega
theorem Cp (xs:Lz) (hx:bG xs) (hl:xs.length≤1000000):Tg 68 [oL 2 xs] (GBx xs):=by
 refine aJ ?_
 refine ah Tryz.func68 ?_
 repeat' (conv=>whnf
          first
  |(refine au (fun h=>?_) (fun h=>?_))
  |(refine ca (fun h=>?_) (fun h=>?_))
  |(have aeZ:=hs0;have h9:=(hP.1 (by assumption)).n3;refine aq (xs:=xs) (n:=0) (hP.1 (by assumption)).ie (by omega) (by omega) ?_;rintro _ ⟨a0,b0,rfl,h0i⟩ hs0)
  |(have h9:=(hP.1 (by assumption)).n3;refine aq (xs:=xs) (n:=0) (hP.1 (by assumption)).ie (by omega) (by omega) ?_;rintro _ ⟨a0,b0,rfl,h0i⟩ hs0)
  |(refine aq (xs:=xs) (hP.1 (by assumption)).ie (by omega) (by omega) ?_;rintro _ ⟨a1,b1,rfl,h1i⟩ hs1)
  |(refine And.intro (by kernel_rfl) ?_)
  |(refine ai rfl (nV xs hx hl) ?_;rintro _ ⟨e,rfl,hP⟩)
  |exact dg rfl (bE aRc zRc rfl rfl (Nat.le_refl _) rfl (cS.refl _)) (bS rfl) ⟨_,_,_,_,_,rfl,iff_of_false (by assumption) (fun g=>absurd (hP.2 g) (by assumption)),fun h=>absurd h (by assumption)⟩
  |exact dg rfl (bE aRc zRc rfl rfl (Nat.le_refl _) rfl (cS.refl _)) (bS rfl) ⟨_,_,_,_,_,rfl,iff_of_true rfl (hP.1 (by assumption)),fun _=>by rw[bh (by omega) (by omega)];omega⟩
  |(apply bp [2,5,6,21,22,23] [] [23] [(4,4),(8,2),(12,2)] (RBx xs) (xs.length) [iV .i64 0];(conv=>whnf);exact⟨rfl,rfl,rfl,rfl⟩;exact rfl;exact rfl;exact .cons (az.av (xs:=[[tI 0,tI 0,tI 0,tI 0]]) rfl _) (.cons (az.av (xs:=[[tI _,tI _]]) rfl _) (.cons (az.av (xs:=[[tI _,tI _]]) rfl _) .nil));exact⟨0,_,_,_,_,by omega,rfl,rfl,rfl,bx0 aeZ hs0 h0i⟩;rintro _ _ _ ⟨i,a,b,c,d,hi,rfl,rfl,rfl,hac⟩)
  |(refine ak [2,5,6,21,22,23] [] ?_;(conv=>whnf);exact⟨rfl,_,[_],_, .cons (az.av (xs:=[[tI 0,tI 0,tI 0,tI 0]]) rfl _) (.cons (az.av (xs:=[[tI _,tI _]]) rfl _) (.cons (az.av (xs:=[[tI _,tI _]]) rfl _) .nil)),RBx.next (by assumption) hl hac h1i rfl rfl,rfl,rfl,by omega⟩))
 all_goals (conv=>whnf)
def aiX (ts:List W):Prop:= ∃a b c,ts=[oI a,oI b,oB c]
theorem ru (a l:Int):Tg 91 [oI a,oI l] aiX:=by
 refine aJ ?_
 refine ah Tryz.func91 ?_
 repeat' (conv=>whnf
          first
  |(refine au (fun h=>?_) (fun h=>?_))
  |exact H6 rfl (bS rfl) (bS rfl) (bS rfl) ⟨_,_,_,rfl⟩)
 all_goals (conv=>whnf)
def NR (zs:Lz) (hi:Int) (m:Nat) (vs:List V):Prop:= ∃ (i:Nat) (lo:Int),i≤zs.length∧m=zs.length - i∧vs=[iV .i64 lo,iV .i64 (i:Int)]∧(lo≤hi∧ ∀j e,j < i→zs[j]? =some e→nI 1 e > hi→lo≤nI 0 e)
theorem NR.next {zs:Lz} {i:Nat} {lo lo2 hi a b:Int} (hi2:(i:Int) < (zs.length:Int)) (hl:zs.length≤1000000) (h:lo≤hi∧ ∀j e,j < i→zs[j]? =some e→nI 1 e > hi→lo≤nI 0 e) (hs:zs[((i:Int)).toNat]? =some [tI a,tI b]) (h1:lo2≤lo) (h2:b > hi→lo2≤a):NR zs hi (zs.length - (i+1)) [iV .i64 lo2,iV .i64 (IntKind.i64.wrap ((i:Int)+1))]:=by
 refine⟨i+1,_,by omega,rfl,by rw[bh (by omega) (by omega)];rfl,by omega,fun j e hj he hg=>?_⟩
 by_cases k:j=i
 · subst k
   have hs:zs[j]? =some [tI a,tI b]:=by simpa using hs
   rw[hs]at he;cases he
   exact h2 hg
 · have:=h.2 j e (by omega) he hg;omega
theorem Ci (zs:Lz) (hi:Int) (hz:bG zs) (hl:zs.length≤1000000):Tg 85 [oL 2 zs,oI hi] (kZ (fun n=>n≤hi∧ ∀e,e∈zs→nI 1 e > hi→n≤nI 0 e)):=by
 refine ah Tryz.func85 ?_
 repeat' (conv=>whnf
          first
  |(refine au (fun h=>?_) (fun h=>?_))
  |(refine aq (xs:=zs) hz (by omega) (by omega) ?_;rintro _ ⟨a1,b1,rfl⟩ hs1)
  |exact gi rfl rfl ⟨hlo.1,fun e he hg=>by obtain⟨j,hj,rfl⟩:=List.getElem_of_mem he;exact hlo.2 j _ (by omega) (by simp[hj]) hg⟩
  |(apply aM [1,5,9,10,11] [] [5,11] (NR zs hi) (zs.length) [iV .i64 hi,iV .i64 0];(conv=>whnf);exact⟨rfl,rfl,rfl,rfl⟩;exact rfl;exact rfl;exact⟨0,_,by omega,rfl,rfl,by omega,fun j e hj=>by omega⟩;rintro _ _ ⟨i,lo,hk,rfl,rfl,hlo⟩)
  |(refine ak [1,5,9,10,11] [] ?_;(conv=>whnf);exact⟨rfl,_,[_,_],NR.next (by assumption) hl hlo hs1 (by omega) (by omega),rfl,rfl,rfl,by omega⟩))
 all_goals (conv=>whnf)
end Go.aT.Cd
end
section
namespace Go.aT.Cd
open Go Go.Proofs
set_option maxRecDepth 100000
set_option maxHeartbeats 1000000
def YO (e:List T):Prop:= ∃xs,e=[.aB 2 xs]∧bG xs∧xs.length≤1000000
abbrev pF (xs:Lz):Prop:= ∀e,e∈xs→YO e
theorem FK:bG []:=fun e he=>by simp at he
section
variable [Aq]
abbrev B5:=Int×Int×Int×Int×Int
def PC (xs:Lz):B5:=pk 68 [oL 2 xs] (fun p:B5=>[DQ p.1 p.2.1 p.2.2.1 p.2.2.2.1,oI p.2.2.2.2]) (fun p=>(p.2.2.2.2=0↔iO xs)∧(p.2.2.2.2=0→(-1048576≤p.1∧p.1≤1048576)∧0≤p.2.2.1∧p.2.2.1≤2097152))
abbrev tL (xs:Lz):Int:=(PC xs).1
abbrev Af (xs:Lz):Int:=(PC xs).2.2.1
abbrev KR (xs:Lz):Int:=(PC xs).2.2.2.2
theorem rj (xs:Lz) (hx:bG xs) (hl:xs.length≤1000000): ∃ts,Fn Tryz.prog 68 [oL 2 xs] [] (aL ts) []∧(aL ts).bL=true∧(ts=[DQ (PC xs).1 (PC xs).2.1 (PC xs).2.2.1 (PC xs).2.2.2.1,oI (PC xs).2.2.2.2]∧(KR xs=0↔iO xs)∧(KR xs=0→(-1048576≤tL xs∧tL xs≤1048576)∧0≤Af xs∧Af xs≤2097152)):=by
 obtain⟨ts,h1,h2,a,b,c,d,e,rfl,h3⟩:=Cp xs hx hl
 exact ue (enc:=fun p:B5=>[DQ p.1 p.2.1 p.2.2.1 p.2.2.2.1,oI p.2.2.2.2]) (Q:=fun p:B5=>(p.2.2.2.2=0↔iO xs)∧(p.2.2.2.2=0→(-1048576≤p.1∧p.1≤1048576)∧0≤p.2.2.1∧p.2.2.1≤2097152)) ⟨(a,b,c,d,e),h1,h2,h3⟩
theorem ri (xs:Lz) (hx:bG xs) (hl:xs.length≤1000000): ∃a b c d e,(Te 68 [oL 2 xs] [DQ a b c d,oI e])∧a=tL xs∧c=Af xs∧e=KR xs∧(e=0↔iO xs)∧(e=0→(-1048576≤a∧a≤1048576)∧0≤c∧c≤2097152):=by
 obtain⟨ts,h1,h2,rfl,h3,h4⟩:=rj xs hx hl
 exact⟨_,_,_,_,_,⟨_,h1,h2,rfl⟩,rfl,rfl,rfl,h3,h4⟩
def N7 (ln:Int) (p:List T):Prop:=KR (nL 0 p)=0∧0≤tL (nL 0 p)∧tL (nL 0 p)+Af (nL 0 p)≤ln
def Zb (p:List T):List T:=[tI (tL (nL 0 p)),tI (tL (nL 0 p)+Af (nL 0 p))]
def Lp (ln:Int) (ae:Lz):Prop:=(1≤ln∧ln≤1048576)∧ ∀p,p∈ae→N7 ln p
def GEx (ln:Int) (ae:Lz) (ts:List W):Prop:= ∃zs e,ts=[oL 2 zs,oI e]∧bG zs∧zs.length≤60∧(e=0→Lp ln ae∧zs=ae.map Zb)
def NP (ln:Int) (ae:Lz) (m:Nat) (vs:List V) (xss:List (Lz)):Prop:=
 ∃ (i:Nat) (zs:Lz),i≤ae.length∧m=ae.length - i∧vs=[bD 4 2 zs.length,iV .i64 (i:Int)]∧xss=[zs]∧bG zs∧zs.length≤i∧Pre (N7 ln) ae i∧zs=(ae.take i).map Zb
theorem NP.next {ln:Int} {ae zs poly:Lz} {i n:Nat} {a b c e:Int} (hi:(i:Int) < (ae.length:Int)) (hl:ae.length≤60) (hz:bG zs) (jn:zs.length≤i) (hpre:Pre (N7 ln) ae i∧zs=(ae.take i).map Zb) (hs:ae[((i:Int)).toNat]? =some [.aB 2 poly])
 (ea:a=tL poly) (ec:c=Af poly) (ee:e=KR poly) (h0:e=0) (hb:e=0→(-1048576≤a∧a≤1048576)∧0≤c∧c≤2097152) (h1:¬a < 0) (h2:¬IntKind.i64.wrap (a+c) > ln) (hw:b=IntKind.i64.wrap (a+c)) (hn:n=zs.length+1):
 NP ln ae (ae.length - (i+1)) [bD 4 2 n,iV .i64 (IntKind.i64.wrap ((i:Int)+1))] [zs++[[tI a,tI b]]]:=by
 have hb:=hb h0
 rw[bh (n:=a+c) (by omega) (by omega)]at h2 hw
 have hs:ae[i]? =some [.aB 2 poly]:=by simpa using hs
 refine⟨i+1,_,by omega,rfl,by subst hn;rw[bh (by omega) (by omega)];simp,rfl,fun e he=>?_,by simp;omega,?_,?_⟩
 · rcases List.mem_append.1 he with he|he
   · exact hz e he
   · simp only[List.mem_singleton]at he
     exact⟨a,b,he⟩
 · refine hpre.1.succ hs ⟨?_,?_,?_⟩
   · show KR poly=0;omega
   · show 0≤tL poly;omega
   · show tL poly+Af poly≤ln;omega
 · rw[fW hs,List.map_append, ←hpre.2,hw,ea,ec];rfl
theorem wv (ln:Int) (ae:Lz) (hp:pF ae):Tg 84 [oI ln,oL 1 ae] (GEx ln ae):=by
 refine aJ ?_
 refine ah Tryz.func84 ?_
 repeat' (conv=>whnf
          first
  |(refine au (fun h=>?_) (fun h=>?_))
  |(refine ca (fun h=>?_) (fun h=>?_))
  |(refine aq (xs:=ae) hp (by omega) (by omega) ?_;rintro _ ⟨xs,rfl,hxs,hxl⟩ hs;obtain⟨a,b,c,d,e,hBx,ea,ec,ee,_,DY⟩:=ri xs hxs hxl)
  |(refine And.intro ⟨by simp[tr],by simp[tr,aW];omega,by simp[tr,maxLen];omega⟩ ?_)
  |(refine ai rfl (hBx) ?_;rintro _ rfl)
  |exact dg rfl (bR 2 rfl) (bS rfl) ⟨[],_,rfl,FK,by simp,fun h0=>by omega⟩
  |exact dg rfl (fz rfl rfl (xs:=zs) rfl (by omega)) (bS rfl) ⟨_,_,rfl,by rw[fG rfl];exact hz,by rw[fG rfl];omega,fun _=>by rw[fG rfl];exact⟨⟨by omega,hpre.1.all (by omega)⟩,by rw[hpre.2,List.take_of_length_le (by omega)]⟩⟩
  |(apply dQ [0,6,20,21,22] [] [6,22] [(4,2)] (NP ln ae) (ae.length) [bD 4 2 0,iV .i64 0] (dK.jq 6 2 rfl);(conv=>whnf);exact⟨rfl,rfl,rfl,rfl⟩;exact rfl;exact rfl;exact .cons (az.av az.nil _) .nil;exact⟨0,[],by omega,rfl,rfl,rfl,FK,by simp,Pre.zero,rfl⟩;rintro _ _ _ ⟨i,zs,hi,rfl,rfl,rfl,hz,jn,hpre⟩)
  |(refine ak [0,6,20,21,22] [] ?_;(conv=>whnf);exact⟨rfl,_,[_,_],_, .cons (az.av (az.snoc (xs:=zs) rfl [tI _,tI _]) _) .nil,NP.next (by assumption) (by omega) hz jn hpre hs ea ec ee (by assumption) DY (by assumption) (by assumption) rfl (by simp[tr]),rfl,rfl,by omega⟩))
 all_goals (conv=>whnf)
def GBk (ln:Int) (ae:Lz) (hi:Int) (ts:List W):Prop:= ∃n e,ts=[oI n,oI e]∧(e=0→Lp ln ae∧ ∀p,p∈ae→tL (nL 0 p)+Af (nL 0 p) > hi→n≤tL (nL 0 p))
theorem tX (ln:Int) (ae:Lz) (hp:pF ae) (hi:Int):Tg 58 [oI ln,oL 1 ae,oI hi] (GBk ln ae hi):=by
 refine aJ ?_
 refine ah Tryz.func58 ?_
 repeat' (conv=>whnf
          first
  |(refine au (fun h=>?_) (fun h=>?_))
  |(refine ca (fun h=>?_) (fun h=>?_))
  |(refine ai rfl (wv ln ae hp) ?_;rintro _ ⟨zs,e,rfl,hz,jn,hze⟩)
  |(refine ai rfl (Ci zs hi hz (by omega)) ?_;rintro _ ⟨n,rfl,hn⟩)
  |exact dg rfl (bS rfl) (bS rfl) ⟨_,_,rfl,fun h0=>absurd h0 (by omega)⟩
  |exact dg rfl (bS rfl) (bS rfl) ⟨_,_,rfl,fun _=>⟨(hze (by assumption)).1,fun p hp hg=>hn.2 (Zb p) (by rw[(hze (by assumption)).2];exact List.mem_map_of_mem hp) hg⟩⟩)
 all_goals (conv=>whnf)
end
theorem G8 (s:ByteArray) (hs:s.size≤maxLen):Tg 89 [oS s] GB:=by
 refine ah Tryz.func89 ?_
 repeat' (conv=>whnf
          first
  |(refine au (fun h=>?_) (fun h=>?_))
  |(refine aF (fun h=>?_) (fun h=>?_))
  |(refine D3 (by omega) (by omega) ?_;intro bb)
  |exact gB rfl rfl
  |(apply aM [0,8,9] [] [9] (RI s.size) (s.size) [iV .i64 0];(conv=>whnf);exact⟨rfl,rfl,rfl,rfl⟩;exact rfl;exact rfl;exact RI.zero;rintro _ _ ⟨i,hi,rfl,rfl⟩)
  |(refine ak [0,8,9] [] ?_;(conv=>whnf);exact⟨rfl,_,[_],RI.succ (N:=s.size) (i:=i) (by omega) hs,rfl,rfl,rfl,by omega⟩))
 all_goals (conv=>whnf)
def T4 (N:Nat) (gn:List (Lz)) (m:Nat) (vs:List V) (xss:List (Lz)):Prop:= ∃i:Nat,i≤N∧m=N - i∧vs=[iV .i64 (i:Int)]∧xss=gn
theorem T4.next {N i:Nat} {gn:List (Lz)} (hi:(i:Int) < (N:Int)) (hl:N≤maxLen):T4 N gn (N - (i+1)) [iV .i64 (IntKind.i64.wrap ((i:Int)+1))] gn:=⟨i+1,by omega,rfl,by simp only[maxLen]at hl;rw[bh (by omega) (by omega)];rfl,rfl⟩
theorem is3 {a b c:Int}:Is [[tI a],[tI b],[tI c]]:=fun e he=>by
 simp only[List.mem_cons,List.not_mem_nil,or_false]at he
 rcases he with rfl|rfl|rfl<;>exact⟨_,rfl⟩
end Go.aT.Cd
end
section
namespace Go.aT.Cd
open Go Go.Proofs
set_option maxRecDepth 100000
set_option maxHeartbeats 1000000
theorem Q9 {hp:HS} {id sz len:Nat} {rows:List (List C)} {xs:Lz} {x:T} (hf:find hp id=some (.row sz rows)) (hR:az rows xs) (hl:len=xs.length):bM (bY hp) [.one (.t x), .one (.own id sz 0 len)]=some [.one (.t x), .one (.t (.aB sz xs))]:=by
 have:=kE (hp:=hp) (i:=0) hf hR (by omega:0+len≤xs.length)
 have hx:bY hp (.one (.t x))=some (.one (.t x)):=rfl
 simp only[bM,this,hx]
 simp[hl]
abbrev E4 (a b c d:Int):Lz:=[[tI a,tI b],[tI c,tI b],[tI c,tI d],[tI a,tI d]]
theorem No {a b c d:Int}:bG (E4 a b c d):=fun e he=>by
 simp only[E4,List.mem_cons,List.not_mem_nil,or_false]at he
 rcases he with rfl|rfl|rfl|rfl<;>exact⟨_,_,rfl⟩
def GHs (xs:Lz) (ts:List W):Prop:= ∃b e,ts=[oB b,oI e]∧(iO xs→e=0)
theorem A5 (xs:Lz) (hx:bG xs) (hl:xs.length≤1000000) (x y w h:Int):Tg 67 [oL 2 xs,DQ x y w h] (GHs xs):=by
 refine aJ ?_
 refine ah Tryz.func67 ?_
 repeat' (conv=>whnf
          first
  |(refine au (fun h=>?_) (fun h=>?_))
  |(refine ca (fun h=>?_) (fun h=>?_))
  |(refine aF (fun h=>?_) (fun h=>?_))
  |(refine aq (xs:=rs) (hT (by omega)).1 (by omega) (by omega) ?_;rintro _ ⟨LC,rfl,ht,htl⟩ hs)
  |(refine ai rfl (Qw xs hx hl) ?_;rintro _ ⟨rs,e,rfl,hE,hT⟩)
  |(have h77:=lf;refine ai rfl (ru _ _) ?_;rintro _ ⟨lo,hg,tl,rfl⟩)
  |(refine ai rfl (ru _ _) ?_;rintro _ ⟨lf,rg,wd,rfl⟩)
  |(refine sE (Q9 rfl (show az _ (E4 lf lo rg hg)from rfl) rfl) (mS LC (E4 lf lo rg hg) ht No htl (by simp)) ?_ ?_;(rintro _ ⟨n,rfl⟩;rfl);rintro _ ⟨n,rfl⟩)
  |exact dg rfl (bS rfl) (bS rfl) ⟨_,_,rfl,fun g=>by first|rfl|exact hE.2 g⟩
  |(apply bp [14,70,71,72] [] [72] [(4,2)] (T4 rs.length [E4 lf lo rg hg]) (rs.length) [iV .i64 0];(conv=>whnf);exact⟨rfl,rfl,rfl,rfl⟩;exact rfl;exact rfl;exact .cons (az.av (xs:=E4 _ _ _ _) rfl _) .nil;exact⟨0,by omega,rfl,rfl,rfl⟩;rintro _ _ _ ⟨i,hi,rfl,rfl,rfl⟩)
  |(refine ak [14,70,71,72] [] ?_;(conv=>whnf);exact⟨rfl,_,[_],_, .cons (az.av (xs:=E4 _ _ _ _) rfl _) .nil,T4.next (by omega) (by have:=(hT (by omega)).2;simp only[maxLen];omega),rfl,rfl,by omega⟩))
 all_goals (conv=>whnf)
abbrev Jw (l:Int) (ps:Lz):W:= .agg [.t (tI l), .t (.aB 4 ps)]
section
variable [Aq]
def Lx (poly:Lz) (p:List T):Prop:=¬Lw p (tL poly) (Af poly)
def GCr (ps poly:Lz) (ts:List W):Prop:= ∃n e,ts=[oI n,oI e]∧(e=0→0≤n∧n < (ps.length:Int))∧(KR poly=0→¬e=0→ ∀p,p∈ps→Lx poly p)
def RCr (ps poly:Lz) (gn:List (Lz)) (m:Nat) (vs:List V) (xss:List (Lz)):Prop:= ∃i:Nat,i≤ps.length∧m=ps.length - i∧vs=[iV .i64 (i:Int)]∧xss=gn∧Pre (Lx poly) ps i
theorem RCr.next {ps poly:Lz} {i:Nat} {gn:List (Lz)} {r f t a x w:Int} {b:Bool} (hi:(i:Int) < (ps.length:Int)) (hl:ps.length≤maxLen) (h:Pre (Lx poly) ps i) (hs:ps[((i:Int)).toNat]? =some [tI r,tI f,tI t,tI a]) (ex:x=tL poly) (ew:w=Af poly) (hb:b=true↔Lw (uJ r f t a) x w) (h0:b=false):
 RCr ps poly gn (ps.length - (i+1)) [iV .i64 (IntKind.i64.wrap ((i:Int)+1))] gn:=
 ⟨i+1,by omega,rfl,by simp only[maxLen]at hl;rw[bh (by omega) (by omega)];rfl,rfl,h.succ (by simpa using hs) (by rw[Lx, ←ex, ←ew];exact fun g=>nf h0 (hb.2 g))⟩
theorem xH (l:Int) (ps poly:Lz) (hp:Ao ps) (jo:ps.length≤maxLen) (hx:bG poly) (hl:poly.length≤1000000):Tg 36 [Jw l ps,oL 2 poly] (GCr ps poly):=by
 obtain⟨a,b,c,d,e,hBx,ea,ec,ee,_,_⟩:=ri poly hx hl
 refine aJ ?_
 refine ah Tryz.func36 ?_
 repeat' (conv=>whnf
          first
  |(refine au (fun h=>?_) (fun h=>?_))
  |(refine ca (fun h=>?_) (fun h=>?_))
  |(refine aF (fun h=>?_) (fun h=>?_))
  |(refine aq (xs:=ps) hp (by omega) (by omega) ?_;rintro _ ⟨r1,f1,t1,a1,rfl⟩ hs)
  |(refine ai rfl (hBx) ?_;rintro _ rfl)
  |(refine ai rfl (xF r1 f1 t1 a1 _ _ _ _) ?_;rintro _ ⟨b3,rfl,OX⟩)
  |exact dg rfl (bS rfl) (bS rfl) ⟨_,_,rfl,fun h=>absurd h (by assumption),fun g h=>absurd (ee.trans g) (by assumption)⟩
  |exact dg rfl (bS rfl) (bS rfl) ⟨_,_,rfl,fun h=>by omega,fun _ h=>absurd rfl h⟩
  |exact dg rfl (bS rfl) (bS rfl) ⟨_,_,rfl,fun h=>absurd h (by decide),fun _ _=>hpre.all (by omega)⟩
  |(apply bp [6,19,20,21] [] [21] [(4,4)] (RCr ps poly [[[tI a,tI b,tI c,tI d]]]) (ps.length) [iV .i64 0];(conv=>whnf);exact⟨rfl,rfl,rfl,rfl⟩;exact rfl;exact rfl;exact .cons (az.av (xs:=[[tI a,tI b,tI c,tI d]]) rfl _) .nil;exact⟨0,by omega,rfl,rfl,rfl,Pre.zero⟩;rintro _ _ _ ⟨i,hi,rfl,rfl,rfl,hpre⟩)
  |(refine ak [6,19,20,21] [] ?_;(conv=>whnf);exact⟨rfl,_,[_],_, .cons (az.av (xs:=[[tI a,tI b,tI c,tI d]]) rfl _) .nil,RCr.next (by assumption) jo hpre hs ea ec OX (by assumption),rfl,rfl,by omega⟩))
 all_goals (conv=>whnf)
end
end Go.aT.Cd
end
section
namespace Go.aT.Cd
open Go Go.Proofs
set_option maxRecDepth 100000
set_option maxHeartbeats 1000000
variable [Aq]
def JnP (ae:Lz) (en SR:Int):Prop:= ∀p,p∈ae→tL (nL 0 p)+Af (nL 0 p) > en→SR≤tL (nL 0 p)
theorem AK (ln:Int) (ae:Lz) (hp:pF ae) (r1 f1 t1 a1 r2 f2 t2 a2:Int):Tg 61 [oI ln,oL 1 ae,DQ r1 f1 t1 a1,DQ r2 f2 t2 a2] (Uf (JnP ae (rR (uJ r1 f1 t1 a1)) a2)):=by
 refine ah Tryz.func61 ?_
 repeat' (conv=>whnf
          first
  |(refine au (fun h=>?_) (fun h=>?_))
  |(refine And.intro (by kernel_rfl) ?_)
  |(refine ai rfl (nF _ _ _ _) ?_;rintro _ ⟨n,rfl,hn⟩)
  |(refine aC rfl (nF _ _ _ _) ?_;rintro _ ⟨n,rfl,hn⟩)
  |(refine ai rfl (tX ln ae hp _) ?_;rintro _ ⟨n2,e2,rfl,TO⟩)
  |exact O1 rfl rfl (fun hb=>absurd hb (by decide))
  |exact O1 rfl rfl (fun hb p hp hg=>by have h8:=(TO (by assumption)).2 p hp (by rw[hn];exact hg);have h9:=of_decide_eq_true hb;omega))
 all_goals (conv=>whnf)
end Go.aT.Cd
end
section
namespace Go.aT.Cd
open Go Go.Proofs
set_option maxRecDepth 100000
set_option maxHeartbeats 1000000
variable [Aq]
def idV (id:ByteArray):Bool:=pk 89 [oS id] (fun b=>[oB b]) (fun _=>True)
theorem Em (id:ByteArray) (bN:id.size≤maxLen): ∃ts,Fn Tryz.prog 89 [oS id] [] (aL ts) []∧(aL ts).bL=true∧(ts=[oB (idV id)]∧True):=by
 obtain⟨ts,h1,h2,b,rfl⟩:=G8 id bN
 exact ue (enc:=fun b=>[oB b]) (Q:=fun _=>True) ⟨b,h1,h2,trivial⟩
def Tn (e:List T):Prop:= -1000≤nI 0 e∧nI 0 e≤1000
def YV (l w:Int) (e:List T):Prop:=(0≤nI 0 e∧1≤nI 2 e∧nI 2 e≤IntKind.i64.wrap (l - nI 0 e))∧0≤nI 1 e∧1≤nI 3 e∧nI 3 e≤IntKind.i64.wrap (w - nI 1 e)
structure Lb (id:ByteArray) (w l a b c:Int) (fl:Lz):Prop where
 id:idV id=true
 rl:1≤l∧l≤1048576
 rw_:1≤w∧w≤1048576
 abZ: ∀e,e∈ [[tI a],[tI b],[tI c]]→Tn e
 fll:fl.length≤20
 flo: ∀e,e∈fl→YV l w e
def NG (a b c:Int) (m:Nat) (vs:List V):Prop:= ∃i:Nat,i≤3∧Pre Tn [[tI a],[tI b],[tI c]] i∧m=3 - i∧vs=[iV .i64 (i:Int)]
theorem NG.next {a b c a5:Int} {i:Nat} (hi:(i:Int) < 3) (h:Pre Tn [[tI a],[tI b],[tI c]] i) (hs: [[tI a],[tI b],[tI c]][0+((i:Int)).toNat]? =some [tI a5]) (h1: -1000≤a5) (h2:a5≤1000):NG a b c (3 - (i+1)) [iV .i64 (IntKind.i64.wrap ((i:Int)+1))]:=
 ⟨i+1,by omega,h.succ (e:=[tI a5]) (by simpa using hs) (show -1000≤a5∧a5≤1000 from⟨h1,h2⟩),rfl,by rw[bh (by omega) (by omega)];rfl⟩
theorem Jy {b:Bool} (h:(!b)=true):¬b=true:=by simpa using h
theorem tZ (id:ByteArray) (w l a b c:Int) (fl:Lz) (bN:id.size≤maxLen) (hf:Ao fl) (hfl:fl.length≤maxLen):Tg 66 [oRl id w l a b c fl] (kZ (fun n=>n=0↔Lb id w l a b c fl)):=by
 refine ah Tryz.func66 ?_
 repeat' (conv=>whnf
          first
  |(refine au (fun h=>?_) (fun h=>?_))
  |(refine aF (fun h=>?_) (fun h=>?_))
  |(refine aq (xs:=fl) hf (by omega) (by omega) ?_;rintro _ ⟨a2,b2,c2,d2,rfl⟩ hs)
  |(refine And.intro (by omega) ?_)
  |(refine ai rfl (Em id bN) ?_;rintro _ ⟨rfl,_⟩)
  |(have hi4:(i:Int) < 3:=(by omega);refine bJ (xs:=[[tI a],[tI b],[tI c]]) rfl is3 (by simp;omega) ?_;rintro _ ⟨a5,rfl⟩ hs6)
  |exact gi rfl rfl (iff_of_false (by decide) (fun hh=>Jy (by assumption) hh.id))
  |exact gi rfl rfl (iff_of_false (by decide) (fun hh=>by have h1:=hh.rl;have h2:=hh.rw_;omega))
  |exact gi rfl rfl (iff_of_false (by decide) (fun hh=>by have h1: -1000≤a5∧a5≤1000:=hh.abZ _ (List.mem_of_getElem? hs6);omega))
  |exact gi rfl rfl (iff_of_false (by decide) (fun hh=>by have h1:=hh.fll;omega))
  |exact gi rfl rfl (iff_of_false (by decide) (fun hh=>by have h1:(0≤a2∧1≤c2∧c2≤IntKind.i64.wrap (l - a2))∧0≤b2∧1≤d2∧d2≤IntKind.i64.wrap (w - b2):=hh.flo _ (List.mem_of_getElem? hs);omega))
  |exact gi rfl rfl (iff_of_true rfl ⟨wQ (by assumption),by omega,by omega,hp.all (by simp;omega),by omega,hp2.all (by omega)⟩)
  |(apply aM [1,56,57,58] [] [58] (RQ (YV l w) fl) (fl.length) [iV .i64 0];(conv=>whnf);exact⟨rfl,rfl,rfl,rfl⟩;exact rfl;exact rfl;exact RQ.zero;rintro _ _ ⟨i2,hi2,hp2,rfl,rfl⟩)
  |(refine ak [1,56,57,58] [] ?_;(conv=>whnf);exact⟨rfl,_,[_],RQ.next (by omega) hfl hp2 hs (show(0≤a2∧1≤c2∧c2≤IntKind.i64.wrap (l - a2))∧0≤b2∧1≤d2∧d2≤IntKind.i64.wrap (w - b2)from⟨⟨by omega,by omega,by omega⟩,by omega,by omega,by omega⟩),rfl,rfl,rfl,by omega⟩)
  |(apply aM [1,38,39,40] [] [40] (NG a b c) (3) [iV .i64 0];(conv=>whnf);exact⟨rfl,rfl,rfl,rfl⟩;exact rfl;exact rfl;exact⟨0,by omega,Pre.zero,rfl,rfl⟩;rintro _ _ ⟨i,hi,hp,rfl,rfl⟩)
  |(refine ak [1,38,39,40] [] ?_;(conv=>whnf);exact⟨rfl,_,[_],NG.next hi4 hp hs6 (by omega) (by omega),rfl,rfl,rfl,by omega⟩))
 all_goals (conv=>whnf)
def yY (e:List T):Prop:= ∃id w l a b c fl,e=[.val (.string id),tI w,tI l,tI a,tI b,tI c, .aB 4 fl]∧Lb id w l a b c fl
theorem yY.of {id:ByteArray} {w l a b c:Int} {fl:Lz} (h:yY [.val (.string id),tI w,tI l,tI a,tI b,tI c, .aB 4 fl]):Lb id w l a b c fl:=by
 obtain⟨id',w',l',a',b',c',fl',he,h⟩:=h
 simp only[List.cons.injEq,T.val.injEq,Value.string.injEq,Value.int.injEq,T.aB.injEq,true_and,and_true]at he
 obtain⟨rfl,rfl,rfl,rfl,rfl,rfl,rfl⟩:=he
 exact h
structure S2 (ag aQ:Lz):Prop where
 n:ag.length≤20
 all: ∀e,e∈ag→yY e
 aQ:aQ.length=ag.length
theorem qn (ag aQ:Lz) (hR:Fh ag) (B2:ag.length≤maxLen):Tg 59 [oL 7 ag,oL 1 aQ] (kZ (fun n=>n=0↔S2 ag aQ)):=by
 refine ah Tryz.func59 ?_
 repeat' (conv=>whnf
          first
  |(refine au (fun h=>?_) (fun h=>?_))
  |(refine ca (fun h=>?_) (fun h=>?_))
  |(refine aq (xs:=ag) hR (by omega) (by omega) ?_;rintro _ ⟨id,w1,l1,a2,b2,c2,fl,rfl,bN,hfl,HU⟩ tc)
  |(refine ai rfl (tZ id w1 l1 a2 b2 c2 fl bN hfl HU) ?_;rintro _ ⟨e2,rfl,LN⟩)
  |exact gi rfl rfl (iff_of_false (by decide) (fun hh=>by have h1:=hh.n;omega))
  |exact gi rfl rfl (iff_of_false (by omega) (fun hh=>by have h1:=LN.2 (yY.of (hh.all _ (List.mem_of_getElem? tc)));omega))
  |exact gi rfl rfl (iff_of_false (by decide) (fun hh=>by have h1:=hh.aQ;omega))
  |exact gi rfl rfl (iff_of_true rfl ⟨by omega,hp.all (by omega),by omega⟩)
  |(apply aM [0,1,11,12,13] [] [13] (RQ yY ag) (ag.length) [iV .i64 0];(conv=>whnf);exact⟨rfl,rfl,rfl,rfl⟩;exact rfl;exact rfl;exact RQ.zero;rintro _ _ ⟨i,hi,hp,rfl,rfl⟩)
  |(refine ak [0,1,11,12,13] [] ?_;(conv=>whnf);exact⟨rfl,_,[_],RQ.next (by omega) B2 hp tc ⟨_,_,_,_,_,_,_,rfl,LN.1 (by omega)⟩,rfl,rfl,rfl,by omega⟩))
 all_goals (conv=>whnf)
def BkQ (ln:Int) (ae:Lz) (hi:Int) (p:Int×Int):Prop:=p.2=0→Lp ln ae∧ ∀q,q∈ae→tL (nL 0 q)+Af (nL 0 q) > hi→p.1≤tL (nL 0 q)
def ZS (ln:Int) (ae:Lz) (hi:Int):Int×Int:=pk 58 [oI ln,oL 1 ae,oI hi] (fun p=>[oI p.1,oI p.2]) (BkQ ln ae hi)
theorem qX (ln:Int) (ae:Lz) (hp:pF ae) (hi:Int): ∃ts,Fn Tryz.prog 58 [oI ln,oL 1 ae,oI hi] [] (aL ts) []∧(aL ts).bL=true∧(ts=[oI (ZS ln ae hi).1,oI (ZS ln ae hi).2]∧BkQ ln ae hi (ZS ln ae hi)):=by
 obtain⟨ts,h1,h2,n,e,rfl,h3⟩:=tX ln ae hp hi
 exact ue (enc:=fun p:Int×Int=>[oI p.1,oI p.2]) (Q:=BkQ ln ae hi) ⟨(n,e),h1,h2,h3⟩
def WX (ln:Int) (ae:Lz) (p q:List T):Bool:=pk 61 [oI ln,oL 1 ae, .agg (p.map .t), .agg (q.map .t)] (fun b=>[oB b]) (fun b=>b=true→JnP ae (rR p) (nI 3 q))
theorem pI (ln:Int) (ae:Lz) (hp:pF ae) (r1 f1 t1 a1 r2 f2 t2 a2:Int): ∃ts,Fn Tryz.prog 61 [oI ln,oL 1 ae,DQ r1 f1 t1 a1,DQ r2 f2 t2 a2] [] (aL ts) []∧(aL ts).bL=true∧(ts=[oB (WX ln ae (uJ r1 f1 t1 a1) (uJ r2 f2 t2 a2))]∧(WX ln ae (uJ r1 f1 t1 a1) (uJ r2 f2 t2 a2)=true→JnP ae (rR (uJ r1 f1 t1 a1)) a2)):=by
 obtain⟨ts,h1,h2,b,rfl,h3⟩:=AK ln ae hp r1 f1 t1 a1 r2 f2 t2 a2
 exact ue (f:=61) (args:=[oI ln,oL 1 ae, .agg ((uJ r1 f1 t1 a1).map .t), .agg ((uJ r2 f2 t2 a2).map .t)]) (enc:=fun b=>[oB b]) (Q:=fun b=>b=true→JnP ae (rR (uJ r1 f1 t1 a1)) a2) ⟨b,h1,h2,h3⟩
structure ClF (ln wd:Int) (ae ag aQ:Lz):Prop where
 back:(ZS ln ae 0).2=0
 rs:S2 ag aQ
 wd:1≤wd∧wd≤1048576
theorem qo (ln wd rx ry:Int) (sizes places ae ag aQ:Lz) (hp:pF ae) (hR:Fh ag) (B2:ag.length≤maxLen):Tg 32 [Mx ln wd rx ry sizes places,oL 1 ae,oL 7 ag,oL 1 aQ] (kZ (fun n=>n=0↔ClF ln wd ae ag aQ)):=by
 refine ah Tryz.func32 ?_
 repeat' (conv=>whnf
          first
  |(refine au (fun h=>?_) (fun h=>?_))
  |(refine ca (fun h=>?_) (fun h=>?_))
  |(refine ai rfl (qX ln ae hp _) ?_;rintro _ ⟨rfl,_⟩)
  |(refine ai rfl (qn ag aQ hR B2) ?_;rintro _ ⟨n,rfl,hn⟩)
  |exact gi rfl rfl (iff_of_false (by omega) (fun hh=>by have h1:=hh.back;omega))
  |exact gi rfl rfl (iff_of_false (by omega) (fun hh=>by have h1:=hn.2 hh.rs;omega))
  |exact gi rfl rfl (iff_of_false (by decide) (fun hh=>by have h1:=hh.wd;omega))
  |exact gi rfl rfl (iff_of_true rfl ⟨by omega,hn.1 (by omega),by omega⟩))
 all_goals (conv=>whnf)
abbrev pD (xs:Lz) (r:Int):List T:=(xs[r.toNat]?).getD []
def YZ (ag:Lz) (p:List T):Prop:=(0≤nI 0 p∧nI 0 p < (ag.length:Int))∧0≤nI 1 p∧nI 1 p < nI 2 p∧nI 2 p≤nI 2 (pD ag (nI 0 p))
theorem kK {xs:Lz} {r:Int} {e:List T} (h:xs[r.toNat]? =some e):pD xs r=e:=by simp[pD,h]
theorem Yq {ag:Lz} {r f t a q:Int} {id:ByteArray} {w l a1 b1 c1:Int} {fl:Lz} (hs:ag[r.toNat]? =some [.val (.string id),tI w,tI l,tI a1,tI b1,tI c1, .aB 4 fl]) (h0:0≤r) (h1:r < (ag.length:Int)) (h2:0≤f) (h3:f < t) (b:Bool) (hb:b=decide (t≤l)):b=true↔YZ ag [tI r,tI f,tI t,tI a]:=by
 have e:nI 2 (pD ag r)=l:=by rw[kK hs];rfl
 rw[hb,decide_eq_true_eq]
 constructor
 · intro h
   exact⟨⟨h0,h1⟩,h2,h3,by show t≤nI 2 (pD ag r);rw[e];exact h⟩
 · rintro⟨_,_,_,h⟩
   have h:t≤nI 2 (pD ag r):=h
   rwa [e]at h
theorem uW (r f t a:Int) (ag:Lz) (hR:Fh ag):Tg 60 [DQ r f t a,oL 7 ag] (ze (YZ ag (uJ r f t a))):=by
 refine ah Tryz.func60 ?_
 repeat' (conv=>whnf
          first
  |(refine au (fun h=>?_) (fun h=>?_))
  |(refine aq (xs:=ag) hR (by omega) (by omega) ?_;rintro _ ⟨id,w,l,a1,b1,c1,fl,rfl,_,_,_⟩ hs)
  |(refine And.intro (by kernel_rfl) ?_)
  |exact tv rfl rfl (Yq (q:=0) hs (by omega) (by omega) (by omega) (by omega) _ rfl)
  |exact tv rfl rfl (iff_of_false (by simp) (fun hh=>by obtain⟨⟨h1,h2⟩,h3,h4,_⟩:=hh;have h1:0≤r:=h1;have h2:r < (ag.length:Int):=h2;have h3:0≤f:=h3;have h4:f < t:=h4;omega)))
 all_goals (conv=>whnf)
end Go.aT.Cd
end
section
namespace Go.aT.Cd
open Go Go.Proofs
set_option maxRecDepth 100000
set_option maxHeartbeats 1000000
variable [Aq]
def S9 (ln wd:Int) (ag aQ:Lz) (dJ:Int) (p:List T):Prop:=YZ ag p∧(0≤nI 3 p∧nI 3 p≤ln)∧nI 0 (pD aQ (nI 0 p))=dJ∧wd≤nI 1 (pD ag (nI 0 p))
def NS (ln:Int) (ae ps:Lz) (i:Nat) (p:List T):Prop:=(i=0→nI 3 p=0)∧(0 < i→WX ln ae ((ps[i - 1]?).getD []) p=true)
structure yc (ln wd:Int) (ae ag aQ:Lz) (dJ:Int) (ps:Lz):Prop where
 ne:ps.length≠0
 all: ∀i p,ps[i]? =some p→S9 ln wd ag aQ dJ p∧NS ln ae ps i p
 en:rR ((ps[ps.length - 1]?).getD [])=ln
def Li (Q:Nat→List T→Prop) (xs:Lz) (i:Nat):Prop:= ∀j e,j < i→xs[j]? =some e→Q j e
theorem Li.succ {Q:Nat→List T→Prop} {xs:Lz} {i:Nat} {e:List T} (h:Li Q xs i) (hs:xs[i]? =some e) (hq:Q i e):Li Q xs (i+1):=by
 intro j e' hj he
 by_cases fT:j=i
 · subst fT
   rw[hs]at he
   cases he
   exact hq
 · exact h j e' (by omega) he
def Le (Q:Nat→List T→Prop) (xs:Lz) (gn:List (Lz)) (m:Nat) (vs:List V) (xss:List (Lz)):Prop:= ∃i:Nat,i≤xs.length∧Li Q xs i∧m=xs.length - i∧vs=[iV .i64 (i:Int)]∧xss=gn
theorem Le.next {Q:Nat→List T→Prop} {xs:Lz} {gn:List (Lz)} {i:Nat} {e:List T} (hi:(i:Int) < (xs.length:Int)) (hl:xs.length≤maxLen) (h:Li Q xs i) (hs:xs[((i:Int)).toNat]? =some e) (hq:Q i e):Le Q xs gn (xs.length - (i+1)) [iV .i64 (IntKind.i64.wrap ((i:Int)+1))] gn:=
 ⟨i+1,by omega,h.succ (by simpa using hs) hq,rfl,by simp only[maxLen]at hl;rw[bh (by omega) (by omega)];rfl,rfl⟩
section
variable {ln wd l r f t a:Int} {ae ag aQ ps:Lz} {i:Nat} {b:Bool} {x:List T} {n7:Int} {id:ByteArray} {w1 l1 a2 b2 c2:Int} {fl:Lz}
theorem S9.mk' (hb:b=true↔YZ ag (uJ r f t a)) (h0:(!b)=false) (h1:¬a < 0) (h2:¬a > ln) (Rt:aQ[r.toNat]? =some [tI n7]) (h3:n7=l) (tc:ag[r.toNat]? =some [.val (.string id),tI w1,tI l1,tI a2,tI b2,tI c2, .aB 4 fl]) (h4:¬w1 < wd):S9 ln wd ag aQ l (uJ r f t a):=by
 refine⟨hb.1 (wQ h0),⟨by show 0≤a;omega,by show a≤ln;omega⟩,?_,?_⟩
 · show nI 0 (pD aQ r)=l
   rw[kK Rt]
   exact h3
 · show wd≤nI 1 (pD ag r)
   rw[kK tc]
   show wd≤w1
   omega
theorem sU (hh:yc ln wd ae ag aQ l ps) (hs:ps[((i:Int)).toNat]? =some x):S9 ln wd ag aQ l x∧NS ln ae ps i x:=hh.all i x (by simpa using hs)
theorem WE (hh:yc ln wd ae ag aQ l ps) (hs:ps[((i:Int)).toNat]? =some (uJ r f t a)) (hb:b=true↔YZ ag (uJ r f t a)) (h0:(!b)=true):False:=by
 have:=hb.2 (sU hh hs).1.1
 rw[this]at h0
 simp at h0
theorem WG (hh:yc ln wd ae ag aQ l ps) (hs:ps[((i:Int)).toNat]? =some (uJ r f t a)) (h:a < 0∨a > ln):False:=by
 have h1:0≤a∧a≤ln:=(sU hh hs).1.2.1
 omega
theorem QX (hh:yc ln wd ae ag aQ l ps) (hs:ps[((i:Int)).toNat]? =some (uJ r f t a)) (Rt:aQ[r.toNat]? =some [tI n7]) (h3:¬n7=l):False:=by
 have h1:nI 0 (pD aQ r)=l:=(sU hh hs).1.2.2.1
 rw[kK Rt]at h1
 exact h3 h1
theorem WB (hh:yc ln wd ae ag aQ l ps) (hs:ps[((i:Int)).toNat]? =some (uJ r f t a)) (tc:ag[r.toNat]? =some [.val (.string id),tI w1,tI l1,tI a2,tI b2,tI c2, .aB 4 fl]) (h4:w1 < wd):False:=by
 have h1:wd≤nI 1 (pD ag r):=(sU hh hs).1.2.2.2
 rw[kK tc]at h1
 have h1:wd≤w1:=h1
 omega
theorem WD (hh:yc ln wd ae ag aQ l ps) (hs:ps[((i:Int)).toNat]? =some (uJ r f t a)) (hi:(i:Int)=0) (h:¬a=0):False:=
 h ((sU hh hs).2.1 (by omega))
theorem FR (hi:(i:Int) > 0) (hl:ps.length≤maxLen) (hi2:(i:Int) < (ps.length:Int)) (DS:ps[(IntKind.i64.wrap ((i:Int) - 1)).toNat]? =some x):(ps[i - 1]?).getD []=x:=by
 simp only[maxLen]at hl
 rw[bh (by omega) (by omega),show((i:Int) - 1).toNat=i - 1 by omega]at DS
 simp[DS]
theorem WC (hh:yc ln wd ae ag aQ l ps) (hs:ps[((i:Int)).toNat]? =some (uJ r f t a)) (hi:(i:Int) > 0) (hl:ps.length≤maxLen) (hi2:(i:Int) < (ps.length:Int)) (DS:ps[(IntKind.i64.wrap ((i:Int) - 1)).toNat]? =some x) (h:(!WX ln ae x (uJ r f t a))=true):False:=by
 have:=(sU hh hs).2.2 (by omega)
 rw[FR hi hl hi2 DS]at this
 rw[this]at h
 simp at h
theorem NS.zero (hi:(i:Int)=0) (h:a=0):NS ln ae ps i (uJ r f t a):=⟨fun _=>h,fun h=>by omega⟩
theorem NS.pos (hi:(i:Int) > 0) (hl:ps.length≤maxLen) (hi2:(i:Int) < (ps.length:Int)) (DS:ps[(IntKind.i64.wrap ((i:Int) - 1)).toNat]? =some x) (h:(!WX ln ae x (uJ r f t a))=false):NS ln ae ps i (uJ r f t a):=
 ⟨fun h=>by omega,fun _=>by rw[FR hi hl hi2 DS];exact wQ h⟩
theorem F0 (hl:ps.length≤maxLen) (h0:¬ (ps.length:Int)=0) (DS:ps[(IntKind.i64.wrap ((ps.length:Int) - 1)).toNat]? =some x):(ps[ps.length - 1]?).getD []=x:=by
 simp only[maxLen]at hl
 rw[bh (by omega) (by omega),show((ps.length:Int) - 1).toNat=ps.length - 1 by omega]at DS
 simp[DS]
end
theorem sL (ln wd rx ry:Int) (sizes places ae ag aQ:Lz) (hp:pF ae) (hR:Fh ag) (B2:ag.length≤maxLen) (hlo:Is aQ) (TK:aQ.length=ag.length) (l:Int) (ps:Lz) (hps:Ao ps) (jo:ps.length≤maxLen):Tg 33 [Mx ln wd rx ry sizes places,oL 1 ae,oL 7 ag,oL 1 aQ,Jw l ps] (kZ (fun n=>n=0↔yc ln wd ae ag aQ l ps)):=by
 refine ah Tryz.func33 ?_
 repeat' (conv=>whnf
          first
  |(refine au (fun h=>?_) (fun h=>?_))
  |(refine ca (fun h=>?_) (fun h=>?_))
  |(refine aF (fun h=>?_) (fun h=>?_))
  |(have h7:0≤r1∧r1 < (ag.length:Int):=(hb.1 (wQ (b:=b) (by assumption))).1;refine aq (xs:=aQ) hlo h7.1 (by omega) ?_;rintro _ ⟨n7,rfl⟩ Rt)
  |(have h7:0≤r1∧r1 < (ag.length:Int):=(hb.1 (wQ (b:=b) (by assumption))).1;refine aq (xs:=ag) hR h7.1 h7.2 ?_;rintro _ ⟨id,w1,l1,a2,b2,c2,fl,rfl,bN,hfl,HU⟩ tc)
  |(refine aq (xs:=ps) hps (by omega) (by omega) ?_;rintro _ ⟨r1,f1,t1,a1,rfl⟩ hs)
  |(have h77:=jo;simp only[maxLen]at h77;refine aq (xs:=ps) hps (by first|omega|(simp (disch:=omega) only[aa];omega)) (by first|omega|(simp (disch:=omega) only[aa];omega)) ?_;rintro _ ⟨r9,f9,t9,a9,rfl⟩ DS)
  |(refine And.intro (by kernel_rfl) ?_)
  |(refine ai rfl (uW r1 f1 t1 a1 ag hR) ?_;rintro _ ⟨b,rfl,hb⟩)
  |(refine aC rfl (pI ln ae hp _ _ _ _ _ _ _ _) ?_;rintro _ ⟨rfl,_⟩)
  |(refine aC rfl (nF _ _ _ _) ?_;rintro _ ⟨_,rfl,rfl⟩)
  |exact gi rfl rfl (iff_of_false (by decide) (fun hh=>by have h1:=hh.ne;omega))
  |exact gi rfl rfl (iff_of_false (by decide) (fun hh=>WE hh hs hb (by assumption)))
  |exact gi rfl rfl (iff_of_false (by decide) (fun hh=>WG hh hs (by omega)))
  |exact gi rfl rfl (iff_of_false (by decide) (fun hh=>QX hh hs Rt (by omega)))
  |exact gi rfl rfl (iff_of_false (by decide) (fun hh=>WB hh hs tc (by omega)))
  |exact gi rfl rfl (iff_of_false (by decide) (fun hh=>WD hh hs (by omega) (by omega)))
  |exact gi rfl rfl (iff_of_false (by decide) (fun hh=>WC hh hs (by omega) jo (by omega) DS (by assumption)))
  |exact gi rfl rfl (iff_of_false (by decide) (fun hh=>by have h1:=hh.en;rw[F0 jo (by omega) DS]at h1;exact absurd h1 (by assumption)))
  |exact gi rfl rfl (iff_of_true rfl ⟨by omega,fun j p hj=>hpre j p (by have:=(List.getElem?_eq_some_iff.1 hj).1;omega) hj,by rw[F0 jo (by omega) DS];omega⟩)
  |(apply bp [1,2,3,5,9,18,19,20] [] [20] [(4,6),(8,2)] (Le (fun i p=>S9 ln wd ag aQ l p∧NS ln ae ps i p) ps [[[tI ln,tI wd,tI rx,tI ry, .aB 1 sizes, .aB 7 places]],[[tI l, .aB 4 ps]]]) (ps.length) [iV .i64 0];(conv=>whnf);exact⟨rfl,rfl,rfl,rfl⟩;exact rfl;exact rfl;exact .cons (az.av (xs:=[[tI ln,tI wd,tI rx,tI ry, .aB 1 sizes, .aB 7 places]]) rfl _) (.cons (az.av (xs:=[[tI l, .aB 4 ps]]) rfl _) .nil);exact⟨0,by omega,fun j e hj=>by omega,rfl,rfl,rfl⟩;rintro _ _ _ ⟨i,hi,hpre,rfl,rfl,rfl⟩)
  |(refine ak [1,2,3,5,9,18,19,20] [] ?_;(conv=>whnf);first|exact⟨rfl,_,[_],_, .cons (az.av (xs:=[[tI ln,tI wd,tI rx,tI ry, .aB 1 sizes, .aB 7 places]]) rfl _) (.cons (az.av (xs:=[[tI l, .aB 4 ps]]) rfl _) .nil),Le.next (by omega) jo hpre hs ⟨S9.mk' hb (by assumption) (by assumption) (by assumption) Rt (by omega) tc (by assumption),NS.pos (by omega) jo (by omega) DS (by assumption)⟩,rfl,rfl,by omega⟩|exact⟨rfl,_,[_],_, .cons (az.av (xs:=[[tI ln,tI wd,tI rx,tI ry, .aB 1 sizes, .aB 7 places]]) rfl _) (.cons (az.av (xs:=[[tI l, .aB 4 ps]]) rfl _) .nil),Le.next (by omega) jo hpre hs ⟨S9.mk' hb (by assumption) (by assumption) (by assumption) Rt (by omega) tc (by assumption),NS.zero (by omega) (by omega)⟩,rfl,rfl,by omega⟩)
  |(exfalso;omega))
 all_goals (conv=>whnf)
end Go.aT.Cd
end
section
namespace Go.aT.Cd
open Go Go.Proofs
set_option maxRecDepth 100000
set_option maxHeartbeats 1000000
variable [Aq]
def CaQ (ps poly:Lz) (p:Int×Int):Prop:=(p.2=0→0≤p.1∧p.1 < (ps.length:Int))∧(KR poly=0→¬p.2=0→ ∀q,q∈ps→Lx poly q)
def BR (l:Int) (ps poly:Lz):Int×Int:=pk 36 [Jw l ps,oL 2 poly] (fun p=>[oI p.1,oI p.2]) (CaQ ps poly)
theorem fc (l:Int) (ps poly:Lz) (hp:Ao ps) (jo:ps.length≤maxLen) (hx:bG poly) (hl:poly.length≤1000000): ∃ts,Fn Tryz.prog 36 [Jw l ps,oL 2 poly] [] (aL ts) []∧(aL ts).bL=true∧(ts=[oI (BR l ps poly).1,oI (BR l ps poly).2]∧CaQ ps poly (BR l ps poly)):=by
 obtain⟨ts,h1,h2,n,e,rfl,h3⟩:=xH l ps poly hp jo hx hl
 exact ue (enc:=fun p:Int×Int=>[oI p.1,oI p.2]) (Q:=CaQ ps poly) ⟨(n,e),h1,h2,h3⟩
def OA (poly:Lz) (x y w h:Int):Bool×Int:=pk 67 [oL 2 poly,DQ x y w h] (fun p=>[oB p.1,oI p.2]) (fun p=>iO poly→p.2=0)
theorem pM (poly:Lz) (hx:bG poly) (hl:poly.length≤1000000) (x y w h:Int): ∃ts,Fn Tryz.prog 67 [oL 2 poly,DQ x y w h] [] (aL ts) []∧(aL ts).bL=true∧(ts=[oB (OA poly x y w h).1,oI (OA poly x y w h).2]∧(iO poly→(OA poly x y w h).2=0)):=by
 obtain⟨ts,h1,h2,b,e,rfl,h3⟩:=A5 poly hx hl x y w h
 exact ue (enc:=fun p:Bool×Int=>[oB p.1,oI p.2]) (Q:=fun p:Bool×Int=>iO poly→p.2=0) ⟨(b,e),h1,h2,h3⟩
def yj (oh:Int→Int→Int→Int→Bool×Int) (d:Int):Lz→Bool×Int
 | []=>(false,0)
 |f::r=>if(oh (IntKind.i64.wrap (nI 0 f+d)) (nI 1 f) (nI 2 f) (nI 3 f)).2≠0 then(false,(oh (IntKind.i64.wrap (nI 0 f+d)) (nI 1 f) (nI 2 f) (nI 3 f)).2)
  else if(oh (IntKind.i64.wrap (nI 0 f+d)) (nI 1 f) (nI 2 f) (nI 3 f)).1=true then(true,0)else yj oh d r
def jF (l:Int) (ps poly:Lz):List T:=pD ps ((BR l ps poly).1)
def Ib (l:Int) (ps ag poly:Lz):Bool×Int:=yj (OA poly) (IntKind.i64.wrap (nI 3 (jF l ps poly) - nI 1 (jF l ps poly))) (nL 6 (pD ag (nI 0 (jF l ps poly))))
structure vJ (l:Int) (ps ag poly:Lz):Prop where
 SJ:(BR l ps poly).2=0
 rng:0≤nI 0 (jF l ps poly)∧nI 0 (jF l ps poly) < (ag.length:Int)
 acP:yY (pD ag (nI 0 (jF l ps poly)))
 fl:(Ib l ps ag poly).2=0
def GHt (l:Int) (ps ag poly:Lz) (ts:List W):Prop:= ∃b e,ts=[oB b,oI e]∧(e=0↔vJ l ps ag poly)∧(e=0→b=(Ib l ps ag poly).1)
def RHt (oh:Int→Int→Int→Int→Bool×Int) (d:Int) (fl:Lz) (gn:List (Lz)) (m:Nat) (vs:List V) (xss:List (Lz)):Prop:= ∃i:Nat,i≤fl.length∧yj oh d fl=yj oh d (fl.drop i)∧m=fl.length - i∧vs=[iV .i64 (i:Int)]∧xss=gn
theorem BI {fl:Lz} {i:Nat} {e:List T} (hs:fl[((i:Int)).toNat]? =some e):fl.drop i=e::fl.drop (i+1):=by
 have hs':fl[i]? =some e:=by simpa using hs
 obtain⟨hi,he⟩:=List.getElem?_eq_some_iff.1 hs'
 rw[List.drop_eq_getElem_cons hi,he]
theorem BD {oh:Int→Int→Int→Int→Bool×Int} {d x y w h:Int} {r:Lz}:yj oh d ([tI x,tI y,tI w,tI h]::r)=if(oh (IntKind.i64.wrap (x+d)) y w h).2≠0 then(false,(oh (IntKind.i64.wrap (x+d)) y w h).2)else if(oh (IntKind.i64.wrap (x+d)) y w h).1=true then(true,0)else yj oh d r:=rfl
theorem RHt.next {oh:Int→Int→Int→Int→Bool×Int} {d x y w h:Int} {fl:Lz} {gn:List (Lz)} {i:Nat} (hi:(i:Int) < (fl.length:Int)) (hl:fl.length≤maxLen) (hf:yj oh d fl=yj oh d (fl.drop i)) (hs:fl[((i:Int)).toNat]? =some [tI x,tI y,tI w,tI h]) (h1:(oh (IntKind.i64.wrap (x+d)) y w h).2=0) (h2:(oh (IntKind.i64.wrap (x+d)) y w h).1=false):
 RHt oh d fl gn (fl.length - (i+1)) [iV .i64 (IntKind.i64.wrap ((i:Int)+1))] gn:=by
 refine⟨i+1,by omega,?_,rfl,by simp only[maxLen]at hl;rw[bh (by omega) (by omega)];rfl,rfl⟩
 rw[hf,BI hs,BD]
 rw[if_neg (fun hh=>hh h1),if_neg (by rw[h2];simp)]
theorem Se {oh:Int→Int→Int→Int→Bool×Int} {d x y w h:Int} {fl:Lz} {i:Nat} (hf:yj oh d fl=yj oh d (fl.drop i)) (hs:fl[((i:Int)).toNat]? =some [tI x,tI y,tI w,tI h]) (h1:¬ (oh (IntKind.i64.wrap (x+d)) y w h).2=0):¬ (yj oh d fl).2=0:=by
 rw[hf,BI hs,BD]
 rw[if_pos (show(oh (IntKind.i64.wrap (x+d)) y w h).2≠0 from h1)]
 exact h1
theorem Sd {oh:Int→Int→Int→Int→Bool×Int} {d x y w h:Int} {fl:Lz} {i:Nat} (hf:yj oh d fl=yj oh d (fl.drop i)) (hs:fl[((i:Int)).toNat]? =some [tI x,tI y,tI w,tI h]) (h1:(oh (IntKind.i64.wrap (x+d)) y w h).2=0) (h2:(oh (IntKind.i64.wrap (x+d)) y w h).1=true):yj oh d fl=(true,0):=by
 rw[hf,BI hs,BD]
 rw[if_neg (fun hh=>hh h1),if_pos h2]
theorem Sf {oh:Int→Int→Int→Int→Bool×Int} {d:Int} {fl:Lz} {i:Nat} (hf:yj oh d fl=yj oh d (fl.drop i)) (hi:fl.length≤i):yj oh d fl=(false,0):=by
 rw[hf,List.drop_eq_nil_of_le hi]
 rfl
section
variable {l r1 f1 t1 a1:Int} {ps ag poly fl:Lz} {id:ByteArray} {w1 l1 a2 b2 c2:Int}
theorem qM (hs:ps[((BR l ps poly).1).toNat]? =some [tI r1,tI f1,tI t1,tI a1]):jF l ps poly=[tI r1,tI f1,tI t1,tI a1]:=kK hs
theorem EW (hs:ps[((BR l ps poly).1).toNat]? =some [tI r1,tI f1,tI t1,tI a1]) (tc:ag[r1.toNat]? =some [.val (.string id),tI w1,tI l1,tI a2,tI b2,tI c2, .aB 4 fl]):Ib l ps ag poly=yj (OA poly) (IntKind.i64.wrap (a1 - f1)) fl:=by
 unfold Ib
 rw[qM hs,show nI 0 [tI r1,tI f1,tI t1,tI a1]=r1 from rfl,kK tc]
 rfl
theorem Xf (h:¬ (BR l ps poly).2=0):(BR l ps poly).2=0↔vJ l ps ag poly:=iff_of_false h fun hh=>h hh.SJ
theorem aeQ (hs:ps[((BR l ps poly).1).toNat]? =some [tI r1,tI f1,tI t1,tI a1]) (h:r1 < 0∨r1≥ (ag.length:Int)):¬vJ l ps ag poly:=fun hh=>by
 have h1:=hh.rng
 rw[qM hs]at h1
 have h1:0≤r1∧r1 < (ag.length:Int):=h1
 omega
theorem aeP (hs:ps[((BR l ps poly).1).toNat]? =some [tI r1,tI f1,tI t1,tI a1]) (tc:ag[r1.toNat]? =some [.val (.string id),tI w1,tI l1,tI a2,tI b2,tI c2, .aB 4 fl]) (h:¬Lb id w1 l1 a2 b2 c2 fl):¬vJ l ps ag poly:=fun hh=>by
 have h1:=hh.acP
 rw[qM hs]at h1
 have h1:yY (pD ag r1):=h1
 rw[kK tc]at h1
 exact h (yY.of h1)
theorem aeO (hs:ps[((BR l ps poly).1).toNat]? =some [tI r1,tI f1,tI t1,tI a1]) (tc:ag[r1.toNat]? =some [.val (.string id),tI w1,tI l1,tI a2,tI b2,tI c2, .aB 4 fl]) (h:¬ (yj (OA poly) (IntKind.i64.wrap (a1 - f1)) fl).2=0):¬vJ l ps ag poly:=fun hh=>by
 have h1:=hh.fl
 rw[EW hs tc]at h1
 exact h h1
theorem ON (hc:(BR l ps poly).2=0) (hs:ps[((BR l ps poly).1).toNat]? =some [tI r1,tI f1,tI t1,tI a1]) (h0:0≤r1) (h1:r1 < (ag.length:Int)) (tc:ag[r1.toNat]? =some [.val (.string id),tI w1,tI l1,tI a2,tI b2,tI c2, .aB 4 fl]) (hr:Lb id w1 l1 a2 b2 c2 fl) {b:Bool} (h:yj (OA poly) (IntKind.i64.wrap (a1 - f1)) fl=(b,0)):
 vJ l ps ag poly∧b=(Ib l ps ag poly).1:=by
 refine⟨⟨hc,?_,?_,?_⟩,?_⟩
 · rw[qM hs];exact⟨h0,h1⟩
 · rw[qM hs]
   show yY (pD ag r1)
   rw[kK tc]
   exact⟨_,_,_,_,_,_,_,rfl,hr⟩
 · rw[EW hs tc,h]
 · rw[EW hs tc,h]
end
theorem xG (l:Int) (ps ag poly:Lz) (hp:Ao ps) (jo:ps.length≤maxLen) (hR:Fh ag) (hx:bG poly) (hl:poly.length≤1000000):Tg 35 [Jw l ps,oL 7 ag,oL 2 poly] (GHt l ps ag poly):=by
 refine aJ ?_
 refine ah Tryz.func35 ?_
 repeat' (conv=>whnf
          first
  |(refine au (fun h=>?_) (fun h=>?_))
  |(refine ca (fun h=>?_) (fun h=>?_))
  |(refine aF (fun h=>?_) (fun h=>?_))
  |(refine And.intro (by omega) (Exists.intro _ (And.intro tc ?_)))
  |(refine aq (xs:=ps) hp (hn (by omega)).1 (hn (by omega)).2 ?_;rintro _ ⟨r1,f1,t1,a1,rfl⟩ hs)
  |(refine aq (xs:=ag) hR (by omega) (by omega) ?_;rintro _ ⟨id,w1,l1,a2,b2,c2,fl,rfl,bN,hfl,HU⟩ tc)
  |(refine aq (xs:=fl) hfl (by omega) (by omega) ?_;rintro _ ⟨x3,y3,w3,h3,rfl⟩ hsf)
  |(refine ai rfl (fc l ps poly hp jo hx hl) ?_;rintro _ ⟨rfl,hn,_⟩)
  |(refine ai rfl (tZ id w1 l1 a2 b2 c2 fl bN hfl HU) ?_;rintro _ ⟨e2,rfl,LN⟩)
  |(refine ai rfl (pM poly hx hl _ _ _ _) ?_;rintro _ ⟨rfl,_⟩)
  |exact dg rfl (bS rfl) (bS rfl) ⟨_,_,rfl,Xf (by assumption),fun h0=>absurd h0 (by assumption)⟩
  |exact dg rfl (bS rfl) (bS rfl) ⟨_,_,rfl,iff_of_false (by decide) (aeQ hs (by omega)),fun h0=>absurd h0 (by decide)⟩
  |exact dg rfl (bS rfl) (bS rfl) ⟨_,_,rfl,iff_of_false (by assumption) (aeP hs tc (fun hh=>absurd (LN.2 hh) (by assumption))),fun h0=>absurd h0 (by assumption)⟩
  |exact dg rfl (bS rfl) (bS rfl) ⟨_,_,rfl,iff_of_false (by assumption) (aeO hs tc (Se hf hsf (by assumption))),fun h0=>absurd h0 (by assumption)⟩
  |(have h9:=ON (by omega) hs (by omega) (by omega) tc (LN.1 (by omega)) (Sd hf hsf (by omega) (by assumption));exact dg rfl (bS rfl) (bS rfl) ⟨_,_,rfl,iff_of_true rfl h9.1,fun _=>h9.2⟩)
  |(have h9:=ON (by omega) hs (by omega) (by omega) tc (LN.1 (by omega)) (Sf hf (by omega));exact dg rfl (bS rfl) (bS rfl) ⟨_,_,rfl,iff_of_true rfl h9.1,fun _=>h9.2⟩)
  |(apply bp [2,10,54,55,56] [] [56] [(4,4)] (RHt (OA poly) (IntKind.i64.wrap (a1 - f1)) fl [[[tI r1,tI f1,tI t1,tI a1]]]) (fl.length) [iV .i64 0];(conv=>whnf);exact⟨rfl,rfl,rfl,rfl⟩;exact rfl;exact rfl;exact .cons (az.av (xs:=[[tI r1,tI f1,tI t1,tI a1]]) rfl _) .nil;exact⟨0,by omega,rfl,rfl,rfl,rfl⟩;rintro _ _ _ ⟨i,hi,hf,rfl,rfl,rfl⟩)
  |(refine ak [2,10,54,55,56] [] ?_;(conv=>whnf);exact⟨rfl,_,[_],_, .cons (az.av (xs:=[[tI r1,tI f1,tI t1,tI a1]]) rfl _) .nil,RHt.next (by omega) HU hf hsf (by omega) (by first|assumption|simp_all),rfl,rfl,by omega⟩))
 all_goals (conv=>whnf)
end Go.aT.Cd
end
section
namespace Go.aT.Cd
open Go Go.Proofs
set_option maxRecDepth 100000
set_option maxHeartbeats 1000000
variable [Aq]
theorem aCp:ju Tryz.prog 53=some true:=by kernel_rfl
theorem zCp:cF Tryz.prog 53=some 6:=by kernel_rfl
def DP (sizes places:Lz) (M:Nat) (ps:Lz):Prop:=pF ps∧ps.length=places.length∧GK sizes.length places∧(∀e,e∈sizes→Tm M e)∧sizes.length≤6
def NO (n:Nat) (m:Nat) (vs:List V) (xss:List (Lz)):Prop:= ∃ (i:Nat) (zs:Lz),i≤n∧m=n - i∧vs=[bD 4 1 zs.length,iV .i64 (i:Int)]∧xss=[zs]∧pF zs∧zs.length=i
theorem NO.next {n i k:Nat} {zs ps:Lz} (hi:(i:Int) < (n:Int)) (hn:n≤1000000) (hz:pF zs) (jn:zs.length=i) (hp:bG ps∧ps.length≤1000000) (hk:k=zs.length+1):NO n (n - (i+1)) [bD 4 1 k,iV .i64 (IntKind.i64.wrap ((i:Int)+1))] [zs++[[.aB 2 ps]]]:=by
 refine⟨i+1,_,by omega,rfl,by subst hk;rw[bh (by omega) (by omega)];simp,rfl,fun e he=>?_,by simp;omega⟩
 rcases List.mem_append.1 he with he|he
 · exact hz e he
 · simp only[List.mem_singleton]at he
   exact⟨ps,he,hp⟩
theorem Bf (sn:ByteArray) (bK ms ps us ss os:Lz) (hS:jy sn bK ms ps us ss os) (ln wd rx ry:Int) (sizes places:Lz) (hz:Is sizes) (jn:sizes.length≤maxLen) (jo:PS places) (TI:places.length≤1000000):Tg 15 [mA sn bK ms ps us ss os,Mx ln wd rx ry sizes places] (N2 1 (DP sizes places bK.length)):=by
 refine aJ ?_
 refine ah Tryz.func15 ?_
 repeat' (conv=>whnf
          first
  |(refine au (fun h=>?_) (fun h=>?_))
  |(refine ca (fun h=>?_) (fun h=>?_))
  |(refine aq (xs:=fZ) (hA (by omega)).2.1 (by omega) (by omega) ?_;rintro _ ⟨sh,f,q,x,y,rfl,Xn,Xm⟩ hs)
  |(have h8:=(hA (by omega)).2.2.1;refine And.intro ⟨by simp[tr],by simp[tr,aW];omega,by simp[tr,maxLen];omega⟩ ?_)
  |(refine ai rfl (vj sn bK ms ps us ss os hS ln wd rx ry sizes places hz jn jo TI) ?_;rintro _ ⟨fC,fZ,e,rfl,hA⟩)
  |(refine ai rfl (qx fC (hA (by omega)).1 sh f q x y) ?_;rintro _ ⟨pl,e2,rfl,hP⟩)
  |exact dg rfl (bR 1 rfl) (bS rfl) ⟨_,_,rfl,fun h0=>absurd h0 (by omega)⟩
  |exact dg rfl (fz rfl rfl (xs:=zs) rfl (by omega)) (bS rfl) ⟨_,_,rfl,fun _=>by rw[fG rfl];have h9:=hA (by omega);exact⟨hzs,by omega,h9.2.2.2⟩⟩
  |(apply dQ [6,9,24,25,26] [] [9,26] [(4,1)] (NO fZ.length) (fZ.length) [bD 4 1 0,iV .i64 0] (dK.jq 9 1 rfl);(conv=>whnf);exact⟨rfl,rfl,rfl,rfl⟩;exact rfl;exact rfl;exact .cons (az.av az.nil _) .nil;exact⟨0,[],by omega,rfl,rfl,rfl,fun e he=>by simp at he,rfl⟩;rintro _ _ _ ⟨i,zs,hi,rfl,rfl,rfl,hzs,ff⟩)
  |(refine ak [6,9,24,25,26] [] ?_;(conv=>whnf);exact⟨rfl,_,[_,_],_, .cons (az.av (az.snoc (xs:=zs) rfl [.aB 2 _]) _) .nil,NO.next (by omega) (by have:=(hA (by omega)).2.2.1;omega) hzs ff (hP (by omega)).1 (by simp[tr]),rfl,rfl,by omega⟩))
 all_goals (conv=>whnf)
def Oy (sn:ByteArray) (bK ms ps us ss os:Lz) (ln wd rx ry:Int) (sizes places:Lz):Lz×Int:=pk 15 [mA sn bK ms ps us ss os,Mx ln wd rx ry sizes places] (fun p=>[oL 1 p.1,oI p.2]) (fun p=>p.2=0→DP sizes places bK.length p.1)
theorem yJ (sn:ByteArray) (bK ms ps us ss os:Lz) (hS:jy sn bK ms ps us ss os) (ln wd rx ry:Int) (sizes places:Lz) (hz:Is sizes) (jn:sizes.length≤maxLen) (jo:PS places) (TI:places.length≤1000000):
 ∃ts,Fn Tryz.prog 15 [mA sn bK ms ps us ss os,Mx ln wd rx ry sizes places] [] (aL ts) []∧(aL ts).bL=true∧(ts=[oL 1 (Oy sn bK ms ps us ss os ln wd rx ry sizes places).1,oI (Oy sn bK ms ps us ss os ln wd rx ry sizes places).2]∧((Oy sn bK ms ps us ss os ln wd rx ry sizes places).2=0→DP sizes places bK.length (Oy sn bK ms ps us ss os ln wd rx ry sizes places).1)):=by
 obtain⟨ts,h1,h2,x,e,rfl,h3⟩:=Bf sn bK ms ps us ss os hS ln wd rx ry sizes places hz jn jo TI
 exact ue (enc:=fun p:Lz×Int=>[oL 1 p.1,oI p.2]) (Q:=fun p=>p.2=0→DP sizes places bK.length p.1) ⟨(x,e),h1,h2,h3⟩
abbrev Wu (p q l s:Int) (x:T) (d:Bool):W:= .agg [.t (tI p), .t (tI q), .t (tI l), .t (tI s), .t x, .t (tB d)]
def GPo (dJ:Int) (ps ag poly:Lz) (sy place sz:Int) (ts:List W):Prop:= ∃p q l s x d e,ts=[Wu p q l s x d,oI e]∧(e=0↔vJ dJ ps ag poly)∧
 (e=0→p=sy∧q=place∧l=dJ∧s=sz∧x= .aB 1 [[tI (nI 0 (jF dJ ps poly))]]∧d=(Ib dJ ps ag poly).1)
theorem vE (ln wd rx ry:Int) (sizes places plies ag poly:Lz) (hR:Fh ag) (hx:bG poly) (hl:poly.length≤1000000) (sy place dJ g u k q x y sz:Int) (f:Bool) (ps:Lz) (hps:Ao ps) (jo:ps.length≤maxLen) (h0:0≤sy) (hy:plies[sy.toNat]? =some [tI dJ, .aB 4 ps]) (h1:0≤place) (J2:places[place.toNat]? =some [tI g,tI u,tI k,tB f,tI q,tI x,tI y]) (h2:0≤g) (hsz:sizes[g.toNat]? =some [tI sz]):Tg 42 [o8 ln wd rx ry sizes places plies,oL 7 ag,oI sy,oI place,oL 2 poly] (GPo dJ ps ag poly sy place sz):=by
 refine aJ ?_
 refine ah Tryz.func42 ?_
 repeat' (conv=>whnf
          first
  |(refine ca (fun h=>?_) (fun h=>?_))
  |(refine And.intro h0 (Exists.intro _ (And.intro hy ?_)))
  |(refine And.intro h1 (Exists.intro _ (And.intro J2 ?_)))
  |(refine And.intro h2 (Exists.intro _ (And.intro hsz ?_)))
  |(refine aq (xs:=ps) hps (hn (by omega)).1 (hn (by omega)).2 ?_;rintro _ ⟨r1,f1,t1,a1,rfl⟩ hs)
  |(refine And.intro (by kernel_rfl) ?_)
  |(refine ai rfl (fc dJ ps poly hps jo hx hl) ?_;rintro _ ⟨rfl,hn,_⟩)
  |(refine ai rfl (xG dJ ps ag poly hps jo hR hx hl) ?_;rintro _ ⟨hb,he,rfl,MU,RR⟩)
  |exact dg rfl (bE aCp zCp rfl rfl (Nat.le_refl _) rfl (cS.refl _)) (bS rfl) ⟨_,_,_,_,_,_,_,rfl,Xf (by assumption),fun h0=>absurd h0 (by assumption)⟩
  |exact dg rfl (bE aCp zCp rfl rfl (Nat.le_refl _) rfl (cS.refl _)) (bS rfl) ⟨_,_,_,_,_,_,_,rfl,MU,fun h0=>absurd h0 (by assumption)⟩
  |exact dg rfl (bE aCp zCp rfl rfl (Nat.le_refl _) rfl (cS.refl _)) (bS rfl) ⟨_,_,_,_,_,_,_,rfl,iff_of_true rfl (MU.1 (by assumption)),fun _=>⟨rfl,rfl,rfl,rfl,by rw[qM hs];rfl,RR (by assumption)⟩⟩)
 all_goals (conv=>whnf)
end Go.aT.Cd
end
section
namespace Go.Proofs
open Go.Shelf
def Tryz.Eg:Go.Shelf.Ren:=⟨fun|6=>63|15=>87|14=>86|28=>117|29=>118|20=>109|21=>110|22=>111|23=>112|24=>113|25=>114|26=>115|27=>116|46=>143|47=>144|48=>145|49=>146|50=>147|57=>172|n=>n,fun|22=>175|24=>177|25=>180|3=>3|39=>205|0=>0|53=>238|55=>240|4=>4|46=>232|45=>231|50=>101|5=>5|9=>9|66=>260|70=>264|76=>306|77=>307|n=>n,fun|n=>n⟩
theorem Tryz.I2:Go.Proofs.SlLaysF0.n6 Tryz.prog Tryz.Eg:={
 mixed:=by kernel_rfl
 f6:=⟨Tryz.f63.name,by decide,Tryz.func63.trans (congrArg some (by kernel_rfl))⟩
 f14:=⟨Tryz.f86.name,by decide,Tryz.func86.trans (congrArg some (by kernel_rfl))⟩
 f15:=Tryz.func87.trans (congrArg some (by kernel_rfl))
 f20:=⟨Tryz.f109.name,by decide,Tryz.func109.trans (congrArg some (by kernel_rfl))⟩
 f21:=⟨Tryz.f110.name,by decide,Tryz.func110.trans (congrArg some (by kernel_rfl))⟩
 f22:=⟨Tryz.f111.name,by decide,Tryz.func111.trans (congrArg some (by kernel_rfl))⟩
 f23:=⟨Tryz.f112.name,by decide,Tryz.func112.trans (congrArg some (by kernel_rfl))⟩
 f24:=⟨Tryz.f113.name,by decide,Tryz.func113.trans (congrArg some (by kernel_rfl))⟩
 f25:=⟨Tryz.f114.name,by decide,Tryz.func114.trans (congrArg some (by kernel_rfl))⟩
 f26:=⟨Tryz.f115.name,by decide,Tryz.func115.trans (congrArg some (by kernel_rfl))⟩
 f27:=⟨Tryz.f116.name,by decide,Tryz.func116.trans (congrArg some (by kernel_rfl))⟩
 f28:=Tryz.func117.trans (congrArg some (by kernel_rfl))
 f29:=Tryz.func118.trans (congrArg some (by kernel_rfl))
 f46:=⟨Tryz.f143.name,by decide,Tryz.func143.trans (congrArg some (by kernel_rfl))⟩
 f47:=Tryz.func144.trans (congrArg some (by kernel_rfl))
 f48:=Tryz.func145.trans (congrArg some (by kernel_rfl))
 f49:=⟨Tryz.f146.name,by decide,Tryz.func146.trans (congrArg some (by kernel_rfl))⟩
 f50:=⟨Tryz.f147.name,by decide,Tryz.func147.trans (congrArg some (by kernel_rfl))⟩
 f57:=⟨Tryz.f172.name,by decide,Tryz.func172.trans (congrArg some (by kernel_rfl))⟩
 t0:=Tryz.underlying0
 a0:=Tryz.isAgg0
 z0:=Tryz.sizeOf0
 v0:=Tryz.zeroValue0
 t3:=Tryz.underlying3
 a3:=Tryz.isAgg3
 z3:=Tryz.sizeOf3
 v3:=Tryz.zeroValue3
 t4:=Tryz.underlying4
 a4:=Tryz.isAgg4
 z4:=Tryz.sizeOf4
 v4:=Tryz.zeroValue4
 t5:=Tryz.underlying5
 a5:=Tryz.isAgg5
 z5:=Tryz.sizeOf5
 v5:=Tryz.zeroValue5
 t9:=Tryz.underlying9
 a9:=Tryz.isAgg9
 z9:=Tryz.sizeOf9
 v9:=Tryz.zeroValue9
 t22:=Tryz.underlying175
 a22:=Tryz.isAgg175
 z22:=Tryz.sizeOf175
 v22:=Tryz.zeroValue175
 t25:=Tryz.underlying180
 a25:=Tryz.isAgg180
 z25:=Tryz.sizeOf180
 v25:=Tryz.zeroValue180
 t39:=Tryz.underlying205
 a39:=Tryz.isAgg205
 z39:=Tryz.sizeOf205
 v39:=Tryz.zeroValue205
 t45:=Tryz.underlying231
 a45:=Tryz.isAgg231
 z45:=Tryz.sizeOf231
 v45:=Tryz.zeroValue231
 t46:=Tryz.underlying232
 a46:=Tryz.isAgg232
 z46:=Tryz.sizeOf232
 v46:=Tryz.zeroValue232
 t50:=Tryz.underlying101
 a50:=Tryz.isAgg101
 z50:=Tryz.sizeOf101
 v50:=Tryz.zeroValue101
 t53:=Tryz.underlying238
 a53:=Tryz.isAgg238
 z53:=Tryz.sizeOf238
 v53:=Tryz.zeroValue238
 t55:=Tryz.underlying240
 a55:=Tryz.isAgg240
 z55:=Tryz.sizeOf240
 v55:=Tryz.zeroValue240
 t66:=Tryz.underlying260
 a66:=Tryz.isAgg260
 z66:=Tryz.sizeOf260
 v66:=Tryz.zeroValue260
 t70:=Tryz.underlying264
 a70:=Tryz.isAgg264
 z70:=Tryz.sizeOf264
 v70:=Tryz.zeroValue264
 t76:=Tryz.underlying306
 a76:=Tryz.isAgg306
 z76:=Tryz.sizeOf306
 v76:=Tryz.zeroValue306
 t77:=Tryz.underlying307
 a77:=Tryz.isAgg307
 z77:=Tryz.sizeOf307
 v77:=Tryz.zeroValue307}
def Tryz.E5:Go.Shelf.Ren:=⟨fun|5=>65|7=>88|n=>n,fun|22=>3|3=>3|4=>4|n=>n,fun|n=>n⟩
theorem Tryz.SD:Go.Proofs.SlLaysC2.n5 Tryz.prog Tryz.E5:={
 mixed:=by kernel_rfl
 f5:=⟨Tryz.f65.name,by decide,Tryz.func65.trans (congrArg some (by kernel_rfl))⟩
 f7:=⟨Tryz.f88.name,by decide,Tryz.func88.trans (congrArg some (by kernel_rfl))⟩
 t3:=Tryz.underlying3
 a3:=Tryz.isAgg3
 z3:=Tryz.sizeOf3
 v3:=Tryz.zeroValue3
 t4:=Tryz.underlying4
 a4:=Tryz.isAgg4
 z4:=Tryz.sizeOf4
 v4:=Tryz.zeroValue4
 t22:=Tryz.underlying3
 a22:=Tryz.isAgg3
 z22:=Tryz.sizeOf3
 v22:=Tryz.zeroValue3}
end Go.Proofs
end
section
namespace Go.aT.Cd
open Go Go.Proofs Go.Sort Go.Shelf Go.RowKit Go.Lib
set_option maxRecDepth 100000
abbrev Zn:=Int×Int
abbrev eZ (x:Zn):List T:=[tI x.1,tI x.2]
abbrev rZ (l:List Zn):Lz:=l.map eZ
def tH (x:Zn):List Value:=[.int .i64 x.1, .int .i64 x.2]
def PA (x y:Zn):Int:=Lib.compareInt x.1 y.1
def nG (d:Array Zn):Array Zn:=pdq (ltOf PA) d 0 d.size (Lib.bitLen d.size) true true
def cK (l:List Zn):List Zn:=(nG l.toArray).toList
theorem ltZ (x y:Zn):ltOf PA x y=decide (x.1 < y.1):=by
 unfold ltOf PA Lib.compareInt
 by_cases h1:x.1 < y.1
 · simp[h1]
 · by_cases h2:y.1 < x.1<;>simp[h1,h2]
theorem VZ:SWO (ltOf PA) where
 irrefl x:=by rw[ltZ];simp
 trans x y z h1 h2:=by rw[ltZ]at *;simp at *;omega
 ntrans x y z h1 h2:=by rw[ltZ]at *;simp at *;omega
theorem Eh (d:Array Zn):PermIn 0 d.size d (nG d):=(pdq_sorts (ltOf PA) VZ d 0 d.size (Lib.bitLen d.size) true true (Nat.zero_le _) (Nat.le_refl _) (Or.inl rfl)).1
theorem aP (l:List Zn):(cK l).length=l.length:=by
 have:=(Eh l.toArray).1
 simpa[cK]using this
theorem Nc {M:Nat→Prop} (w:World) (b n:Nat) (F:Array Value) (os:Array Obj) (hM:M b) (hlt:b < w.heap.size):
 dj M w (grow (putRow id (Sort.ahead w n) b 0 F) os):=by
 have hb: ∀k,k < w.heap.size→(grow (putRow id (Sort.ahead w n) b 0 F) os).heap[k]? =if b=k then(w.heap[k]?).map (onCells (putCells id 0 F))else w.heap[k]? :=by
  intro k hk
  rw[heap_grow_old _ _ (by simpa[putRow,mapBlock,Sort.ahead]using hk)]
  simp only[putRow,mapBlock,Sort.ahead,Array.getElem?_modify]
 refine⟨rfl,rfl,rfl,by simp[putRow,mapBlock,Sort.ahead],fun k hk ho=>?_,fun k hk=>?_⟩
 · have hne:¬b=k:=fun e=>ho (by rw[←e];exact hM)
   rw[hb k hk,if_neg hne]
 · simp only[World.shape?,hb k hk]
   by_cases TO:b=k
   · rw[if_pos TO]
     cases h:w.heap[k]? with
     |none=>rfl
     |some o=>cases o<;>simp[onCells,putCells]
   · rw[if_neg TO]
theorem Mn {w:World} {A:Nat→Prop} {ρ:Env} {u:W} {v:Value} {xs:Array Value} (h:BW w A ρ [u, .one (.t (.val v))] xs.toList): ∃y,RW w A ρ u y∧xs= #[y,v]:=by
 obtain⟨hl,hx⟩:=h
 have h1:xs.toList.length=2:=by rw[←hl];rfl
 match hq:xs.toList,h1 with
 | [y,z],_=>
   have hy:=hx 0 _ y rfl (by rw[hq];rfl)
   have hz:=hx 1 _ z rfl (by rw[hq];rfl)
   cases hz.1
   refine⟨y,hy,?_⟩
   rw[←Array.toArray_toList (xs:=xs),hq]
def gA (P:Program) (f g:Nat):Prop:=
 (∀ (blk cap:Nat) (d:Array Zn) (w:World),HoldsK tH 2 w blk 0 d→blk < w.heap.size→d.size < 4611686018427387904→
   Calls P f #[.slice (some ⟨blk,0,none⟩) d.size cap, .func (.func g) #[] #[]] w fun e w'=>e= .returned (.tuple #[])∧ ∃n os,w'=sortWorldK tH 2 w blk 0 n (nG d) os)∧
 (∀ (p:Option Addr) (cap:Nat) (w:World),Calls P f #[.slice p 0 cap, .func (.func g) #[] #[]] w fun e w'=>e= .returned (.tuple #[])∧w'=w)
set_option maxHeartbeats 1000000 in
theorem KJ (x y:Zn) (W:World):Calls Tryz.prog 64 #[.agg #[.int .i64 x.1, .int .i64 x.2], .agg #[.int .i64 y.1, .int .i64 y.2]] W fun e w'=>e= .returned (.int .i64 (PA x y))∧ ∃q os',w'=grow (W.drewN q) os':=by
 have RX:=fun W'=>AnyG.cmp_Compare_int Tryz.SD x.1 y.1 W'
 change ∀W',Calls Tryz.prog 65 _ _ _ at RX
 unfold PA
 generalize Lib.compareInt x.1 y.1=r at RX⊢
 go_enter Tryz.func64,Tryz.ntmps64
 go_wp2_with (go_at_call 65;refine(RX _).mono ?_;rintro e w' ⟨rfl,rfl⟩)
 go_ret
 exact⟨rfl,0,_,by rw[alloc_eq_grow,alloc_eq_grow,grow_grow];rfl⟩
theorem jP:gA Tryz.prog 63 64:=by
 refine⟨fun blk cap d w hH hb hs=>?_,fun p cap w=>?_⟩
 · have eg: ∀args w,(callFunc 64 args).run Tryz.prog w= .ok (.enter 64 args) w:=enters_of Tryz.func64 (by kernel_rfl) rfl
   exact AnyQ.slices_SortFunc_eq Tryz.I2 2 Tryz.isAgg177 Tryz.sizeOf177 tH (fun _=>rfl) (fun x v hv=>by simp[tH]at hv;rcases hv with rfl|rfl<;>rfl) PA VZ 64 #[] blk 0 cap d w eg (fun _ _ _ _ x y=>KJ x y _) hH hb hs
 · exact AnyF.slices_SortFunc_none {Tryz.I2 with} p cap _ w
theorem O3 (d:Array Zn) (i:Nat) (x:Zn) (h:d[i]? =some x):i * 2+1 < (flatK tH 2 d).size∧(flatK tH 2 d)[i * 2]! = .int .i64 x.1∧(flatK tH 2 d)[i * 2+1]! = .int .i64 x.2:=by
 obtain⟨hi,hx⟩:=Array.getElem?_eq_some_iff.1 h
 have e:d[i]! =x:=by rw[getElem!_pos d i hi,hx]
 refine⟨by rw[size_flatK];omega,?_,?_⟩
 · rw[get_flatK _ _ _ _ (by omega),show i * 2 / 2=i by omega,show i * 2 % 2=0 by omega,e];rfl
 · rw[get_flatK _ _ _ _ (by omega),show(i * 2+1) / 2=i by omega,show(i * 2+1) % 2=1 by omega,e];rfl
theorem Mh {P:Program} {f g:Nat} (hS:gA P f g) (l:List Zn) (hl:l.length < 4611686018427387904):
 Fn P f [.one (.own 0 2 0 l.length),fV g] [(0, .row 2 (tr (rZ l)))] (aL []) [(0, .row 2 (tr (rZ (cK l))))]:=by
 intro w A ρ xs hH hxs
 obtain⟨y,hy,rfl⟩:=Mn hxs
 obtain⟨h1,h2⟩:=hH.heap 0 _ rfl
 rcases hy.1 with⟨b,cap,n,e,k1,rfl,k3,k4,k5⟩|⟨k1,_,k3,rfl⟩
 · rcases h2 with⟨b',c,e',r1,r2,r3,r4,r5,r6⟩|⟨r1,_⟩
   · rw[k1]at r1
     simp only[Option.some.injEq,Loc.gz.injEq]at r1
     subst r1
     have hb:b < w.heap.size:=(Array.getElem?_eq_some_iff.1 r4).1
     have hcell: ∀ (i:Nat) (x:Zn),l[i]? =some x→c[i * 2]? =some (.int .i64 x.1)∧c[i * 2+1]? =some (.int .i64 x.2):=by
      intro i x hi
      have hrow:(tr (rZ l))[i]? =some ((eZ x).map C.t):=by simp[tr,rZ,hi]
      obtain⟨y0,g1,g2,_⟩:=r6 i _ 0 _ hrow rfl
      obtain⟨y1,g3,g4,_⟩:=r6 i _ 1 _ hrow rfl
      cases g2
      cases g4
      exact⟨g1,g3⟩
     have XY:HoldsK tH 2 w b 0 l.toArray:=by
      intro j hj
      rw[size_flatK,List.size_toArray]at hj
      obtain⟨i,hi,fT⟩: ∃i,i < l.length∧(j=i * 2∨j=i * 2+1):=⟨j / 2,by omega,by omega⟩
      obtain⟨q1,q2⟩:=hcell i l[i] (by simp[hi])
      obtain⟨_,q3,q4⟩:=O3 l.toArray i l[i] (by simp[hi])
      refine⟨?_,by simp only[World.frozen?,r4];simp⟩
      simp only[World.cell?,r4,id,Nat.zero_add,Option.isSome_none,Bool.false_eq_true,if_false]
      rcases fT with rfl|rfl
      · rw[q1,q3]
      · rw[q2,q4]
     have hc:=hS.1 b cap l.toArray w XY hb (by simpa using hl)
     rw[List.size_toArray]at hc
     have hz:(0 * 2:Nat)=0:=rfl
     rw[hz]
     refine hc.mono ?_
     rintro ex w' ⟨rfl,n',os,rfl⟩
     have dU:=Nc (M:=fun k=>qS ρ [(0,bA.row 2 (tr (rZ l)))] k∨w.heap.size≤k) w b n' (flatK tH 2 (nG l.toArray)) os (.inl ⟨0,_,rfl,k1⟩) hb
     have hsz:(nG l.toArray).size=l.length:=by have:=aP l;simpa[cK]using this
     refine⟨.tuple #[],A,ρ,bu 4,rfl,⟨#[],rfl,rfl,fun k u x hu=>by simp at hu⟩,⟨rfl,rfl,fun t v hv=>by simp[find]at hv,fun id blk hb'=>?_,fun id id' blk gf b' q1 q2 q3 q4=>?_,hH.fresh,fun k hk=>Nat.lt_of_lt_of_le (hH.bound k hk) dU.size,fun k hk=> .inr (Nat.le_trans dU.size hk),hH.ep.Ig dU (fun _ _ h=>h)⟩,dU,iZ.refl _,bH.refl _ _⟩
     · simp only[aA]at hb'
       split at hb'
       · rename_i e0
         subst e0
         simp only[Option.some.injEq]at hb'
         subst hb'
         refine⟨fun el hel=>?_, .inl ⟨b,putCells id 0 (flatK tH 2 (nG l.toArray)) c,e',k1, .inl ⟨0,_,rfl,k1⟩,r3,?_,?_,fun i el j q hi hj=>?_⟩⟩
         · simp only[tr,rZ,List.mem_map]at hel
           obtain⟨_,⟨x,_,rfl⟩,rfl⟩:=hel
           rfl
         · unfold sortWorldK putRowK
           rw[heap_grow_old _ _ (by simpa[putRow,mapBlock,Sort.ahead]using hb)]
           simp[putRow,mapBlock,Sort.ahead,Array.getElem?_modify,r4,onCells]
         · have:(tr (rZ l)).length=l.length:=by simp[tr,rZ]
           rw[this]at r5
           simp[tr,rZ,aP,putCells]
           exact r5
         · simp only[tr,rZ,List.getElem?_map,Option.map_eq_some_iff]at hi
           obtain⟨_,⟨x,hx,rfl⟩,rfl⟩:=hi
           have hx':(nG l.toArray)[i]? =some x:=by simpa[cK]using hx
           obtain⟨g1,g2,g3⟩:=O3 _ i x hx'
           have hcs: ∀k,k < (flatK tH 2 (nG l.toArray)).size→(putCells id 0 (flatK tH 2 (nG l.toArray)) c)[k]? =some (flatK tH 2 (nG l.toArray))[k]! :=by
            intro k hk
            have hkc:k < c.size:=by
             have:(tr (rZ l)).length=l.length:=by simp[tr,rZ]
             rw[this]at r5
             rw[size_flatK,hsz]at hk
             omega
            simp only[putCells,Array.getElem?_mapIdx,Nat.zero_le,Nat.zero_add,true_and,Nat.sub_zero,hk,if_true,id]
            rw[Array.getElem?_eq_getElem hkc]
            rfl
           match j,hj with
           |0,hj=>
            simp only[List.map_cons,List.getElem?_cons_zero,Option.some.injEq]at hj
            subst hj
            exact⟨_,by rw[Nat.add_zero];exact hcs _ (by omega),by rw[g2];exact .val rfl,by rw[g2];rfl⟩
           |1,hj=>
            simp only[List.map_cons,List.getElem?_cons_succ,List.getElem?_cons_zero,Option.some.injEq]at hj
            subst hj
            exact⟨_,hcs _ g1,by rw[g3];exact .val rfl,by rw[g3];rfl⟩
           |j+2,hj=>simp at hj
       · simp[find]at hb'
     · simp only[aA]at q1 q2
       split at q1
       · split at q2
         · omega
         · simp[find]at q2
       · simp[find]at q1
   · rw[k1]at r1
     simp at r1
 · have F6:l=[]:=List.length_eq_zero_iff.1 k3
   subst F6
   refine(hS.2 none 0 w).mono ?_
   rintro ex w' ⟨rfl,rfl⟩
   exact⟨.tuple #[],A,ρ,bu 4,rfl,⟨#[],rfl,rfl,fun k u x hu=>by simp at hu⟩,by simpa[cK,show nG #[]= #[]from by have:=aP [];simpa[cK]using this]using hH,dj.refl _ _,iZ.refl _,bH.refl _ _⟩
end Go.aT.Cd
end
section
namespace Go.aT
open Go
end Go.aT
end
section
namespace Go.aT
open Go
open Go.ChangeMaps (setBlock)
variable {P:Program} {M A:Nat→Prop} {ρ:Env} {F:Nat→Prop} {st:St} {a:Act} {w:World}
def isKey (k:Int) (p:Value×C×Nat):Bool:=match p.1 with
 | .int .i64 m=>m==k
 |_=>false
def er (k:Int) (es:fD):fD:=es.filter fun p=> !isKey k p
def NK (es:fD):Prop:=(es.map (·.1)).Nodup
theorem HF {k:Int} {p:Value×C×Nat}:isKey k p=true↔p.1= .int .i64 k:=by
 unfold isKey
 split
 · rename_i m h
   rw[h]
   simp
 · rename_i h
   simp only[Bool.false_eq_true,false_iff]
   exact fun e=>h k e
theorem xC {k:Int} {es:fD} {p:Value×C×Nat} (h:p∈er k es):p∈es∧p.1≠ .int .i64 k:=by
 simp only[er,List.mem_filter,Bool.not_eq_true']at h
 refine⟨h.1,fun e=>?_⟩
 rw[HF.2 e]at h
 simp at h
theorem NK.er {es:fD} (h:NK es) (k:Int):NK (er k es):=List.Nodup.sublist (List.filter_sublist.map _) h
theorem NK.nil:NK []:=by simp[NK]
theorem NK.put {es es':fD} {clock clock':Nat} {kv:Value} {c:C} (h:NK es) (hp:DI es clock kv c es' clock'):NK es':=by
 rcases hp with⟨i,p,hi,rfl,rfl,_⟩|⟨hne,rfl,_⟩
 · unfold NK
   have:(es.set i (p.1,c,p.2.2)).map (·.1)=es.map (·.1):=by
    apply List.ext_getElem?
    intro j
    simp only[List.getElem?_map,List.getElem?_set]
    by_cases hij:i=j
    · subst hij
      have hlt:i < es.length:=(List.getElem?_eq_some_iff.1 hi).1
      simp[hlt,hi]
      have:=(List.getElem?_eq_some_iff.1 hi)
      obtain⟨_,h2⟩:=this
      rw[h2]
    · simp[hij]
   rw[this]
   exact h
 · unfold NK
   rw[List.map_append,List.nodup_append]
   refine⟨h,by simp,?_⟩
   intro x hx y hy
   simp only[List.mem_map]at hx
   obtain⟨p,hp,rfl⟩:=hx
   simp only[List.map_cons,List.map_nil,List.mem_singleton]at hy
   subst hy
   exact hne p hp
def YJ (M:Nat→Prop) (r:Nat):Nat→Prop:=fun b=>M b∧b≠r
end Go.aT
end
section
namespace Go.aT
open Go
open Go.ChangeMaps (setBlock)
variable {P:Program} {M A:Nat→Prop} {ρ:Env} {F:Nat→Prop} {st:St} {a:Act} {w:World}
end Go.aT
end
section
namespace Go.aT
open Go
open Go.ChangeMaps (setBlock)
variable {P:Program} {M A:Nat→Prop} {ρ:Env} {F:Nat→Prop} {st:St} {a:Act} {w:World}
def erB (k:Int):bA→bA
 | .mp e c=> .mp (er k e) c
 |b=>b
def hE (S:Nat→Bool) (k:Int) (hp:HS):HS:=hp.map fun q=>(q.1,if S q.1 then erB k q.2 else q.2)
structure aiC (es:fD) (ck o:Nat) (hp:HS):Prop where
 out:find hp o=some (.mp es ck)
 Zk: ∀p,p∈es→YK p.1∧p.2.2 < ck∧ ∃id ei ci,p.2.1= .map id∧id≠o∧find hp id=some (.mp ei ci)∧NK ei∧ ∀x,x∈ei→YK x.1
 born:(es.map (·.2.2)).Nodup
 Sw: ∀ (p q:Value×C×Nat) (id:Nat),p∈es→q∈es→p.2.1= .map id→q.2.1= .map id→p.2.2=q.2.2
end Go.aT
end
section
namespace Go.aT
open Go
open Go.ChangeMaps (setBlock)
variable {P:Program} {M A:Nat→Prop} {ρ:Env} {F:Nat→Prop} {st:St} {a:Act} {w:World}
theorem HB.more {id:Nat} {blk:bA} {r:Nat} (h:HB w (YJ M r) A ρ id blk):HB w M A ρ id blk:=by
 cases blk with
 |row sz xs=>
  obtain⟨h1,h2⟩:=h
  refine⟨h1,?_⟩
  rcases h2 with⟨b,c,e,k1,k2,k3⟩|h2
  · exact .inl ⟨b,c,e,k1,k2.1,k3⟩
  · exact .inr h2
 |mp es clock=>
  obtain⟨b,en,k1,k2,k3⟩:=h
  exact⟨b,en,k1,k2.1,k3⟩
theorem Rel.more {r:Nat} (h:Rel (YJ M r) A ρ F st a w) (hA:A r):Rel M A ρ F st a w:=by
 refine⟨h.size,h.defers,h.tmps,fun id blk hf=>(h.heap id blk hf).more,h.inj,h.fresh,h.bound,fun b hb=>(h.may b hb).1,fun g vs hg=>?_⟩
 obtain⟨h1,h2,h3,h4⟩:=h.ep g vs hg
 exact⟨h1,fun hm=>h2 ⟨hm,fun e=>h3 (e▸hA)⟩,h3,h4⟩
end Go.aT
end
section
namespace Go.aT
open Go
variable {P:Program}
inductive DX (P:Program) (n:Nat) (r:Rc) (Q:Exit→TS→HS→Nat→Prop) (tm:TS) (hp:HS) (ctr:Nat):Prop
 |mk (h: ∀c,aS P c=some r→ ∃e st' c',o7 n (Q e) st' c'∧Wp P c (fun e2 s k=>e2=e∧Is st' c' s k) ⟨n,tm,hp⟩ ctr)
theorem DX.get {n:Nat} {r:Rc} {Q:Exit→TS→HS→Nat→Prop} {tm:TS} {hp:HS} {ctr:Nat} (h:DX P n r Q tm hp ctr): ∀c,aS P c=some r→ ∃e st' c',o7 n (Q e) st' c'∧Wp P c (fun e2 s k=>e2=e∧Is st' c' s k) ⟨n,tm,hp⟩ ctr:=by
 cases h with
 |mk h=>exact h
variable {n:Nat} {Q:Exit→TS→HS→Nat→Prop} {tm:TS} {hp:HS} {ctr:Nat}
theorem dK.forget {bg:TS} {aG:HS} {c':Nat} (hc:ctr≤c') (ht: ∀t v,find bg t=some v→find tm t=some v) (hh: ∀id b,find aG id=some b→find hp id=some b):dK tm hp ctr bg aG c':=
 fun M A ρ _ _ w hr=>⟨A,ρ,(Rel.forget (st':=⟨_,bg,aG⟩) hr rfl ht hh).sub (fun _ h=>Nat.le_trans hc h),iZ.refl _,gD.refl M A w⟩
def JN (ks:List Nat) (tm:TS):TS:=ks.filterMap fun t=>(find tm t).map fun v=>(t,v)
theorem EY {tm:TS}: ∀ {ks:List Nat} {t:Nat} {v:V},find (JN ks tm) t=some v→find tm t=some v:=by
 intro ks t v h
 have hm:=fN h
 simp only[JN,List.mem_filterMap,Option.map_eq_some_iff,Prod.mk.injEq]at hm
 obtain⟨t',_,u,hu,rfl,rfl⟩:=hm
 exact hu
theorem dK.keep (ks:List Nat):dK tm hp ctr (JN ks tm) hp ctr:=dK.forget (Nat.le_refl _) (fun _ _ h=>EY h) (fun _ _ h=>h)
end Go.aT
end
section
namespace Go.aT
open Go
variable {P:Program}
structure Ms (n:Nat) (es:fD) (ck o:Nat) (hp:HS) (c:Nat):Prop where
 rg:aiC es ck o hp
 nk:NK es
 keys: ∀p,p∈es→ ∃j:Nat,j < n∧p.1= .int .i64 (j:Int)
 lo:o < c
 li: ∀ (p:Value×C×Nat) (id:Nat),p∈es→p.2.1= .map id→id < c
theorem Ms.new {o c n:Nat} {hp:HS} (h:find hp o=some (.mp [] 0)) (hc:o < c):Ms n [] 0 o hp c:=
 ⟨⟨h,fun p hp=>by simp at hp,by simp,fun p q id hp=>by simp at hp⟩,NK.nil,fun p hp=>by simp at hp,hc,fun p id hp=>by simp at hp⟩
theorem Ms.mono {n n':Nat} {es:fD} {ck o c c':Nat} {hp:HS} (h:Ms n es ck o hp c) (hn:n≤n') (hc:c≤c'):Ms n' es ck o hp c':=
 ⟨h.rg,h.nk,fun p hp=>by obtain⟨j,h1,h2⟩:=h.keys p hp;exact⟨j,by omega,h2⟩,Nat.lt_of_lt_of_le h.lo hc,fun p id h1 h2=>Nat.lt_of_lt_of_le (h.li p id h1 h2) hc⟩
theorem Ms.heap {n:Nat} {es:fD} {ck o c:Nat} {hp aG:HS} (h:Ms n es ck o hp c) (he: ∀q Yc c2,q < c→find hp q=some (.mp Yc c2)→find aG q=some (.mp Yc c2)):Ms n es ck o aG c:=by
 refine⟨⟨he _ _ _ h.lo h.rg.out,fun p hp=>?_,h.rg.born,h.rg.Sw⟩,h.nk,h.keys,h.lo,h.li⟩
 obtain⟨h1,h2,id,ei,ci,h3,h4,h5,h6⟩:=h.rg.Zk p hp
 exact⟨h1,h2,id,ei,ci,h3,h4,he _ _ _ (h.li p id hp h3) h5,h6⟩
theorem Ms.add {i:Nat} {es:fD} {ck o c cm c':Nat} {hp hq:HS} (h:Ms i es ck o hp c) (hc:c≤cm) (EP:cm < c') (hm:find hq cm=some (.mp [] 0)) (he: ∀q,q < c→find hq q=find hp q):
 Ms (i+1) (es++[(.int .i64 (i:Int), .map cm,ck)]) (ck+1) o (jN hq o (.mp (es++[(.int .i64 (i:Int), .map cm,ck)]) (ck+1))) c':=by
 have hlo:=h.lo
 refine⟨⟨?_,fun p hp=>?_,?_,fun p q id hp hq h1 h2=>?_⟩,?_,fun p hp=>?_,by omega,fun p id hp h1=>?_⟩
 · rw[bO,if_pos rfl,he o hlo,h.rg.out]
   rfl
 · rcases List.mem_append.1 hp with hp|hp
   · obtain⟨h1,h2,id,ei,ci,h3,h4,h5,h6⟩:=h.rg.Zk p hp
     exact⟨h1,by omega,id,ei,ci,h3,h4,by rw[bO,if_neg h4,he id (h.li p id hp h3)];exact h5,h6⟩
   · rw[List.mem_singleton]at hp
     subst hp
     exact⟨⟨_,rfl⟩,by simp,cm,[],0,rfl,by omega,by rw[bO,if_neg (by omega)];exact hm,NK.nil,fun x hx=>by simp at hx⟩
 · rw[List.map_append,List.nodup_append]
   refine⟨h.rg.born,by simp,?_⟩
   intro x hx y hy
   simp only[List.mem_map]at hx
   obtain⟨p,hp,rfl⟩:=hx
   simp only[List.map_cons,List.map_nil,List.mem_singleton]at hy
   subst hy
   have:=(h.rg.Zk p hp).2.1
   omega
 · rcases List.mem_append.1 hp with hp|hp<;>rcases List.mem_append.1 hq with hq|hq
   · exact h.rg.Sw p q id hp hq h1 h2
   · rw[List.mem_singleton]at hq
     subst hq
     have:=h.li p id hp h1
     have e:=C.map.inj h2
     omega
   · rw[List.mem_singleton]at hp
     subst hp
     have:=h.li q id hq h2
     have e:=C.map.inj h1
     omega
   · rw[List.mem_singleton]at hp hq
     rw[hp,hq]
 · unfold NK
   rw[List.map_append,List.nodup_append]
   refine⟨h.nk,by simp,?_⟩
   intro x hx y hy
   simp only[List.mem_map]at hx
   obtain⟨p,hp,rfl⟩:=hx
   simp only[List.map_cons,List.map_nil,List.mem_singleton]at hy
   subst hy
   obtain⟨j,h1,h2⟩:=h.keys p hp
   rw[h2]
   intro e
   simp only[Value.int.injEq,true_and]at e
   omega
 · rcases List.mem_append.1 hp with hp|hp
   · obtain⟨j,h1,h2⟩:=h.keys p hp
     exact⟨j,by omega,h2⟩
   · rw[List.mem_singleton]at hp
     subst hp
     exact⟨i,by omega,rfl⟩
 · rcases List.mem_append.1 hp with hp|hp
   · have:=h.li p id hp h1
     omega
   · rw[List.mem_singleton]at hp
     subst hp
     have e:=C.map.inj h1
     omega
theorem Ms.del {n:Nat} {es:fD} {ck o c:Nat} {hp:HS} (h:Ms n es ck o hp c) (k:Int):Ms n (er k es) ck o (jN hp o (.mp (er k es) ck)) c:=by
 refine⟨⟨?_,fun p hp=>?_,List.Nodup.sublist (List.filter_sublist.map _) h.rg.born,fun p q id hp hq h1 h2=>h.rg.Sw p q id (xC hp).1 (xC hq).1 h1 h2⟩,h.nk.er k,fun p hp=>h.keys p (xC hp).1,h.lo,fun p id hp h1=>h.li p id (xC hp).1 h1⟩
 · rw[bO,if_pos rfl,h.rg.out]
   rfl
 · obtain⟨h1,h2,id,ei,ci,h3,h4,h5,h6⟩:=h.rg.Zk p (xC hp).1
   exact⟨h1,h2,id,ei,ci,h3,h4,by rw[bO,if_neg h4];exact h5,h6⟩
def Ro.LG:Ro→Bool
 | .call _ _| .kJ _ _| .raw _ _=>false
 |_=>true
variable {n ctr:Nat} {tm:TS} {hp:HS} {K:TS→HS→Nat→Prop}
end Go.aT
end
section
namespace Go.aT
open Go
variable {P:Program} {M A:Nat→Prop} {ρ:Env} {F:Nat→Prop} {st:St} {a:Act} {w:World}
end Go.aT
end
section
namespace Go.aT
open Go
variable {P:Program} {M A:Nat→Prop} {ρ:Env} {F:Nat→Prop} {st:St} {a:Act} {w:World}
theorem dK.gp {tm:TS} {hp:HS} {ctr szr:Nat} {xs:List (List C)} {e:List C} (Ov i0 j sz:Nat) (hf:find hp Ov=some (.row szr xs)) (sB:xs[i0]? =some e) (hj:e[j]? =some (.t iK)):
 dK tm hp ctr tm ((ctr, .row sz [])::jN hp Ov (.row szr (xs.set i0 (e.set j (.own ctr sz 0 0))))) (ctr+4):=by
 intro M A ρ n a w hr
 have hfr:ρ ctr=none:=hr.fresh ctr (Nat.le_refl _)
 have cJ:cZ ρ (dl ρ ctr .jq):=cZ.jN hfr
 have hne: ∀ {id:Nat},id≠ctr→dl ρ ctr .jq id=ρ id:=fun bN=>by simp[dl,bN]
 refine⟨A,dl ρ ctr .jq,⟨hr.size,hr.defers,fun u v hv=>(hr.tmps u v hv).keeps (eK.refl _ _) (fun _ _=>rfl) cJ,fun id blk hb=>?_,fun id id' blk gf b h1 h2 r1 r2=>?_,fun id bN=>?_,hr.bound,hr.may,hr.ep⟩,cJ.Oi,gD.refl M A w⟩
 · simp only[aA]at hb
   split at hb
   · rename_i e'
     subst e'
     simp only[Option.some.injEq]at hb
     subst hb
     exact⟨by simp, .inr ⟨by simp[dl],rfl⟩⟩
   · simp only[bO]at hb
     split at hb
     · rename_i e'
       subst e'
       rw[hf]at hb
       simp only[Option.map_some,Option.some.injEq]at hb
       subst hb
       have h0:=(hr.heap _ _ hf).keeps (eK.refl _ _) (fun _ _=>rfl) cJ (fun _ h=>h) (fun _ _=>rfl)
       obtain⟨h1,h2⟩:=h0
       refine⟨fun el hel=>?_,?_⟩
       · rcases List.mem_or_eq_of_mem_set hel with hel|rfl
         · exact h1 el hel
         · rw[List.length_set]
           exact h1 e (List.mem_of_getElem? sB)
       · rcases h2 with⟨b,c,t,k1,k2,k3,k4,k5,k6⟩|⟨_,h3⟩
         · refine .inl ⟨b,c,t,k1,k2,k3,k4,by simpa using k5,fun i el jj q hi hq=>?_⟩
           by_cases HO:i0=i
           · subst HO
             rw[List.getElem?_set_self (List.getElem?_eq_some_iff.1 sB).1,Option.some.injEq]at hi
             subst hi
             by_cases RN:j=jj
             · subst RN
               have hlt:=(List.getElem?_eq_some_iff.1 hj).1
               rw[List.getElem?_set_self hlt,Option.some.injEq]at hq
               subst hq
               obtain⟨x,hx,hrc,hcell⟩:=k6 i0 e j _ sB hj
               refine⟨x,hx,?_,hcell⟩
               have hrt:RT w A iK x:=hrc
               cases hrt
               exact .inr ⟨by simp[dl],rfl,rfl,rfl⟩
             · rw[List.getElem?_set_ne RN]at hq
               exact k6 i0 e jj q sB hq
           · rw[List.getElem?_set_ne HO]at hi
             exact k6 i el jj q hi hq
         · rw[h3]at sB
           simp at sB
     · exact(hr.heap id blk hb).keeps (eK.refl _ _) (fun _ _=>rfl) cJ (fun _ h=>h) (fun _ _=>rfl)
 · have old: ∀ {q:Nat} {bl:bA},find ((ctr,bA.row sz [])::jN hp Ov (.row szr (xs.set i0 (e.set j (.own ctr sz 0 0))))) q=some bl→q≠ctr→ ∃Ah,find hp q=some Ah:=by
    intro q bl hq hqc
    simp only[aA]at hq
    rw[if_neg (fun e=>hqc e.symm)]at hq
    simp only[bO]at hq
    split at hq
    · rename_i e'
      subst e'
      exact⟨_,hf⟩
    · exact⟨_,hq⟩
   have n1:id≠ctr:=by intro e;subst e;simp[dl]at r1
   have n2:id'≠ctr:=by intro e;subst e;simp[dl]at r2
   obtain⟨c1,g1⟩:=old h1 n1
   obtain⟨c2,g2⟩:=old h2 n2
   rw[hne n1]at r1
   rw[hne n2]at r2
   exact hr.inj id id' c1 c2 b g1 g2 r1 r2
 · simp only[bu]at bN
   rw[hne (by omega)]
   exact hr.fresh id (by simp only[bu];omega)
end Go.aT
end
section
namespace Go.aT.Cd
open Go Go.Proofs
set_option maxRecDepth 100000
set_option maxHeartbeats 2000000
def bI (r:Int) (qs:Lz):List Zn:=qs.filterMap fun e=>if nI 0 e=r then some (nI 1 e,nI 2 e)else none
theorem LV {r f t a:Int} (qs:Lz):bI r (qs++[[tI r,tI f,tI t,tI a]])=bI r qs++[(f,t)]:=by
 simp[bI,nI]
theorem LU {r c f t a:Int} (qs:Lz) (h:r≠c):bI c (qs++[[tI r,tI f,tI t,tI a]])=bI c qs:=by
 simp[bI,nI,h]
theorem ko (r:Int) (qs:Lz):(bI r qs).length≤qs.length:=List.length_filterMap_le _ _
def qz:List Zn→Bool
 |a::b::r=>decide (a.2≤b.1)&&qz (b::r)
 |_=>true
theorem Cw (l:List Zn):qz l=true↔ ∀i a b,l[i]? =some a→l[i+1]? =some b→a.2≤b.1:=by
 induction l with
 |nil=>simp[qz]
 |cons x l ih=>
  cases l with
  |nil=>simp[qz]
  |cons y l=>
   simp only[qz,Bool.and_eq_true,decide_eq_true_eq,ih]
   constructor
   · rintro⟨h1,h2⟩ i a b ha hb
     cases i with
     |zero=>simp at ha hb;subst ha hb;exact h1
     |succ i=>exact h2 i a b (by simpa using ha) (by simpa using hb)
   · intro h
     exact⟨h 0 x y rfl rfl,fun i a b ha hb=>h (i+1) a b (by simpa using ha) (by simpa using hb)⟩
def zh (n:Nat) (qs:Lz):Bool:=(List.range n).all fun r=>qz (cK (bI (r:Int) qs))
abbrev partsOf (plies:Lz):Lz:=plies.flatMap (nL 1)
def gm (k:Nat) (r:List (List C)) (z:List Zn):Prop:=k=z.length∧az r (rZ z)
theorem gm.av {k:Nat} {r:List (List C)} {z:List Zn} (h:gm k r z) (g:Nat→Option Nat):gm k (r.map fun e=>e.map (C.av g)) z:=⟨h.1,h.2.av g⟩
theorem gm.Fc {k k':Nat} {r:List (List C)} {z:List Zn} (h:gm k r z) (f t:Int) (hk:k'=r.length+1) (g:Nat→Option Nat):gm k' (((r++[[C.t (tI f),C.t (tI t)]]:List (List C))).map fun e=>e.map (C.av g)) (z++[(f,t)]):=by
 refine⟨?_,?_⟩
 · rw[hk,h.2.len];simp
 · have:=(az.snoc h.2 [tI f,tI t]).av g
   simpa[rZ]using this
def PV (n:Nat) (qs:Lz) (ts:List W):Prop:= ∃z,ts=[oL 1 z,oB (zh n qs)]
def S5 (HQ:(Nat→List Zn)→HS→Prop) (plies:Lz) (m:Nat) (vs:List V) (hq:HS):Prop:= ∃i:Nat,i≤plies.length∧m=plies.length - i∧vs=[iV .i64 (i:Int)]∧HQ (fun r=>bI r (partsOf (plies.take i))) hq
def S4 (HQ:(Nat→List Zn)→HS→Prop) (pre ps:Lz) (m:Nat) (vs:List V) (hq:HS):Prop:= ∃j:Nat,j≤ps.length∧m=ps.length - j∧vs=[iV .i64 (j:Int)]∧HQ (fun r=>bI r (pre++ps.take j)) hq
def S3 (HQ:(Nat→List Zn)→HS→Prop) (n:Nat) (F:Nat→List Zn) (m:Nat) (vs:List V) (hq:HS):Prop:= ∃k:Int,0≤k∧k≤(n:Int)∧m=((n:Int) - k).toNat∧vs=[iV .i64 k]∧HQ (fun r=>if(r:Int) < k then cK (F r)else F r) hq∧ ∀r:Nat,(r:Int) < k→qz (cK (F r))=true
def su (l:List Zn) (i:Int):Prop:= ∀ (j:Nat) (a b:Zn),(j:Int)+1 < i→l[j]? =some a→l[j+1]? =some b→a.2≤b.1
def TY (l:List Zn) (m:Nat) (vs:List V):Prop:= ∃i:Int,1≤i∧i≤1000000∧m=((l.length:Int)+1 - i).toNat∧vs=[iV .i64 i]∧su l i
theorem gm.sy {c:Int} {k i j:Nat} {l:Int} {r:List (List C)} {plies ps:Lz} (h:gm k r (bI c (partsOf (plies.take i)++ps.take j))) (hs:plies[((i:Int)).toNat]? =some [tI l, .aB 4 ps]) (hj:ps.length≤j) (g:Nat→Option Nat):gm k (r.map fun e=>e.map (C.av g)) (bI c (partsOf (plies.take (i+1)))):=by
 have hs':plies[i]? =some [tI l, .aB 4 ps]:=by simpa using hs
 have e:partsOf (plies.take (i+1))=partsOf (plies.take i)++ps.take j:=by
  rw[List.take_add_one,hs',List.take_of_length_le hj]
  simp[partsOf,nL]
 rw[e]
 exact h.av g
theorem gm.nil {c:Int} {k:Nat} {r:List (List C)} {pre ps:Lz} (h:gm k r (bI c pre)) (g:Nat→Option Nat):gm k (r.map fun e=>e.map (C.av g)) (bI c (pre++ps.take 0)):=by
 simpa using h.av g
theorem gm.all {c:Int} {k i:Nat} {r:List (List C)} {plies:Lz} (h:gm k r (bI c (partsOf (plies.take i)))) (hi:plies.length≤i) (g:Nat→Option Nat):gm k (r.map fun e=>e.map (C.av g)) (bI c (partsOf plies)):=by
 rw[List.take_of_length_le hi]at h
 exact h.av g
theorem Oj {ps:Lz} {j:Nat} {e:List T} (hs:ps[((j:Int)).toNat]? =some e):ps.take (j+1)=ps.take j++[e]:=by
 have hs':ps[j]? =some e:=by simpa using hs
 rw[List.take_add_one,hs']
 rfl
theorem gm.fM {c r0 f t a:Int} {k j:Nat} {r:List (List C)} {pre ps:Lz} (h:gm k r (bI c (pre++ps.take j))) (hs:ps[((j:Int)).toNat]? =some [tI r0,tI f,tI t,tI a]) (hne:r0≠c) (g:Nat→Option Nat):gm k (r.map fun e=>e.map (C.av g)) (bI c (pre++ps.take (j+1))):=by
 rw[Oj hs, ←List.append_assoc,LU _ hne]
 exact h.av g
theorem gm.hit {c f t a:Int} {k k' j:Nat} {r:List (List C)} {pre ps:Lz} (h:gm k r (bI c (pre++ps.take j))) (hs:ps[((j:Int)).toNat]? =some [tI c,tI f,tI t,tI a]) (hk:k'=r.length+1) (g:Nat→Option Nat):gm k' (((r++[[C.t (tI f),C.t (tI t)]]:List (List C))).map fun e=>e.map (C.av g)) (bI c (pre++ps.take (j+1))):=by
 rw[Oj hs, ←List.append_assoc,LV]
 exact h.Fc f t hk g
theorem gm.sort {z zl:List Zn} {k:Nat} {r:List (List C)} (hz:zl=cK z) (hk:k=z.length) (hR:az r (rZ zl)):gm k r (cK z):=⟨by rw[hk,aP],hz▸hR⟩
theorem gm.lR {c:Int} {k j:Nat} {r:List (List C)} {pre ps:Lz} {B:Nat} (h:gm k r (bI c (pre++ps.take j))) (hB:pre.length+ps.length≤B):r.length=k∧k≤B:=by
 have h1:=ko c (pre++ps.take j)
 have h2:=h.2.len
 have h3:=h.1
 simp[rZ]at h1 h2
 omega
theorem AU {l:List Zn} {i:Nat} {a b:Int} (h:(rZ l)[i]? =some [tI a,tI b]):l[i]? =some (a,b):=by
 simp only[rZ,List.getElem?_map,Option.map_eq_some_iff]at h
 obtain⟨⟨x,y⟩,h1,h2⟩:=h
 simp only[eZ,List.cons.injEq,T.val.injEq,Value.int.injEq,true_and,and_true]at h2
 obtain⟨rfl,rfl⟩:=h2
 exact h1
theorem cR (l:List Zn):(rZ l).length=l.length:=by simp[rZ]
theorem zA (l:List Zn):bG (rZ l):=fun e he=>by
 simp only[rZ,List.mem_map]at he
 obtain⟨x,_,rfl⟩:=he
 exact⟨_,_,rfl⟩
theorem su.one (l:List Zn):su l 1:=fun j a b hj=>by omega
theorem su.next {l:List Zn} {i a b c d:Int} {i1:Int} (h:su l i) (h1:1≤i) (IE:i1=i - 1) (ha:(rZ l)[0+i1.toNat]? =some [tI c,tI a]) (hb:(rZ l)[0+i.toNat]? =some [tI b,tI d]) (hab:a≤b):su l (i+1):=by
 rw[Nat.zero_add]at ha hb
 intro j x y hj hx hy
 by_cases fT:(j:Int)+1=i
 · have e1:i1.toNat=j:=by omega
   have e2:i.toNat=j+1:=by omega
   rw[e1]at ha
   rw[e2]at hb
   rw[AU ha]at hx
   rw[AU hb]at hy
   cases hx
   cases hy
   exact hab
 · exact h j x y (by omega) hx hy
theorem su.all {l:List Zn} {i:Int} (h:su l i) (hi:(l.length:Int)≤i):qz l=true:=(Cw l).2 fun j a b ha hb=>h j a b (by have:=(List.getElem?_eq_some_iff.1 hb).1;omega) ha hb
theorem cA {l:List Zn} {i i1 a b c d:Int} (h1:1≤i) (IE:i1=i - 1) (ha:(rZ l)[0+i1.toNat]? =some [tI c,tI a]) (hb:(rZ l)[0+i.toNat]? =some [tI b,tI d]) (hab:b < a):qz l=false:=by
 cases h:qz l with
 |false=>rfl
 |true=>
  have e2:i.toNat=i1.toNat+1:=by omega
  rw[Nat.zero_add]at ha hb
  rw[e2]at hb
  have:=(Cw l).1 h _ _ _ (AU ha) (AU hb)
  simp only at this
  omega
theorem cT {n r:Nat} {qs:Lz} {zl:List Zn} (hr:r < n) (hz:zl=cK (bI (r:Int) qs)) (h:qz zl=false):zh n qs=false:=by
 unfold zh
 rw[List.all_eq_false]
 exact⟨r,by simpa using hr,by rw[←hz,h];simp⟩
theorem jM {n:Nat} {k:Int} {qs:Lz} (hk:(n:Int)≤k) (h: ∀r:Nat,(r:Int) < k→qz (cK (bI (r:Int) qs))=true):zh n qs=true:=by
 unfold zh
 rw[List.all_eq_true]
 intro r hr
 exact h r (by have:=List.mem_range.1 hr;omega)
theorem cC {c:Nat} {F:Nat→List Zn} {zl:List Zn} (h: ∀r:Nat,(r:Int) < (c:Int)→qz (cK (F r))=true) (hz:zl=cK (F c)) (h1:qz zl=true): ∀r:Nat,(r:Int) < ((c+1:Nat):Int)→qz (cK (F r))=true:=by
 intro r hr
 by_cases e:r=c
 · subst e
   rw[←hz]
   exact h1
 · exact h r (by omega)
def GSo (l:List Zn) (ts:List W) (hout:HS):Prop:=ts=[]∧hout=[(0, .row 2 (tr (rZ (cK l))))]
theorem cU {f g:Nat} (hS:gA Tryz.prog f g) (l:List Zn) (hl:l.length≤100000): ∃ts hout,Fn Tryz.prog f [.one (.own 0 2 0 l.length),fV g] [(0, .row 2 (tr (rZ l)))] (aL ts) hout∧GSo l ts hout:=
 ⟨[],_,Mh hS l (by omega),rfl,rfl⟩
theorem gq {z zl:List Zn} {i:Int} (h:i < (z.length:Int)) (hz:zl.length=z.length):i < (zl.length:Int):=by omega
theorem gu {z zl:List Zn} {i:Int} (h:¬i < (z.length:Int)) (hz:zl.length=z.length):(zl.length:Int)≤i:=by omega
def Fp (hp:HS):List (Nat×Nat×Lz)→Prop
 | []=>True
 |p::r=>(∃rr,find hp p.1=some (.row 2 rr)∧az rr p.2.2∧p.2.1=p.2.2.length)∧Fp hp r
theorem Cx {hp:HS}: ∀ {ps:List (Nat×Nat×Lz)},Fp hp ps→bM (bM (dm 5 hp)) (ps.map fun p=>[.own p.1 2 0 p.2.1])=some (ps.map fun p=>[.aB 2 p.2.2])
 | [],_=>rfl
 |p::r,h=>by
  obtain⟨⟨rr,h1,h2,h3⟩,h4⟩:=h
  have hl:0+p.2.1≤rr.length:=by rw[h2.len,h3];omega
  have e:dm 5 hp (.own p.1 2 0 p.2.1)=some (.aB 2 p.2.2):=by
   simp only[dm,h1,true_and,hl,if_true]
   rw[h2,AB,xn,h3]
   simp
  simp only[List.map_cons,bM,e,Cx h4]
theorem qv {hp:HS} {tm:TS} {t id len:Nat} {rows:List (List C)} (ps:List (Nat×Nat×Lz)) (h:find tm t=some (.w (.one (.own id 1 0 len)))) (hf:find hp id=some (.row 1 rows)) (hr:rows=ps.map fun p=>[.own p.1 2 0 p.2.1]) (hl:len=ps.length) (hN:Fp hp ps):
 Rs Tryz.prog hp tm (.tmp t) (.one (.t (.aB 1 (ps.map fun p=>[.aB 2 p.2.2])))):=by
 subst hr hl
 refine⟨_, .one (.t (.aB 1 (ps.map fun p=>[.aB 2 p.2.2]))),by simp only[cz,h];rfl,?_,B3.refl _⟩
 have hk:0+ps.length≤(ps.map fun p=>[C.own p.1 2 0 p.2.1]).length:=by simp
 have:dm 6 hp (.own id 1 0 ps.length)=some (.aB 1 (ps.map fun p=>[.aB 2 p.2.2])):=by
  simp only[dm,hf,true_and,hk,if_true]
  have e:((ps.map fun p=>[C.own p.1 2 0 p.2.1]).drop 0).take ps.length=ps.map fun p=>[C.own p.1 2 0 p.2.1]:=by rw[List.drop_zero,List.take_of_length_le (by simp)]
  rw[e,Cx hN]
  rfl
 simp only[bY,this,Option.map_some]
end Go.aT.Cd
end
section
namespace Go.aT.Cd
open Go Go.Proofs
set_option maxRecDepth 100000
set_option maxHeartbeats 4000000
def HU0 (F:Nat→List Zn) (hq:HS):Prop:=hq=[(4, .row 1 [])]
theorem VU (hS:gA Tryz.prog 63 64) (ln wd rx ry:Int) (sizes places plies:Lz) (hy: ∀e,e∈plies→ ∃l q,e=[tI l, .aB 4 q]∧Ao q) (j8:plies.length≤1000000) (hB: ∀e,e∈plies→(nL 1 e).length≤1000) (hT: ∀i,(partsOf (plies.take i)).length≤100000) (eF: ∀e,e∈plies→ ∀q,q∈nL 1 e→0≤nI 0 q∧nI 0 q < 0):Tg 34 [o8 ln wd rx ry sizes places plies,oL 7 []] (PV 0 (partsOf plies)):=by
 have hZ: ∀c:Int,(bI c (partsOf plies)).length≤100000:=fun c=>by have h1:=ko c (partsOf plies);have h2:=hT plies.length;rw[List.take_of_length_le (Nat.le_refl _)]at h2;omega
 refine aJ ?_
 refine ah Tryz.func34 ?_
 repeat' (conv=>whnf
          first
  |(refine au (fun h=>?_) (fun h=>?_))
  |(refine And.intro ⟨by simp,by simp,by simp,by simp⟩ ?_)
  |(refine aq (xs:=plies) hy (by omega) (by omega) ?_;rintro _ ⟨l,ps,rfl,hq⟩ hs;have HW:=eF _ (List.mem_of_getElem? hs);have OW:ps.length≤1000:=hB _ (List.mem_of_getElem? hs);have TE:=hT i)
  |(refine aq (xs:=ps) hq (by omega) (by omega) ?_;rintro _ ⟨r1,f1,t1,a1,rfl⟩ bW;have vl:=HW _ (List.mem_of_getElem? bW);simp only[nI,List.getElem?_cons_zero]at vl)
  |(refine And.intro ⟨by omega,by omega⟩ ?_)
  |(exfalso;simp at h;omega)
  |(have h7:((0:Nat):Int)≤k:=(by simp at h;omega);exact dg rfl (qv [] rfl rfl rfl rfl trivial) (bS rfl) ⟨_,by rw[jM h7 hall]⟩)
  |(have hgd:=hs;clear hgd;apply bX [6,18,19,20,25,26,27] [] [27] (S4 HU0 (partsOf (plies.take i)) ps) (ps.length) [iV .i64 0];(conv=>whnf);exact⟨rfl,rfl,rfl,rfl⟩;exact rfl;exact rfl;exact⟨0,by omega,rfl,rfl,rfl⟩;rintro _ _ _ ⟨j,hj,rfl,rfl,rfl⟩)
  |(have hgd:=hi;clear hgd;apply bX [6,49,50,51] [] [51] (S3 HU0 0 (fun r=>bI (r:Int) (partsOf plies))) (0) [iV .i64 0];(conv=>whnf);exact⟨rfl,rfl,rfl,rfl⟩;exact rfl;exact rfl;exact⟨0,by omega,by omega,rfl,rfl,rfl,fun r hr=>by omega⟩;rintro _ _ _ ⟨k,HN,fS,rfl,rfl,rfl,hall⟩)
  |(apply bX [6,18,19,20] [] [20] (S5 HU0 plies) (plies.length) [iV .i64 0];(conv=>whnf);exact⟨rfl,rfl,rfl,rfl⟩;exact rfl;exact rfl;exact⟨0,by omega,rfl,rfl,rfl⟩;rintro _ _ _ ⟨i,hi,rfl,rfl,rfl⟩)
  |(have hgd:=hj;clear hgd;refine ak [6,18,19,20] [] ?_;(conv=>whnf);exact⟨rfl,_,[_],⟨i+1,by omega,rfl,by rw[bh (by omega) (by omega)];rfl,rfl⟩,rfl,rfl,by omega⟩))
 all_goals (conv=>whnf)
end Go.aT.Cd
end
section
namespace Go.aT.Cd
open Go Go.Proofs
set_option maxRecDepth 100000
set_option maxHeartbeats 4000000
def HU1 (F:Nat→List Zn) (hq:HS):Prop:= ∃ (k0:Nat) (y0:List (List C)),hq=[(4, .row 1 [[.own 8 2 0 k0]]),(8, .row 2 y0)]∧gm k0 y0 (F 0)
theorem VT (hS:gA Tryz.prog 63 64) (e0:List T) (ln wd rx ry:Int) (sizes places plies:Lz) (hy: ∀e,e∈plies→ ∃l q,e=[tI l, .aB 4 q]∧Ao q) (j8:plies.length≤1000000) (hB: ∀e,e∈plies→(nL 1 e).length≤1000) (hT: ∀i,(partsOf (plies.take i)).length≤100000) (eF: ∀e,e∈plies→ ∀q,q∈nL 1 e→0≤nI 0 q∧nI 0 q < 1):Tg 34 [o8 ln wd rx ry sizes places plies,oL 7 [e0]] (PV 1 (partsOf plies)):=by
 have hZ: ∀c:Int,(bI c (partsOf plies)).length≤100000:=fun c=>by have h1:=ko c (partsOf plies);have h2:=hT plies.length;rw[List.take_of_length_le (Nat.le_refl _)]at h2;omega
 refine aJ ?_
 refine ah Tryz.func34 ?_
 repeat' (conv=>whnf
          first
  |(refine au (fun h=>?_) (fun h=>?_))
  |(refine And.intro ⟨by simp,by simp,by simp,by simp⟩ ?_)
  |(have Bv:=vl.2;have ph:=vl.1;have xg:r1=0:=(by omega);clear ph Bv;rcases xg with rfl)
  |(have ph:=HN;have C3:=h;simp at C3;have xg:k=0:=(by omega);clear ph C3;rcases xg with rfl)
  |(refine And.intro ⟨by simp,by simp⟩ ?_)
  |(refine aq (xs:=plies) hy (by omega) (by omega) ?_;rintro _ ⟨l,ps,rfl,hq⟩ hs;have HW:=eF _ (List.mem_of_getElem? hs);have OW:ps.length≤1000:=hB _ (List.mem_of_getElem? hs);have TE:=hT i)
  |(refine aq (xs:=ps) hq (by omega) (by omega) ?_;rintro _ ⟨r1,f1,t1,a1,rfl⟩ bW;have vl:=HW _ (List.mem_of_getElem? bW);simp only[nI,List.getElem?_cons_zero]at vl)
  |(have hb0:=p0.lR (B:=101000) (by omega);refine And.intro ⟨hb0.1.symm,by simp[aW];omega,by simp[maxLen];omega⟩ ?_)
  |(have h6:=gq (z:=bI ((0:Nat):Int) (partsOf plies)) h ff;refine And.intro ⟨by omega,h⟩ ?_)
  |(have mV:IntKind.i64.wrap (i4 - 1)=i4 - 1:=bh (by omega) (by omega);generalize IntKind.i64.wrap (i4 - 1)=j1 at mV⊢;refine And.intro ⟨by omega,by omega⟩ ?_)
  |(refine And.intro (by kernel_rfl) ?_)
  |(refine fu [8] rfl (cU hS (bI ((0:Nat):Int) (partsOf plies)) (hZ _)) rfl (jU rfl (rfl:az _ (rZ (bI ((0:Nat):Int) (partsOf plies))))) ?_;rintro _ _ ⟨rfl,rfl⟩;obtain⟨zl,hz⟩: ∃zl,zl=cK (bI ((0:Nat):Int) (partsOf plies)):=⟨_,rfl⟩;rw[←hz];have jn:zl.length≤100000:=(by rw[hz,aP];exact hZ _);have ff:zl.length=(bI ((0:Nat):Int) (partsOf plies)).length:=(by rw[hz,aP]))
  |(refine bJ (xs:=rZ zl) (az.av (az.av (xs:=rZ zl) rfl _) _) (zA zl) (by rw[cR];omega) ?_;first|(rintro _ ⟨a6,b6,rfl⟩ lV;have:=mU)|rintro _ ⟨a5,b5,rfl⟩ mU)
  |exact dg rfl (bR 1 rfl) (bS rfl) ⟨_,by rw[cT (r:=0) (by omega) hz (cA hi4 mV lV mU (by omega))]⟩
  |(have h7:((1:Nat):Int)≤k:=(by simp at h;omega);exact dg rfl (qv [(8,_,_)] rfl rfl rfl rfl ⟨⟨_,rfl,rfl,(cR _).symm⟩,trivial⟩) (bS rfl) ⟨_,by rw[jM h7 hall]⟩)
  |(have hgd:=ff;clear hgd;apply aM [6,12,13,49,50,51] [(6,0)] [13] (TY zl) (zl.length) [iV .i64 1];(conv=>whnf);exact⟨rfl,rfl,rfl,rfl⟩;exact rfl;exact rfl;exact⟨1,by omega,by omega,by omega,rfl,su.one zl⟩;rintro _ _ ⟨i4,hi4,XH,rfl,rfl,pQ⟩)
  |(have hgd:=h6;clear hgd;refine ak [6,12,13,49,50,51] [(6,0)] ?_;(conv=>whnf);exact⟨rfl,_,[_],⟨i4+1,by omega,by omega,rfl,by rw[bh (by omega) (by omega)],pQ.next hi4 mV lV mU (by omega)⟩,rfl,(by simp only[eu]<;>rfl),rfl,by omega⟩)
  |(have hgd:=hs;clear hgd;apply bX [6,18,19,20,25,26,27] [(6,0)] [27] (S4 HU1 (partsOf (plies.take i)) ps) (ps.length) [iV .i64 0];(conv=>whnf);exact⟨rfl,rfl,rfl,rfl⟩;exact rfl;exact rfl;exact⟨0,by omega,rfl,rfl,⟨_,_,rfl,p0.nil _⟩⟩;rintro _ _ _ ⟨j,hj,rfl,rfl,⟨k0,y0,rfl,p0⟩⟩)
  |(have hgd:=bW;clear hgd;refine ak [6,18,19,20,25,26,27] [(6,0)] ?_;(conv=>whnf);exact⟨rfl,_,[_],⟨j+1,by omega,rfl,by rw[bh (by omega) (by omega)];rfl,⟨_,_,rfl,p0.hit bW (by simp) _⟩⟩,rfl,rfl,by omega⟩)
  |(have hgd:=hi;clear hgd;apply bX [6,49,50,51] [(6,0)] [51] (S3 HU1 1 (fun r=>bI (r:Int) (partsOf plies))) (1) [iV .i64 0];(conv=>whnf);exact⟨rfl,rfl,rfl,rfl⟩;exact rfl;exact rfl;exact⟨0,by omega,by omega,rfl,rfl,⟨_,_,rfl,p0.all (by omega) _⟩,fun r hr=>by omega⟩;rintro _ _ _ ⟨k,HN,fS,rfl,rfl,⟨_,_,rfl,⟨rfl,rfl⟩⟩,hall⟩)
  |(have hgd:=ff;clear hgd;refine ak [6,49,50,51] [(6,0)] ?_;(conv=>whnf);exact⟨rfl,_,[_],⟨1,by omega,by omega,rfl,rfl,⟨_,_,rfl,gm.sort hz rfl (az.av (az.av (az.av (xs:=rZ zl) rfl _) _) _)⟩,cC (c:=0) hall hz (pQ.all (gu (z:=bI ((0:Nat):Int) (partsOf plies)) h ff))⟩,rfl,rfl,by omega⟩)
  |(apply ij [6,18,19,20] [(6,0)] [20] (S5 HU1 plies) (plies.length) [iV .i64 0] (dK.gp 24 0 0 2 rfl rfl rfl);(conv=>whnf);exact⟨rfl,rfl,rfl,rfl⟩;exact rfl;exact rfl;exact⟨0,by omega,rfl,rfl,⟨_,_,rfl,⟨rfl,rfl⟩⟩⟩;rintro _ _ _ ⟨i,hi,rfl,rfl,⟨k0,y0,rfl,p0⟩⟩)
  |(have hgd:=hj;clear hgd;refine ak [6,18,19,20] [(6,0)] ?_;(conv=>whnf);exact⟨rfl,_,[_],⟨i+1,by omega,rfl,by rw[bh (by omega) (by omega)];rfl,⟨_,_,rfl,p0.sy hs (by omega) _⟩⟩,rfl,rfl,by omega⟩))
 all_goals (conv=>whnf)
end Go.aT.Cd
end
section
namespace Go.aT.Cd
open Go Go.Proofs
set_option maxRecDepth 100000
set_option maxHeartbeats 4000000
def HU2 (F:Nat→List Zn) (hq:HS):Prop:= ∃ (k0 k1:Nat) (y0 y1:List (List C)),hq=[(4, .row 1 [[.own 8 2 0 k0],[.own 12 2 0 k1]]),(8, .row 2 y0),(12, .row 2 y1)]∧gm k0 y0 (F 0)∧gm k1 y1 (F 1)
theorem VS (hS:gA Tryz.prog 63 64) (e0 e1:List T) (ln wd rx ry:Int) (sizes places plies:Lz) (hy: ∀e,e∈plies→ ∃l q,e=[tI l, .aB 4 q]∧Ao q) (j8:plies.length≤1000000) (hB: ∀e,e∈plies→(nL 1 e).length≤1000) (hT: ∀i,(partsOf (plies.take i)).length≤100000) (eF: ∀e,e∈plies→ ∀q,q∈nL 1 e→0≤nI 0 q∧nI 0 q < 2):Tg 34 [o8 ln wd rx ry sizes places plies,oL 7 [e0,e1]] (PV 2 (partsOf plies)):=by
 have hZ: ∀c:Int,(bI c (partsOf plies)).length≤100000:=fun c=>by have h1:=ko c (partsOf plies);have h2:=hT plies.length;rw[List.take_of_length_le (Nat.le_refl _)]at h2;omega
 refine aJ ?_
 refine ah Tryz.func34 ?_
 repeat' (conv=>whnf
          first
  |(refine au (fun h=>?_) (fun h=>?_))
  |(refine And.intro ⟨by simp,by simp,by simp,by simp⟩ ?_)
  |(have Bv:=vl.2;have ph:=vl.1;have xg:r1=0∨r1=1:=(by omega);clear ph Bv;rcases xg with rfl|rfl)
  |(have ph:=HN;have C3:=h;simp at C3;have xg:k=0∨k=1:=(by omega);clear ph C3;rcases xg with rfl|rfl)
  |(refine And.intro ⟨by simp,by simp⟩ ?_)
  |(refine aq (xs:=plies) hy (by omega) (by omega) ?_;rintro _ ⟨l,ps,rfl,hq⟩ hs;have HW:=eF _ (List.mem_of_getElem? hs);have OW:ps.length≤1000:=hB _ (List.mem_of_getElem? hs);have TE:=hT i)
  |(refine aq (xs:=ps) hq (by omega) (by omega) ?_;rintro _ ⟨r1,f1,t1,a1,rfl⟩ bW;have vl:=HW _ (List.mem_of_getElem? bW);simp only[nI,List.getElem?_cons_zero]at vl)
  |(have hb0:=p0.lR (B:=101000) (by omega);refine And.intro ⟨hb0.1.symm,by simp[aW];omega,by simp[maxLen];omega⟩ ?_)
  |(have pn:=p1.lR (B:=101000) (by omega);refine And.intro ⟨pn.1.symm,by simp[aW];omega,by simp[maxLen];omega⟩ ?_)
  |(have h6:=gq (z:=bI ((0:Nat):Int) (partsOf plies)) h ff;refine And.intro ⟨by omega,h⟩ ?_)
  |(have h6:=gq (z:=bI ((1:Nat):Int) (partsOf plies)) h ff;refine And.intro ⟨by omega,h⟩ ?_)
  |(have mV:IntKind.i64.wrap (i4 - 1)=i4 - 1:=bh (by omega) (by omega);generalize IntKind.i64.wrap (i4 - 1)=j1 at mV⊢;refine And.intro ⟨by omega,by omega⟩ ?_)
  |(refine And.intro (by kernel_rfl) ?_)
  |(refine fu [8] rfl (cU hS (bI ((0:Nat):Int) (partsOf plies)) (hZ _)) rfl (jU rfl (rfl:az _ (rZ (bI ((0:Nat):Int) (partsOf plies))))) ?_;rintro _ _ ⟨rfl,rfl⟩;obtain⟨zl,hz⟩: ∃zl,zl=cK (bI ((0:Nat):Int) (partsOf plies)):=⟨_,rfl⟩;rw[←hz];have jn:zl.length≤100000:=(by rw[hz,aP];exact hZ _);have ff:zl.length=(bI ((0:Nat):Int) (partsOf plies)).length:=(by rw[hz,aP]))
  |(refine fu [12] rfl (cU hS (bI ((1:Nat):Int) (partsOf plies)) (hZ _)) rfl (jU rfl (rfl:az _ (rZ (bI ((1:Nat):Int) (partsOf plies))))) ?_;rintro _ _ ⟨rfl,rfl⟩;obtain⟨zl,hz⟩: ∃zl,zl=cK (bI ((1:Nat):Int) (partsOf plies)):=⟨_,rfl⟩;rw[←hz];have jn:zl.length≤100000:=(by rw[hz,aP];exact hZ _);have ff:zl.length=(bI ((1:Nat):Int) (partsOf plies)).length:=(by rw[hz,aP]))
  |(refine bJ (xs:=rZ zl) (az.av (az.av (xs:=rZ zl) rfl _) _) (zA zl) (by rw[cR];omega) ?_;first|(rintro _ ⟨a6,b6,rfl⟩ lV;have:=mU)|rintro _ ⟨a5,b5,rfl⟩ mU)
  |exact dg rfl (bR 1 rfl) (bS rfl) ⟨_,by rw[cT (r:=0) (by omega) hz (cA hi4 mV lV mU (by omega))]⟩
  |exact dg rfl (bR 1 rfl) (bS rfl) ⟨_,by rw[cT (r:=1) (by omega) hz (cA hi4 mV lV mU (by omega))]⟩
  |(have h7:((2:Nat):Int)≤k:=(by simp at h;omega);exact dg rfl (qv [(8,_,_),(12,_,_)] rfl rfl rfl rfl ⟨⟨_,rfl,rfl,(cR _).symm⟩,⟨_,rfl,rfl,(cR _).symm⟩,trivial⟩) (bS rfl) ⟨_,by rw[jM h7 hall]⟩)
  |(have hgd:=ff;clear hgd;apply aM [6,12,13,49,50,51] [(6,0),(6,1)] [13] (TY zl) (zl.length) [iV .i64 1];(conv=>whnf);exact⟨rfl,rfl,rfl,rfl⟩;exact rfl;exact rfl;exact⟨1,by omega,by omega,by omega,rfl,su.one zl⟩;rintro _ _ ⟨i4,hi4,XH,rfl,rfl,pQ⟩)
  |(have hgd:=h6;clear hgd;refine ak [6,12,13,49,50,51] [(6,0),(6,1)] ?_;(conv=>whnf);exact⟨rfl,_,[_],⟨i4+1,by omega,by omega,rfl,by rw[bh (by omega) (by omega)],pQ.next hi4 mV lV mU (by omega)⟩,rfl,(by simp only[eu]<;>rfl),rfl,by omega⟩)
  |(have hgd:=hs;clear hgd;apply bX [6,18,19,20,25,26,27] [(6,0),(6,1)] [27] (S4 HU2 (partsOf (plies.take i)) ps) (ps.length) [iV .i64 0];(conv=>whnf);exact⟨rfl,rfl,rfl,rfl⟩;exact rfl;exact rfl;exact⟨0,by omega,rfl,rfl,⟨_,_,_,_,rfl,p0.nil _,p1.nil _⟩⟩;rintro _ _ _ ⟨j,hj,rfl,rfl,⟨k0,k1,y0,y1,rfl,p0,p1⟩⟩)
  |(have hgd:=bW;clear hgd;refine ak [6,18,19,20,25,26,27] [(6,0),(6,1)] ?_;(conv=>whnf);first|exact⟨rfl,_,[_],⟨j+1,by omega,rfl,by rw[bh (by omega) (by omega)];rfl,⟨_,_,_,_,rfl,p0.hit bW (by simp) _,p1.fM bW (by decide) _⟩⟩,rfl,rfl,by omega⟩|exact⟨rfl,_,[_],⟨j+1,by omega,rfl,by rw[bh (by omega) (by omega)];rfl,⟨_,_,_,_,rfl,p0.fM bW (by decide) _,p1.hit bW (by simp) _⟩⟩,rfl,rfl,by omega⟩)
  |(have hgd:=hi;clear hgd;apply bX [6,49,50,51] [(6,0),(6,1)] [51] (S3 HU2 2 (fun r=>bI (r:Int) (partsOf plies))) (2) [iV .i64 0];(conv=>whnf);exact⟨rfl,rfl,rfl,rfl⟩;exact rfl;exact rfl;exact⟨0,by omega,by omega,rfl,rfl,⟨_,_,_,_,rfl,p0.all (by omega) _,p1.all (by omega) _⟩,fun r hr=>by omega⟩;rintro _ _ _ ⟨k,HN,fS,rfl,rfl,⟨_,_,_,_,rfl,⟨rfl,rfl⟩,⟨rfl,rfl⟩⟩,hall⟩)
  |(have hgd:=ff;clear hgd;refine ak [6,49,50,51] [(6,0),(6,1)] ?_;(conv=>whnf);first|exact⟨rfl,_,[_],⟨1,by omega,by omega,rfl,rfl,⟨_,_,_,_,rfl,gm.sort hz rfl (az.av (az.av (az.av (xs:=rZ zl) rfl _) _) _),⟨rfl,az.av (az.av (xs:=rZ _) rfl _) _⟩⟩,cC (c:=0) hall hz (pQ.all (gu (z:=bI ((0:Nat):Int) (partsOf plies)) h ff))⟩,rfl,rfl,by omega⟩|exact⟨rfl,_,[_],⟨2,by omega,by omega,rfl,rfl,⟨_,_,_,_,rfl,⟨rfl,az.av (az.av (xs:=rZ _) rfl _) _⟩,gm.sort hz rfl (az.av (az.av (az.av (xs:=rZ zl) rfl _) _) _)⟩,cC (c:=1) hall hz (pQ.all (gu (z:=bI ((1:Nat):Int) (partsOf plies)) h ff))⟩,rfl,rfl,by omega⟩)
  |(apply ij [6,18,19,20] [(6,0),(6,1)] [20] (S5 HU2 plies) (plies.length) [iV .i64 0] (dK.trans (dK.gp 24 0 0 2 rfl rfl rfl) (dK.gp 24 1 0 2 rfl rfl rfl));(conv=>whnf);exact⟨rfl,rfl,rfl,rfl⟩;exact rfl;exact rfl;exact⟨0,by omega,rfl,rfl,⟨_,_,_,_,rfl,⟨rfl,rfl⟩,⟨rfl,rfl⟩⟩⟩;rintro _ _ _ ⟨i,hi,rfl,rfl,⟨k0,k1,y0,y1,rfl,p0,p1⟩⟩)
  |(have hgd:=hj;clear hgd;refine ak [6,18,19,20] [(6,0),(6,1)] ?_;(conv=>whnf);exact⟨rfl,_,[_],⟨i+1,by omega,rfl,by rw[bh (by omega) (by omega)];rfl,⟨_,_,_,_,rfl,p0.sy hs (by omega) _,p1.sy hs (by omega) _⟩⟩,rfl,rfl,by omega⟩))
 all_goals (conv=>whnf)
end Go.aT.Cd
end
section
namespace Go.aT.Cd
open Go Go.Proofs
set_option maxRecDepth 100000
set_option maxHeartbeats 4000000
def HU3 (F:Nat→List Zn) (hq:HS):Prop:= ∃ (k0 k1 k2:Nat) (y0 y1 y2:List (List C)),hq=[(4, .row 1 [[.own 8 2 0 k0],[.own 12 2 0 k1],[.own 16 2 0 k2]]),(8, .row 2 y0),(12, .row 2 y1),(16, .row 2 y2)]∧gm k0 y0 (F 0)∧gm k1 y1 (F 1)∧gm k2 y2 (F 2)
theorem VR (hS:gA Tryz.prog 63 64) (e0 e1 e2:List T) (ln wd rx ry:Int) (sizes places plies:Lz) (hy: ∀e,e∈plies→ ∃l q,e=[tI l, .aB 4 q]∧Ao q) (j8:plies.length≤1000000) (hB: ∀e,e∈plies→(nL 1 e).length≤1000) (hT: ∀i,(partsOf (plies.take i)).length≤100000) (eF: ∀e,e∈plies→ ∀q,q∈nL 1 e→0≤nI 0 q∧nI 0 q < 3):Tg 34 [o8 ln wd rx ry sizes places plies,oL 7 [e0,e1,e2]] (PV 3 (partsOf plies)):=by
 have hZ: ∀c:Int,(bI c (partsOf plies)).length≤100000:=fun c=>by have h1:=ko c (partsOf plies);have h2:=hT plies.length;rw[List.take_of_length_le (Nat.le_refl _)]at h2;omega
 refine aJ ?_
 refine ah Tryz.func34 ?_
 repeat' (conv=>whnf
          first
  |(refine au (fun h=>?_) (fun h=>?_))
  |(refine And.intro ⟨by simp,by simp,by simp,by simp⟩ ?_)
  |(have Bv:=vl.2;have ph:=vl.1;have xg:r1=0∨r1=1∨r1=2:=(by omega);clear ph Bv;rcases xg with rfl|rfl|rfl)
  |(have ph:=HN;have C3:=h;simp at C3;have xg:k=0∨k=1∨k=2:=(by omega);clear ph C3;rcases xg with rfl|rfl|rfl)
  |(refine And.intro ⟨by simp,by simp⟩ ?_)
  |(refine aq (xs:=plies) hy (by omega) (by omega) ?_;rintro _ ⟨l,ps,rfl,hq⟩ hs;have HW:=eF _ (List.mem_of_getElem? hs);have OW:ps.length≤1000:=hB _ (List.mem_of_getElem? hs);have TE:=hT i)
  |(refine aq (xs:=ps) hq (by omega) (by omega) ?_;rintro _ ⟨r1,f1,t1,a1,rfl⟩ bW;have vl:=HW _ (List.mem_of_getElem? bW);simp only[nI,List.getElem?_cons_zero]at vl)
  |(have hb0:=p0.lR (B:=101000) (by omega);refine And.intro ⟨hb0.1.symm,by simp[aW];omega,by simp[maxLen];omega⟩ ?_)
  |(have pn:=p1.lR (B:=101000) (by omega);refine And.intro ⟨pn.1.symm,by simp[aW];omega,by simp[maxLen];omega⟩ ?_)
  |(have nj:=p2.lR (B:=101000) (by omega);refine And.intro ⟨nj.1.symm,by simp[aW];omega,by simp[maxLen];omega⟩ ?_)
  |(have h6:=gq (z:=bI ((0:Nat):Int) (partsOf plies)) h ff;refine And.intro ⟨by omega,h⟩ ?_)
  |(have h6:=gq (z:=bI ((1:Nat):Int) (partsOf plies)) h ff;refine And.intro ⟨by omega,h⟩ ?_)
  |(have h6:=gq (z:=bI ((2:Nat):Int) (partsOf plies)) h ff;refine And.intro ⟨by omega,h⟩ ?_)
  |(have mV:IntKind.i64.wrap (i4 - 1)=i4 - 1:=bh (by omega) (by omega);generalize IntKind.i64.wrap (i4 - 1)=j1 at mV⊢;refine And.intro ⟨by omega,by omega⟩ ?_)
  |(refine And.intro (by kernel_rfl) ?_)
  |(refine fu [8] rfl (cU hS (bI ((0:Nat):Int) (partsOf plies)) (hZ _)) rfl (jU rfl (rfl:az _ (rZ (bI ((0:Nat):Int) (partsOf plies))))) ?_;rintro _ _ ⟨rfl,rfl⟩;obtain⟨zl,hz⟩: ∃zl,zl=cK (bI ((0:Nat):Int) (partsOf plies)):=⟨_,rfl⟩;rw[←hz];have jn:zl.length≤100000:=(by rw[hz,aP];exact hZ _);have ff:zl.length=(bI ((0:Nat):Int) (partsOf plies)).length:=(by rw[hz,aP]))
  |(refine fu [12] rfl (cU hS (bI ((1:Nat):Int) (partsOf plies)) (hZ _)) rfl (jU rfl (rfl:az _ (rZ (bI ((1:Nat):Int) (partsOf plies))))) ?_;rintro _ _ ⟨rfl,rfl⟩;obtain⟨zl,hz⟩: ∃zl,zl=cK (bI ((1:Nat):Int) (partsOf plies)):=⟨_,rfl⟩;rw[←hz];have jn:zl.length≤100000:=(by rw[hz,aP];exact hZ _);have ff:zl.length=(bI ((1:Nat):Int) (partsOf plies)).length:=(by rw[hz,aP]))
  |(refine fu [16] rfl (cU hS (bI ((2:Nat):Int) (partsOf plies)) (hZ _)) rfl (jU rfl (rfl:az _ (rZ (bI ((2:Nat):Int) (partsOf plies))))) ?_;rintro _ _ ⟨rfl,rfl⟩;obtain⟨zl,hz⟩: ∃zl,zl=cK (bI ((2:Nat):Int) (partsOf plies)):=⟨_,rfl⟩;rw[←hz];have jn:zl.length≤100000:=(by rw[hz,aP];exact hZ _);have ff:zl.length=(bI ((2:Nat):Int) (partsOf plies)).length:=(by rw[hz,aP]))
  |(refine bJ (xs:=rZ zl) (az.av (az.av (xs:=rZ zl) rfl _) _) (zA zl) (by rw[cR];omega) ?_;first|(rintro _ ⟨a6,b6,rfl⟩ lV;have:=mU)|rintro _ ⟨a5,b5,rfl⟩ mU)
  |exact dg rfl (bR 1 rfl) (bS rfl) ⟨_,by rw[cT (r:=0) (by omega) hz (cA hi4 mV lV mU (by omega))]⟩
  |exact dg rfl (bR 1 rfl) (bS rfl) ⟨_,by rw[cT (r:=1) (by omega) hz (cA hi4 mV lV mU (by omega))]⟩
  |exact dg rfl (bR 1 rfl) (bS rfl) ⟨_,by rw[cT (r:=2) (by omega) hz (cA hi4 mV lV mU (by omega))]⟩
  |(have h7:((3:Nat):Int)≤k:=(by simp at h;omega);exact dg rfl (qv [(8,_,_),(12,_,_),(16,_,_)] rfl rfl rfl rfl ⟨⟨_,rfl,rfl,(cR _).symm⟩,⟨_,rfl,rfl,(cR _).symm⟩,⟨_,rfl,rfl,(cR _).symm⟩,trivial⟩) (bS rfl) ⟨_,by rw[jM h7 hall]⟩)
  |(have hgd:=ff;clear hgd;apply aM [6,12,13,49,50,51] [(6,0),(6,1),(6,2)] [13] (TY zl) (zl.length) [iV .i64 1];(conv=>whnf);exact⟨rfl,rfl,rfl,rfl⟩;exact rfl;exact rfl;exact⟨1,by omega,by omega,by omega,rfl,su.one zl⟩;rintro _ _ ⟨i4,hi4,XH,rfl,rfl,pQ⟩)
  |(have hgd:=h6;clear hgd;refine ak [6,12,13,49,50,51] [(6,0),(6,1),(6,2)] ?_;(conv=>whnf);exact⟨rfl,_,[_],⟨i4+1,by omega,by omega,rfl,by rw[bh (by omega) (by omega)],pQ.next hi4 mV lV mU (by omega)⟩,rfl,(by simp only[eu]<;>rfl),rfl,by omega⟩)
  |(have hgd:=hs;clear hgd;apply bX [6,18,19,20,25,26,27] [(6,0),(6,1),(6,2)] [27] (S4 HU3 (partsOf (plies.take i)) ps) (ps.length) [iV .i64 0];(conv=>whnf);exact⟨rfl,rfl,rfl,rfl⟩;exact rfl;exact rfl;exact⟨0,by omega,rfl,rfl,⟨_,_,_,_,_,_,rfl,p0.nil _,p1.nil _,p2.nil _⟩⟩;rintro _ _ _ ⟨j,hj,rfl,rfl,⟨k0,k1,k2,y0,y1,y2,rfl,p0,p1,p2⟩⟩)
  |(have hgd:=bW;clear hgd;refine ak [6,18,19,20,25,26,27] [(6,0),(6,1),(6,2)] ?_;(conv=>whnf);first|exact⟨rfl,_,[_],⟨j+1,by omega,rfl,by rw[bh (by omega) (by omega)];rfl,⟨_,_,_,_,_,_,rfl,p0.hit bW (by simp) _,p1.fM bW (by decide) _,p2.fM bW (by decide) _⟩⟩,rfl,rfl,by omega⟩|exact⟨rfl,_,[_],⟨j+1,by omega,rfl,by rw[bh (by omega) (by omega)];rfl,⟨_,_,_,_,_,_,rfl,p0.fM bW (by decide) _,p1.hit bW (by simp) _,p2.fM bW (by decide) _⟩⟩,rfl,rfl,by omega⟩|exact⟨rfl,_,[_],⟨j+1,by omega,rfl,by rw[bh (by omega) (by omega)];rfl,⟨_,_,_,_,_,_,rfl,p0.fM bW (by decide) _,p1.fM bW (by decide) _,p2.hit bW (by simp) _⟩⟩,rfl,rfl,by omega⟩)
  |(have hgd:=hi;clear hgd;apply bX [6,49,50,51] [(6,0),(6,1),(6,2)] [51] (S3 HU3 3 (fun r=>bI (r:Int) (partsOf plies))) (3) [iV .i64 0];(conv=>whnf);exact⟨rfl,rfl,rfl,rfl⟩;exact rfl;exact rfl;exact⟨0,by omega,by omega,rfl,rfl,⟨_,_,_,_,_,_,rfl,p0.all (by omega) _,p1.all (by omega) _,p2.all (by omega) _⟩,fun r hr=>by omega⟩;rintro _ _ _ ⟨k,HN,fS,rfl,rfl,⟨_,_,_,_,_,_,rfl,⟨rfl,rfl⟩,⟨rfl,rfl⟩,⟨rfl,rfl⟩⟩,hall⟩)
  |(have hgd:=ff;clear hgd;refine ak [6,49,50,51] [(6,0),(6,1),(6,2)] ?_;(conv=>whnf);first|exact⟨rfl,_,[_],⟨1,by omega,by omega,rfl,rfl,⟨_,_,_,_,_,_,rfl,gm.sort hz rfl (az.av (az.av (az.av (xs:=rZ zl) rfl _) _) _),⟨rfl,az.av (az.av (xs:=rZ _) rfl _) _⟩,⟨rfl,az.av (az.av (xs:=rZ _) rfl _) _⟩⟩,cC (c:=0) hall hz (pQ.all (gu (z:=bI ((0:Nat):Int) (partsOf plies)) h ff))⟩,rfl,rfl,by omega⟩|exact⟨rfl,_,[_],⟨2,by omega,by omega,rfl,rfl,⟨_,_,_,_,_,_,rfl,⟨rfl,az.av (az.av (xs:=rZ _) rfl _) _⟩,gm.sort hz rfl (az.av (az.av (az.av (xs:=rZ zl) rfl _) _) _),⟨rfl,az.av (az.av (xs:=rZ _) rfl _) _⟩⟩,cC (c:=1) hall hz (pQ.all (gu (z:=bI ((1:Nat):Int) (partsOf plies)) h ff))⟩,rfl,rfl,by omega⟩|exact⟨rfl,_,[_],⟨3,by omega,by omega,rfl,rfl,⟨_,_,_,_,_,_,rfl,⟨rfl,az.av (az.av (xs:=rZ _) rfl _) _⟩,⟨rfl,az.av (az.av (xs:=rZ _) rfl _) _⟩,gm.sort hz rfl (az.av (az.av (az.av (xs:=rZ zl) rfl _) _) _)⟩,cC (c:=2) hall hz (pQ.all (gu (z:=bI ((2:Nat):Int) (partsOf plies)) h ff))⟩,rfl,rfl,by omega⟩)
  |(apply ij [6,18,19,20] [(6,0),(6,1),(6,2)] [20] (S5 HU3 plies) (plies.length) [iV .i64 0] (dK.trans (dK.gp 24 0 0 2 rfl rfl rfl) (dK.trans (dK.gp 24 1 0 2 rfl rfl rfl) (dK.gp 24 2 0 2 rfl rfl rfl)));(conv=>whnf);exact⟨rfl,rfl,rfl,rfl⟩;exact rfl;exact rfl;exact⟨0,by omega,rfl,rfl,⟨_,_,_,_,_,_,rfl,⟨rfl,rfl⟩,⟨rfl,rfl⟩,⟨rfl,rfl⟩⟩⟩;rintro _ _ _ ⟨i,hi,rfl,rfl,⟨k0,k1,k2,y0,y1,y2,rfl,p0,p1,p2⟩⟩)
  |(have hgd:=hj;clear hgd;refine ak [6,18,19,20] [(6,0),(6,1),(6,2)] ?_;(conv=>whnf);exact⟨rfl,_,[_],⟨i+1,by omega,rfl,by rw[bh (by omega) (by omega)];rfl,⟨_,_,_,_,_,_,rfl,p0.sy hs (by omega) _,p1.sy hs (by omega) _,p2.sy hs (by omega) _⟩⟩,rfl,rfl,by omega⟩))
 all_goals (conv=>whnf)
end Go.aT.Cd
end
section
namespace Go.aT.Cd
open Go Go.Proofs
set_option maxRecDepth 100000
set_option maxHeartbeats 4000000
def HU4 (F:Nat→List Zn) (hq:HS):Prop:= ∃ (k0 k1 k2 k3:Nat) (y0 y1 y2 y3:List (List C)),hq=[(4, .row 1 [[.own 8 2 0 k0],[.own 12 2 0 k1],[.own 16 2 0 k2],[.own 20 2 0 k3]]),(8, .row 2 y0),(12, .row 2 y1),(16, .row 2 y2),(20, .row 2 y3)]∧gm k0 y0 (F 0)∧gm k1 y1 (F 1)∧gm k2 y2 (F 2)∧gm k3 y3 (F 3)
theorem VQ (hS:gA Tryz.prog 63 64) (e0 e1 e2 e3:List T) (ln wd rx ry:Int) (sizes places plies:Lz) (hy: ∀e,e∈plies→ ∃l q,e=[tI l, .aB 4 q]∧Ao q) (j8:plies.length≤1000000) (hB: ∀e,e∈plies→(nL 1 e).length≤1000) (hT: ∀i,(partsOf (plies.take i)).length≤100000) (eF: ∀e,e∈plies→ ∀q,q∈nL 1 e→0≤nI 0 q∧nI 0 q < 4):Tg 34 [o8 ln wd rx ry sizes places plies,oL 7 [e0,e1,e2,e3]] (PV 4 (partsOf plies)):=by
 have hZ: ∀c:Int,(bI c (partsOf plies)).length≤100000:=fun c=>by have h1:=ko c (partsOf plies);have h2:=hT plies.length;rw[List.take_of_length_le (Nat.le_refl _)]at h2;omega
 refine aJ ?_
 refine ah Tryz.func34 ?_
 repeat' (conv=>whnf
          first
  |(refine au (fun h=>?_) (fun h=>?_))
  |(refine And.intro ⟨by simp,by simp,by simp,by simp⟩ ?_)
  |(have Bv:=vl.2;have ph:=vl.1;have xg:r1=0∨r1=1∨r1=2∨r1=3:=(by omega);clear ph Bv;rcases xg with rfl|rfl|rfl|rfl)
  |(have ph:=HN;have C3:=h;simp at C3;have xg:k=0∨k=1∨k=2∨k=3:=(by omega);clear ph C3;rcases xg with rfl|rfl|rfl|rfl)
  |(refine And.intro ⟨by simp,by simp⟩ ?_)
  |(refine aq (xs:=plies) hy (by omega) (by omega) ?_;rintro _ ⟨l,ps,rfl,hq⟩ hs;have HW:=eF _ (List.mem_of_getElem? hs);have OW:ps.length≤1000:=hB _ (List.mem_of_getElem? hs);have TE:=hT i)
  |(refine aq (xs:=ps) hq (by omega) (by omega) ?_;rintro _ ⟨r1,f1,t1,a1,rfl⟩ bW;have vl:=HW _ (List.mem_of_getElem? bW);simp only[nI,List.getElem?_cons_zero]at vl)
  |(have hb0:=p0.lR (B:=101000) (by omega);refine And.intro ⟨hb0.1.symm,by simp[aW];omega,by simp[maxLen];omega⟩ ?_)
  |(have pn:=p1.lR (B:=101000) (by omega);refine And.intro ⟨pn.1.symm,by simp[aW];omega,by simp[maxLen];omega⟩ ?_)
  |(have nj:=p2.lR (B:=101000) (by omega);refine And.intro ⟨nj.1.symm,by simp[aW];omega,by simp[maxLen];omega⟩ ?_)
  |(have OX:=p3.lR (B:=101000) (by omega);refine And.intro ⟨OX.1.symm,by simp[aW];omega,by simp[maxLen];omega⟩ ?_)
  |(have h6:=gq (z:=bI ((0:Nat):Int) (partsOf plies)) h ff;refine And.intro ⟨by omega,h⟩ ?_)
  |(have h6:=gq (z:=bI ((1:Nat):Int) (partsOf plies)) h ff;refine And.intro ⟨by omega,h⟩ ?_)
  |(have h6:=gq (z:=bI ((2:Nat):Int) (partsOf plies)) h ff;refine And.intro ⟨by omega,h⟩ ?_)
  |(have h6:=gq (z:=bI ((3:Nat):Int) (partsOf plies)) h ff;refine And.intro ⟨by omega,h⟩ ?_)
  |(have mV:IntKind.i64.wrap (i4 - 1)=i4 - 1:=bh (by omega) (by omega);generalize IntKind.i64.wrap (i4 - 1)=j1 at mV⊢;refine And.intro ⟨by omega,by omega⟩ ?_)
  |(refine And.intro (by kernel_rfl) ?_)
  |(refine fu [8] rfl (cU hS (bI ((0:Nat):Int) (partsOf plies)) (hZ _)) rfl (jU rfl (rfl:az _ (rZ (bI ((0:Nat):Int) (partsOf plies))))) ?_;rintro _ _ ⟨rfl,rfl⟩;obtain⟨zl,hz⟩: ∃zl,zl=cK (bI ((0:Nat):Int) (partsOf plies)):=⟨_,rfl⟩;rw[←hz];have jn:zl.length≤100000:=(by rw[hz,aP];exact hZ _);have ff:zl.length=(bI ((0:Nat):Int) (partsOf plies)).length:=(by rw[hz,aP]))
  |(refine fu [12] rfl (cU hS (bI ((1:Nat):Int) (partsOf plies)) (hZ _)) rfl (jU rfl (rfl:az _ (rZ (bI ((1:Nat):Int) (partsOf plies))))) ?_;rintro _ _ ⟨rfl,rfl⟩;obtain⟨zl,hz⟩: ∃zl,zl=cK (bI ((1:Nat):Int) (partsOf plies)):=⟨_,rfl⟩;rw[←hz];have jn:zl.length≤100000:=(by rw[hz,aP];exact hZ _);have ff:zl.length=(bI ((1:Nat):Int) (partsOf plies)).length:=(by rw[hz,aP]))
  |(refine fu [16] rfl (cU hS (bI ((2:Nat):Int) (partsOf plies)) (hZ _)) rfl (jU rfl (rfl:az _ (rZ (bI ((2:Nat):Int) (partsOf plies))))) ?_;rintro _ _ ⟨rfl,rfl⟩;obtain⟨zl,hz⟩: ∃zl,zl=cK (bI ((2:Nat):Int) (partsOf plies)):=⟨_,rfl⟩;rw[←hz];have jn:zl.length≤100000:=(by rw[hz,aP];exact hZ _);have ff:zl.length=(bI ((2:Nat):Int) (partsOf plies)).length:=(by rw[hz,aP]))
  |(refine fu [20] rfl (cU hS (bI ((3:Nat):Int) (partsOf plies)) (hZ _)) rfl (jU rfl (rfl:az _ (rZ (bI ((3:Nat):Int) (partsOf plies))))) ?_;rintro _ _ ⟨rfl,rfl⟩;obtain⟨zl,hz⟩: ∃zl,zl=cK (bI ((3:Nat):Int) (partsOf plies)):=⟨_,rfl⟩;rw[←hz];have jn:zl.length≤100000:=(by rw[hz,aP];exact hZ _);have ff:zl.length=(bI ((3:Nat):Int) (partsOf plies)).length:=(by rw[hz,aP]))
  |(refine bJ (xs:=rZ zl) (az.av (az.av (xs:=rZ zl) rfl _) _) (zA zl) (by rw[cR];omega) ?_;first|(rintro _ ⟨a6,b6,rfl⟩ lV;have:=mU)|rintro _ ⟨a5,b5,rfl⟩ mU)
  |exact dg rfl (bR 1 rfl) (bS rfl) ⟨_,by rw[cT (r:=0) (by omega) hz (cA hi4 mV lV mU (by omega))]⟩
  |exact dg rfl (bR 1 rfl) (bS rfl) ⟨_,by rw[cT (r:=1) (by omega) hz (cA hi4 mV lV mU (by omega))]⟩
  |exact dg rfl (bR 1 rfl) (bS rfl) ⟨_,by rw[cT (r:=2) (by omega) hz (cA hi4 mV lV mU (by omega))]⟩
  |exact dg rfl (bR 1 rfl) (bS rfl) ⟨_,by rw[cT (r:=3) (by omega) hz (cA hi4 mV lV mU (by omega))]⟩
  |(have h7:((4:Nat):Int)≤k:=(by simp at h;omega);exact dg rfl (qv [(8,_,_),(12,_,_),(16,_,_),(20,_,_)] rfl rfl rfl rfl ⟨⟨_,rfl,rfl,(cR _).symm⟩,⟨_,rfl,rfl,(cR _).symm⟩,⟨_,rfl,rfl,(cR _).symm⟩,⟨_,rfl,rfl,(cR _).symm⟩,trivial⟩) (bS rfl) ⟨_,by rw[jM h7 hall]⟩)
  |(have hgd:=ff;clear hgd;apply aM [6,12,13,49,50,51] [(6,0),(6,1),(6,2),(6,3)] [13] (TY zl) (zl.length) [iV .i64 1];(conv=>whnf);exact⟨rfl,rfl,rfl,rfl⟩;exact rfl;exact rfl;exact⟨1,by omega,by omega,by omega,rfl,su.one zl⟩;rintro _ _ ⟨i4,hi4,XH,rfl,rfl,pQ⟩)
  |(have hgd:=h6;clear hgd;refine ak [6,12,13,49,50,51] [(6,0),(6,1),(6,2),(6,3)] ?_;(conv=>whnf);exact⟨rfl,_,[_],⟨i4+1,by omega,by omega,rfl,by rw[bh (by omega) (by omega)],pQ.next hi4 mV lV mU (by omega)⟩,rfl,(by simp only[eu]<;>rfl),rfl,by omega⟩)
  |(have hgd:=hs;clear hgd;apply bX [6,18,19,20,25,26,27] [(6,0),(6,1),(6,2),(6,3)] [27] (S4 HU4 (partsOf (plies.take i)) ps) (ps.length) [iV .i64 0];(conv=>whnf);exact⟨rfl,rfl,rfl,rfl⟩;exact rfl;exact rfl;exact⟨0,by omega,rfl,rfl,⟨_,_,_,_,_,_,_,_,rfl,p0.nil _,p1.nil _,p2.nil _,p3.nil _⟩⟩;rintro _ _ _ ⟨j,hj,rfl,rfl,⟨k0,k1,k2,k3,y0,y1,y2,y3,rfl,p0,p1,p2,p3⟩⟩)
  |(have hgd:=bW;clear hgd;refine ak [6,18,19,20,25,26,27] [(6,0),(6,1),(6,2),(6,3)] ?_;(conv=>whnf);first|exact⟨rfl,_,[_],⟨j+1,by omega,rfl,by rw[bh (by omega) (by omega)];rfl,⟨_,_,_,_,_,_,_,_,rfl,p0.hit bW (by simp) _,p1.fM bW (by decide) _,p2.fM bW (by decide) _,p3.fM bW (by decide) _⟩⟩,rfl,rfl,by omega⟩|exact⟨rfl,_,[_],⟨j+1,by omega,rfl,by rw[bh (by omega) (by omega)];rfl,⟨_,_,_,_,_,_,_,_,rfl,p0.fM bW (by decide) _,p1.hit bW (by simp) _,p2.fM bW (by decide) _,p3.fM bW (by decide) _⟩⟩,rfl,rfl,by omega⟩|exact⟨rfl,_,[_],⟨j+1,by omega,rfl,by rw[bh (by omega) (by omega)];rfl,⟨_,_,_,_,_,_,_,_,rfl,p0.fM bW (by decide) _,p1.fM bW (by decide) _,p2.hit bW (by simp) _,p3.fM bW (by decide) _⟩⟩,rfl,rfl,by omega⟩|exact⟨rfl,_,[_],⟨j+1,by omega,rfl,by rw[bh (by omega) (by omega)];rfl,⟨_,_,_,_,_,_,_,_,rfl,p0.fM bW (by decide) _,p1.fM bW (by decide) _,p2.fM bW (by decide) _,p3.hit bW (by simp) _⟩⟩,rfl,rfl,by omega⟩)
  |(have hgd:=hi;clear hgd;apply bX [6,49,50,51] [(6,0),(6,1),(6,2),(6,3)] [51] (S3 HU4 4 (fun r=>bI (r:Int) (partsOf plies))) (4) [iV .i64 0];(conv=>whnf);exact⟨rfl,rfl,rfl,rfl⟩;exact rfl;exact rfl;exact⟨0,by omega,by omega,rfl,rfl,⟨_,_,_,_,_,_,_,_,rfl,p0.all (by omega) _,p1.all (by omega) _,p2.all (by omega) _,p3.all (by omega) _⟩,fun r hr=>by omega⟩;rintro _ _ _ ⟨k,HN,fS,rfl,rfl,⟨_,_,_,_,_,_,_,_,rfl,⟨rfl,rfl⟩,⟨rfl,rfl⟩,⟨rfl,rfl⟩,⟨rfl,rfl⟩⟩,hall⟩)
  |(have hgd:=ff;clear hgd;refine ak [6,49,50,51] [(6,0),(6,1),(6,2),(6,3)] ?_;(conv=>whnf);first|exact⟨rfl,_,[_],⟨1,by omega,by omega,rfl,rfl,⟨_,_,_,_,_,_,_,_,rfl,gm.sort hz rfl (az.av (az.av (az.av (xs:=rZ zl) rfl _) _) _),⟨rfl,az.av (az.av (xs:=rZ _) rfl _) _⟩,⟨rfl,az.av (az.av (xs:=rZ _) rfl _) _⟩,⟨rfl,az.av (az.av (xs:=rZ _) rfl _) _⟩⟩,cC (c:=0) hall hz (pQ.all (gu (z:=bI ((0:Nat):Int) (partsOf plies)) h ff))⟩,rfl,rfl,by omega⟩|exact⟨rfl,_,[_],⟨2,by omega,by omega,rfl,rfl,⟨_,_,_,_,_,_,_,_,rfl,⟨rfl,az.av (az.av (xs:=rZ _) rfl _) _⟩,gm.sort hz rfl (az.av (az.av (az.av (xs:=rZ zl) rfl _) _) _),⟨rfl,az.av (az.av (xs:=rZ _) rfl _) _⟩,⟨rfl,az.av (az.av (xs:=rZ _) rfl _) _⟩⟩,cC (c:=1) hall hz (pQ.all (gu (z:=bI ((1:Nat):Int) (partsOf plies)) h ff))⟩,rfl,rfl,by omega⟩|exact⟨rfl,_,[_],⟨3,by omega,by omega,rfl,rfl,⟨_,_,_,_,_,_,_,_,rfl,⟨rfl,az.av (az.av (xs:=rZ _) rfl _) _⟩,⟨rfl,az.av (az.av (xs:=rZ _) rfl _) _⟩,gm.sort hz rfl (az.av (az.av (az.av (xs:=rZ zl) rfl _) _) _),⟨rfl,az.av (az.av (xs:=rZ _) rfl _) _⟩⟩,cC (c:=2) hall hz (pQ.all (gu (z:=bI ((2:Nat):Int) (partsOf plies)) h ff))⟩,rfl,rfl,by omega⟩|exact⟨rfl,_,[_],⟨4,by omega,by omega,rfl,rfl,⟨_,_,_,_,_,_,_,_,rfl,⟨rfl,az.av (az.av (xs:=rZ _) rfl _) _⟩,⟨rfl,az.av (az.av (xs:=rZ _) rfl _) _⟩,⟨rfl,az.av (az.av (xs:=rZ _) rfl _) _⟩,gm.sort hz rfl (az.av (az.av (az.av (xs:=rZ zl) rfl _) _) _)⟩,cC (c:=3) hall hz (pQ.all (gu (z:=bI ((3:Nat):Int) (partsOf plies)) h ff))⟩,rfl,rfl,by omega⟩)
  |(apply ij [6,18,19,20] [(6,0),(6,1),(6,2),(6,3)] [20] (S5 HU4 plies) (plies.length) [iV .i64 0] (dK.trans (dK.gp 24 0 0 2 rfl rfl rfl) (dK.trans (dK.gp 24 1 0 2 rfl rfl rfl) (dK.trans (dK.gp 24 2 0 2 rfl rfl rfl) (dK.gp 24 3 0 2 rfl rfl rfl))));(conv=>whnf);exact⟨rfl,rfl,rfl,rfl⟩;exact rfl;exact rfl;exact⟨0,by omega,rfl,rfl,⟨_,_,_,_,_,_,_,_,rfl,⟨rfl,rfl⟩,⟨rfl,rfl⟩,⟨rfl,rfl⟩,⟨rfl,rfl⟩⟩⟩;rintro _ _ _ ⟨i,hi,rfl,rfl,⟨k0,k1,k2,k3,y0,y1,y2,y3,rfl,p0,p1,p2,p3⟩⟩)
  |(have hgd:=hj;clear hgd;refine ak [6,18,19,20] [(6,0),(6,1),(6,2),(6,3)] ?_;(conv=>whnf);exact⟨rfl,_,[_],⟨i+1,by omega,rfl,by rw[bh (by omega) (by omega)];rfl,⟨_,_,_,_,_,_,_,_,rfl,p0.sy hs (by omega) _,p1.sy hs (by omega) _,p2.sy hs (by omega) _,p3.sy hs (by omega) _⟩⟩,rfl,rfl,by omega⟩))
 all_goals (conv=>whnf)
end Go.aT.Cd
end
section
namespace Go.aT.Cd
open Go Go.Proofs
set_option maxRecDepth 100000
set_option maxHeartbeats 4000000
def HU5 (F:Nat→List Zn) (hq:HS):Prop:= ∃ (k0 k1 k2 k3 k4:Nat) (y0 y1 y2 y3 y4:List (List C)),hq=[(4, .row 1 [[.own 8 2 0 k0],[.own 12 2 0 k1],[.own 16 2 0 k2],[.own 20 2 0 k3],[.own 24 2 0 k4]]),(8, .row 2 y0),(12, .row 2 y1),(16, .row 2 y2),(20, .row 2 y3),(24, .row 2 y4)]∧gm k0 y0 (F 0)∧gm k1 y1 (F 1)∧gm k2 y2 (F 2)∧gm k3 y3 (F 3)∧gm k4 y4 (F 4)
theorem VP (hS:gA Tryz.prog 63 64) (e0 e1 e2 e3 e4:List T) (ln wd rx ry:Int) (sizes places plies:Lz) (hy: ∀e,e∈plies→ ∃l q,e=[tI l, .aB 4 q]∧Ao q) (j8:plies.length≤1000000) (hB: ∀e,e∈plies→(nL 1 e).length≤1000) (hT: ∀i,(partsOf (plies.take i)).length≤100000) (eF: ∀e,e∈plies→ ∀q,q∈nL 1 e→0≤nI 0 q∧nI 0 q < 5):Tg 34 [o8 ln wd rx ry sizes places plies,oL 7 [e0,e1,e2,e3,e4]] (PV 5 (partsOf plies)):=by
 have hZ: ∀c:Int,(bI c (partsOf plies)).length≤100000:=fun c=>by have h1:=ko c (partsOf plies);have h2:=hT plies.length;rw[List.take_of_length_le (Nat.le_refl _)]at h2;omega
 refine aJ ?_
 refine ah Tryz.func34 ?_
 repeat' (conv=>whnf
          first
  |(refine au (fun h=>?_) (fun h=>?_))
  |(refine And.intro ⟨by simp,by simp,by simp,by simp⟩ ?_)
  |(have Bv:=vl.2;have ph:=vl.1;have xg:r1=0∨r1=1∨r1=2∨r1=3∨r1=4:=(by omega);clear ph Bv;rcases xg with rfl|rfl|rfl|rfl|rfl)
  |(have ph:=HN;have C3:=h;simp at C3;have xg:k=0∨k=1∨k=2∨k=3∨k=4:=(by omega);clear ph C3;rcases xg with rfl|rfl|rfl|rfl|rfl)
  |(refine And.intro ⟨by simp,by simp⟩ ?_)
  |(refine aq (xs:=plies) hy (by omega) (by omega) ?_;rintro _ ⟨l,ps,rfl,hq⟩ hs;have HW:=eF _ (List.mem_of_getElem? hs);have OW:ps.length≤1000:=hB _ (List.mem_of_getElem? hs);have TE:=hT i)
  |(refine aq (xs:=ps) hq (by omega) (by omega) ?_;rintro _ ⟨r1,f1,t1,a1,rfl⟩ bW;have vl:=HW _ (List.mem_of_getElem? bW);simp only[nI,List.getElem?_cons_zero]at vl)
  |(have hb0:=p0.lR (B:=101000) (by omega);refine And.intro ⟨hb0.1.symm,by simp[aW];omega,by simp[maxLen];omega⟩ ?_)
  |(have pn:=p1.lR (B:=101000) (by omega);refine And.intro ⟨pn.1.symm,by simp[aW];omega,by simp[maxLen];omega⟩ ?_)
  |(have nj:=p2.lR (B:=101000) (by omega);refine And.intro ⟨nj.1.symm,by simp[aW];omega,by simp[maxLen];omega⟩ ?_)
  |(have OX:=p3.lR (B:=101000) (by omega);refine And.intro ⟨OX.1.symm,by simp[aW];omega,by simp[maxLen];omega⟩ ?_)
  |(have hb4:=p4.lR (B:=101000) (by omega);refine And.intro ⟨hb4.1.symm,by simp[aW];omega,by simp[maxLen];omega⟩ ?_)
  |(have h6:=gq (z:=bI ((0:Nat):Int) (partsOf plies)) h ff;refine And.intro ⟨by omega,h⟩ ?_)
  |(have h6:=gq (z:=bI ((1:Nat):Int) (partsOf plies)) h ff;refine And.intro ⟨by omega,h⟩ ?_)
  |(have h6:=gq (z:=bI ((2:Nat):Int) (partsOf plies)) h ff;refine And.intro ⟨by omega,h⟩ ?_)
  |(have h6:=gq (z:=bI ((3:Nat):Int) (partsOf plies)) h ff;refine And.intro ⟨by omega,h⟩ ?_)
  |(have h6:=gq (z:=bI ((4:Nat):Int) (partsOf plies)) h ff;refine And.intro ⟨by omega,h⟩ ?_)
  |(have mV:IntKind.i64.wrap (i4 - 1)=i4 - 1:=bh (by omega) (by omega);generalize IntKind.i64.wrap (i4 - 1)=j1 at mV⊢;refine And.intro ⟨by omega,by omega⟩ ?_)
  |(refine And.intro (by kernel_rfl) ?_)
  |(refine fu [8] rfl (cU hS (bI ((0:Nat):Int) (partsOf plies)) (hZ _)) rfl (jU rfl (rfl:az _ (rZ (bI ((0:Nat):Int) (partsOf plies))))) ?_;rintro _ _ ⟨rfl,rfl⟩;obtain⟨zl,hz⟩: ∃zl,zl=cK (bI ((0:Nat):Int) (partsOf plies)):=⟨_,rfl⟩;rw[←hz];have jn:zl.length≤100000:=(by rw[hz,aP];exact hZ _);have ff:zl.length=(bI ((0:Nat):Int) (partsOf plies)).length:=(by rw[hz,aP]))
  |(refine fu [12] rfl (cU hS (bI ((1:Nat):Int) (partsOf plies)) (hZ _)) rfl (jU rfl (rfl:az _ (rZ (bI ((1:Nat):Int) (partsOf plies))))) ?_;rintro _ _ ⟨rfl,rfl⟩;obtain⟨zl,hz⟩: ∃zl,zl=cK (bI ((1:Nat):Int) (partsOf plies)):=⟨_,rfl⟩;rw[←hz];have jn:zl.length≤100000:=(by rw[hz,aP];exact hZ _);have ff:zl.length=(bI ((1:Nat):Int) (partsOf plies)).length:=(by rw[hz,aP]))
  |(refine fu [16] rfl (cU hS (bI ((2:Nat):Int) (partsOf plies)) (hZ _)) rfl (jU rfl (rfl:az _ (rZ (bI ((2:Nat):Int) (partsOf plies))))) ?_;rintro _ _ ⟨rfl,rfl⟩;obtain⟨zl,hz⟩: ∃zl,zl=cK (bI ((2:Nat):Int) (partsOf plies)):=⟨_,rfl⟩;rw[←hz];have jn:zl.length≤100000:=(by rw[hz,aP];exact hZ _);have ff:zl.length=(bI ((2:Nat):Int) (partsOf plies)).length:=(by rw[hz,aP]))
  |(refine fu [20] rfl (cU hS (bI ((3:Nat):Int) (partsOf plies)) (hZ _)) rfl (jU rfl (rfl:az _ (rZ (bI ((3:Nat):Int) (partsOf plies))))) ?_;rintro _ _ ⟨rfl,rfl⟩;obtain⟨zl,hz⟩: ∃zl,zl=cK (bI ((3:Nat):Int) (partsOf plies)):=⟨_,rfl⟩;rw[←hz];have jn:zl.length≤100000:=(by rw[hz,aP];exact hZ _);have ff:zl.length=(bI ((3:Nat):Int) (partsOf plies)).length:=(by rw[hz,aP]))
  |(refine fu [24] rfl (cU hS (bI ((4:Nat):Int) (partsOf plies)) (hZ _)) rfl (jU rfl (rfl:az _ (rZ (bI ((4:Nat):Int) (partsOf plies))))) ?_;rintro _ _ ⟨rfl,rfl⟩;obtain⟨zl,hz⟩: ∃zl,zl=cK (bI ((4:Nat):Int) (partsOf plies)):=⟨_,rfl⟩;rw[←hz];have jn:zl.length≤100000:=(by rw[hz,aP];exact hZ _);have ff:zl.length=(bI ((4:Nat):Int) (partsOf plies)).length:=(by rw[hz,aP]))
  |(refine bJ (xs:=rZ zl) (az.av (az.av (xs:=rZ zl) rfl _) _) (zA zl) (by rw[cR];omega) ?_;first|(rintro _ ⟨a6,b6,rfl⟩ lV;have:=mU)|rintro _ ⟨a5,b5,rfl⟩ mU)
  |exact dg rfl (bR 1 rfl) (bS rfl) ⟨_,by rw[cT (r:=0) (by omega) hz (cA hi4 mV lV mU (by omega))]⟩
  |exact dg rfl (bR 1 rfl) (bS rfl) ⟨_,by rw[cT (r:=1) (by omega) hz (cA hi4 mV lV mU (by omega))]⟩
  |exact dg rfl (bR 1 rfl) (bS rfl) ⟨_,by rw[cT (r:=2) (by omega) hz (cA hi4 mV lV mU (by omega))]⟩
  |exact dg rfl (bR 1 rfl) (bS rfl) ⟨_,by rw[cT (r:=3) (by omega) hz (cA hi4 mV lV mU (by omega))]⟩
  |exact dg rfl (bR 1 rfl) (bS rfl) ⟨_,by rw[cT (r:=4) (by omega) hz (cA hi4 mV lV mU (by omega))]⟩
  |(have h7:((5:Nat):Int)≤k:=(by simp at h;omega);exact dg rfl (qv [(8,_,_),(12,_,_),(16,_,_),(20,_,_),(24,_,_)] rfl rfl rfl rfl ⟨⟨_,rfl,rfl,(cR _).symm⟩,⟨_,rfl,rfl,(cR _).symm⟩,⟨_,rfl,rfl,(cR _).symm⟩,⟨_,rfl,rfl,(cR _).symm⟩,⟨_,rfl,rfl,(cR _).symm⟩,trivial⟩) (bS rfl) ⟨_,by rw[jM h7 hall]⟩)
  |(have hgd:=ff;clear hgd;apply aM [6,12,13,49,50,51] [(6,0),(6,1),(6,2),(6,3),(6,4)] [13] (TY zl) (zl.length) [iV .i64 1];(conv=>whnf);exact⟨rfl,rfl,rfl,rfl⟩;exact rfl;exact rfl;exact⟨1,by omega,by omega,by omega,rfl,su.one zl⟩;rintro _ _ ⟨i4,hi4,XH,rfl,rfl,pQ⟩)
  |(have hgd:=h6;clear hgd;refine ak [6,12,13,49,50,51] [(6,0),(6,1),(6,2),(6,3),(6,4)] ?_;(conv=>whnf);exact⟨rfl,_,[_],⟨i4+1,by omega,by omega,rfl,by rw[bh (by omega) (by omega)],pQ.next hi4 mV lV mU (by omega)⟩,rfl,(by simp only[eu]<;>rfl),rfl,by omega⟩)
  |(have hgd:=hs;clear hgd;apply bX [6,18,19,20,25,26,27] [(6,0),(6,1),(6,2),(6,3),(6,4)] [27] (S4 HU5 (partsOf (plies.take i)) ps) (ps.length) [iV .i64 0];(conv=>whnf);exact⟨rfl,rfl,rfl,rfl⟩;exact rfl;exact rfl;exact⟨0,by omega,rfl,rfl,⟨_,_,_,_,_,_,_,_,_,_,rfl,p0.nil _,p1.nil _,p2.nil _,p3.nil _,p4.nil _⟩⟩;rintro _ _ _ ⟨j,hj,rfl,rfl,⟨k0,k1,k2,k3,k4,y0,y1,y2,y3,y4,rfl,p0,p1,p2,p3,p4⟩⟩)
  |(have hgd:=bW;clear hgd;refine ak [6,18,19,20,25,26,27] [(6,0),(6,1),(6,2),(6,3),(6,4)] ?_;(conv=>whnf);first|exact⟨rfl,_,[_],⟨j+1,by omega,rfl,by rw[bh (by omega) (by omega)];rfl,⟨_,_,_,_,_,_,_,_,_,_,rfl,p0.hit bW (by simp) _,p1.fM bW (by decide) _,p2.fM bW (by decide) _,p3.fM bW (by decide) _,p4.fM bW (by decide) _⟩⟩,rfl,rfl,by omega⟩|exact⟨rfl,_,[_],⟨j+1,by omega,rfl,by rw[bh (by omega) (by omega)];rfl,⟨_,_,_,_,_,_,_,_,_,_,rfl,p0.fM bW (by decide) _,p1.hit bW (by simp) _,p2.fM bW (by decide) _,p3.fM bW (by decide) _,p4.fM bW (by decide) _⟩⟩,rfl,rfl,by omega⟩|exact⟨rfl,_,[_],⟨j+1,by omega,rfl,by rw[bh (by omega) (by omega)];rfl,⟨_,_,_,_,_,_,_,_,_,_,rfl,p0.fM bW (by decide) _,p1.fM bW (by decide) _,p2.hit bW (by simp) _,p3.fM bW (by decide) _,p4.fM bW (by decide) _⟩⟩,rfl,rfl,by omega⟩|exact⟨rfl,_,[_],⟨j+1,by omega,rfl,by rw[bh (by omega) (by omega)];rfl,⟨_,_,_,_,_,_,_,_,_,_,rfl,p0.fM bW (by decide) _,p1.fM bW (by decide) _,p2.fM bW (by decide) _,p3.hit bW (by simp) _,p4.fM bW (by decide) _⟩⟩,rfl,rfl,by omega⟩|exact⟨rfl,_,[_],⟨j+1,by omega,rfl,by rw[bh (by omega) (by omega)];rfl,⟨_,_,_,_,_,_,_,_,_,_,rfl,p0.fM bW (by decide) _,p1.fM bW (by decide) _,p2.fM bW (by decide) _,p3.fM bW (by decide) _,p4.hit bW (by simp) _⟩⟩,rfl,rfl,by omega⟩)
  |(have hgd:=hi;clear hgd;apply bX [6,49,50,51] [(6,0),(6,1),(6,2),(6,3),(6,4)] [51] (S3 HU5 5 (fun r=>bI (r:Int) (partsOf plies))) (5) [iV .i64 0];(conv=>whnf);exact⟨rfl,rfl,rfl,rfl⟩;exact rfl;exact rfl;exact⟨0,by omega,by omega,rfl,rfl,⟨_,_,_,_,_,_,_,_,_,_,rfl,p0.all (by omega) _,p1.all (by omega) _,p2.all (by omega) _,p3.all (by omega) _,p4.all (by omega) _⟩,fun r hr=>by omega⟩;rintro _ _ _ ⟨k,HN,fS,rfl,rfl,⟨_,_,_,_,_,_,_,_,_,_,rfl,⟨rfl,rfl⟩,⟨rfl,rfl⟩,⟨rfl,rfl⟩,⟨rfl,rfl⟩,⟨rfl,rfl⟩⟩,hall⟩)
  |(have hgd:=ff;clear hgd;refine ak [6,49,50,51] [(6,0),(6,1),(6,2),(6,3),(6,4)] ?_;(conv=>whnf);first|exact⟨rfl,_,[_],⟨1,by omega,by omega,rfl,rfl,⟨_,_,_,_,_,_,_,_,_,_,rfl,gm.sort hz rfl (az.av (az.av (az.av (xs:=rZ zl) rfl _) _) _),⟨rfl,az.av (az.av (xs:=rZ _) rfl _) _⟩,⟨rfl,az.av (az.av (xs:=rZ _) rfl _) _⟩,⟨rfl,az.av (az.av (xs:=rZ _) rfl _) _⟩,⟨rfl,az.av (az.av (xs:=rZ _) rfl _) _⟩⟩,cC (c:=0) hall hz (pQ.all (gu (z:=bI ((0:Nat):Int) (partsOf plies)) h ff))⟩,rfl,rfl,by omega⟩|exact⟨rfl,_,[_],⟨2,by omega,by omega,rfl,rfl,⟨_,_,_,_,_,_,_,_,_,_,rfl,⟨rfl,az.av (az.av (xs:=rZ _) rfl _) _⟩,gm.sort hz rfl (az.av (az.av (az.av (xs:=rZ zl) rfl _) _) _),⟨rfl,az.av (az.av (xs:=rZ _) rfl _) _⟩,⟨rfl,az.av (az.av (xs:=rZ _) rfl _) _⟩,⟨rfl,az.av (az.av (xs:=rZ _) rfl _) _⟩⟩,cC (c:=1) hall hz (pQ.all (gu (z:=bI ((1:Nat):Int) (partsOf plies)) h ff))⟩,rfl,rfl,by omega⟩|exact⟨rfl,_,[_],⟨3,by omega,by omega,rfl,rfl,⟨_,_,_,_,_,_,_,_,_,_,rfl,⟨rfl,az.av (az.av (xs:=rZ _) rfl _) _⟩,⟨rfl,az.av (az.av (xs:=rZ _) rfl _) _⟩,gm.sort hz rfl (az.av (az.av (az.av (xs:=rZ zl) rfl _) _) _),⟨rfl,az.av (az.av (xs:=rZ _) rfl _) _⟩,⟨rfl,az.av (az.av (xs:=rZ _) rfl _) _⟩⟩,cC (c:=2) hall hz (pQ.all (gu (z:=bI ((2:Nat):Int) (partsOf plies)) h ff))⟩,rfl,rfl,by omega⟩|exact⟨rfl,_,[_],⟨4,by omega,by omega,rfl,rfl,⟨_,_,_,_,_,_,_,_,_,_,rfl,⟨rfl,az.av (az.av (xs:=rZ _) rfl _) _⟩,⟨rfl,az.av (az.av (xs:=rZ _) rfl _) _⟩,⟨rfl,az.av (az.av (xs:=rZ _) rfl _) _⟩,gm.sort hz rfl (az.av (az.av (az.av (xs:=rZ zl) rfl _) _) _),⟨rfl,az.av (az.av (xs:=rZ _) rfl _) _⟩⟩,cC (c:=3) hall hz (pQ.all (gu (z:=bI ((3:Nat):Int) (partsOf plies)) h ff))⟩,rfl,rfl,by omega⟩|exact⟨rfl,_,[_],⟨5,by omega,by omega,rfl,rfl,⟨_,_,_,_,_,_,_,_,_,_,rfl,⟨rfl,az.av (az.av (xs:=rZ _) rfl _) _⟩,⟨rfl,az.av (az.av (xs:=rZ _) rfl _) _⟩,⟨rfl,az.av (az.av (xs:=rZ _) rfl _) _⟩,⟨rfl,az.av (az.av (xs:=rZ _) rfl _) _⟩,gm.sort hz rfl (az.av (az.av (az.av (xs:=rZ zl) rfl _) _) _)⟩,cC (c:=4) hall hz (pQ.all (gu (z:=bI ((4:Nat):Int) (partsOf plies)) h ff))⟩,rfl,rfl,by omega⟩)
  |(apply ij [6,18,19,20] [(6,0),(6,1),(6,2),(6,3),(6,4)] [20] (S5 HU5 plies) (plies.length) [iV .i64 0] (dK.trans (dK.gp 24 0 0 2 rfl rfl rfl) (dK.trans (dK.gp 24 1 0 2 rfl rfl rfl) (dK.trans (dK.gp 24 2 0 2 rfl rfl rfl) (dK.trans (dK.gp 24 3 0 2 rfl rfl rfl) (dK.gp 24 4 0 2 rfl rfl rfl)))));(conv=>whnf);exact⟨rfl,rfl,rfl,rfl⟩;exact rfl;exact rfl;exact⟨0,by omega,rfl,rfl,⟨_,_,_,_,_,_,_,_,_,_,rfl,⟨rfl,rfl⟩,⟨rfl,rfl⟩,⟨rfl,rfl⟩,⟨rfl,rfl⟩,⟨rfl,rfl⟩⟩⟩;rintro _ _ _ ⟨i,hi,rfl,rfl,⟨k0,k1,k2,k3,k4,y0,y1,y2,y3,y4,rfl,p0,p1,p2,p3,p4⟩⟩)
  |(have hgd:=hj;clear hgd;refine ak [6,18,19,20] [(6,0),(6,1),(6,2),(6,3),(6,4)] ?_;(conv=>whnf);exact⟨rfl,_,[_],⟨i+1,by omega,rfl,by rw[bh (by omega) (by omega)];rfl,⟨_,_,_,_,_,_,_,_,_,_,rfl,p0.sy hs (by omega) _,p1.sy hs (by omega) _,p2.sy hs (by omega) _,p3.sy hs (by omega) _,p4.sy hs (by omega) _⟩⟩,rfl,rfl,by omega⟩))
 all_goals (conv=>whnf)
end Go.aT.Cd
end
section
namespace Go.aT.Cd
open Go Go.Proofs
set_option maxRecDepth 100000
set_option maxHeartbeats 4000000
def HU6 (F:Nat→List Zn) (hq:HS):Prop:= ∃ (k0 k1 k2 k3 k4 k5:Nat) (y0 y1 y2 y3 y4 y5:List (List C)),hq=[(4, .row 1 [[.own 8 2 0 k0],[.own 12 2 0 k1],[.own 16 2 0 k2],[.own 20 2 0 k3],[.own 24 2 0 k4],[.own 28 2 0 k5]]),(8, .row 2 y0),(12, .row 2 y1),(16, .row 2 y2),(20, .row 2 y3),(24, .row 2 y4),(28, .row 2 y5)]∧gm k0 y0 (F 0)∧gm k1 y1 (F 1)∧gm k2 y2 (F 2)∧gm k3 y3 (F 3)∧gm k4 y4 (F 4)∧gm k5 y5 (F 5)
theorem VO (hS:gA Tryz.prog 63 64) (e0 e1 e2 e3 e4 e5:List T) (ln wd rx ry:Int) (sizes places plies:Lz) (hy: ∀e,e∈plies→ ∃l q,e=[tI l, .aB 4 q]∧Ao q) (j8:plies.length≤1000000) (hB: ∀e,e∈plies→(nL 1 e).length≤1000) (hT: ∀i,(partsOf (plies.take i)).length≤100000) (eF: ∀e,e∈plies→ ∀q,q∈nL 1 e→0≤nI 0 q∧nI 0 q < 6):Tg 34 [o8 ln wd rx ry sizes places plies,oL 7 [e0,e1,e2,e3,e4,e5]] (PV 6 (partsOf plies)):=by
 have hZ: ∀c:Int,(bI c (partsOf plies)).length≤100000:=fun c=>by have h1:=ko c (partsOf plies);have h2:=hT plies.length;rw[List.take_of_length_le (Nat.le_refl _)]at h2;omega
 refine aJ ?_
 refine ah Tryz.func34 ?_
 repeat' (conv=>whnf
          first
  |(refine au (fun h=>?_) (fun h=>?_))
  |(refine And.intro ⟨by simp,by simp,by simp,by simp⟩ ?_)
  |(have Bv:=vl.2;have ph:=vl.1;have xg:r1=0∨r1=1∨r1=2∨r1=3∨r1=4∨r1=5:=(by omega);clear ph Bv;rcases xg with rfl|rfl|rfl|rfl|rfl|rfl)
  |(have ph:=HN;have C3:=h;simp at C3;have xg:k=0∨k=1∨k=2∨k=3∨k=4∨k=5:=(by omega);clear ph C3;rcases xg with rfl|rfl|rfl|rfl|rfl|rfl)
  |(refine And.intro ⟨by simp,by simp⟩ ?_)
  |(refine aq (xs:=plies) hy (by omega) (by omega) ?_;rintro _ ⟨l,ps,rfl,hq⟩ hs;have HW:=eF _ (List.mem_of_getElem? hs);have OW:ps.length≤1000:=hB _ (List.mem_of_getElem? hs);have TE:=hT i)
  |(refine aq (xs:=ps) hq (by omega) (by omega) ?_;rintro _ ⟨r1,f1,t1,a1,rfl⟩ bW;have vl:=HW _ (List.mem_of_getElem? bW);simp only[nI,List.getElem?_cons_zero]at vl)
  |(have hb0:=p0.lR (B:=101000) (by omega);refine And.intro ⟨hb0.1.symm,by simp[aW];omega,by simp[maxLen];omega⟩ ?_)
  |(have pn:=p1.lR (B:=101000) (by omega);refine And.intro ⟨pn.1.symm,by simp[aW];omega,by simp[maxLen];omega⟩ ?_)
  |(have nj:=p2.lR (B:=101000) (by omega);refine And.intro ⟨nj.1.symm,by simp[aW];omega,by simp[maxLen];omega⟩ ?_)
  |(have OX:=p3.lR (B:=101000) (by omega);refine And.intro ⟨OX.1.symm,by simp[aW];omega,by simp[maxLen];omega⟩ ?_)
  |(have hb4:=p4.lR (B:=101000) (by omega);refine And.intro ⟨hb4.1.symm,by simp[aW];omega,by simp[maxLen];omega⟩ ?_)
  |(have OW:=p5.lR (B:=101000) (by omega);refine And.intro ⟨OW.1.symm,by simp[aW];omega,by simp[maxLen];omega⟩ ?_)
  |(have h6:=gq (z:=bI ((0:Nat):Int) (partsOf plies)) h ff;refine And.intro ⟨by omega,h⟩ ?_)
  |(have h6:=gq (z:=bI ((1:Nat):Int) (partsOf plies)) h ff;refine And.intro ⟨by omega,h⟩ ?_)
  |(have h6:=gq (z:=bI ((2:Nat):Int) (partsOf plies)) h ff;refine And.intro ⟨by omega,h⟩ ?_)
  |(have h6:=gq (z:=bI ((3:Nat):Int) (partsOf plies)) h ff;refine And.intro ⟨by omega,h⟩ ?_)
  |(have h6:=gq (z:=bI ((4:Nat):Int) (partsOf plies)) h ff;refine And.intro ⟨by omega,h⟩ ?_)
  |(have h6:=gq (z:=bI ((5:Nat):Int) (partsOf plies)) h ff;refine And.intro ⟨by omega,h⟩ ?_)
  |(have mV:IntKind.i64.wrap (i4 - 1)=i4 - 1:=bh (by omega) (by omega);generalize IntKind.i64.wrap (i4 - 1)=j1 at mV⊢;refine And.intro ⟨by omega,by omega⟩ ?_)
  |(refine And.intro (by kernel_rfl) ?_)
  |(refine fu [8] rfl (cU hS (bI ((0:Nat):Int) (partsOf plies)) (hZ _)) rfl (jU rfl (rfl:az _ (rZ (bI ((0:Nat):Int) (partsOf plies))))) ?_;rintro _ _ ⟨rfl,rfl⟩;obtain⟨zl,hz⟩: ∃zl,zl=cK (bI ((0:Nat):Int) (partsOf plies)):=⟨_,rfl⟩;rw[←hz];have jn:zl.length≤100000:=(by rw[hz,aP];exact hZ _);have ff:zl.length=(bI ((0:Nat):Int) (partsOf plies)).length:=(by rw[hz,aP]))
  |(refine fu [12] rfl (cU hS (bI ((1:Nat):Int) (partsOf plies)) (hZ _)) rfl (jU rfl (rfl:az _ (rZ (bI ((1:Nat):Int) (partsOf plies))))) ?_;rintro _ _ ⟨rfl,rfl⟩;obtain⟨zl,hz⟩: ∃zl,zl=cK (bI ((1:Nat):Int) (partsOf plies)):=⟨_,rfl⟩;rw[←hz];have jn:zl.length≤100000:=(by rw[hz,aP];exact hZ _);have ff:zl.length=(bI ((1:Nat):Int) (partsOf plies)).length:=(by rw[hz,aP]))
  |(refine fu [16] rfl (cU hS (bI ((2:Nat):Int) (partsOf plies)) (hZ _)) rfl (jU rfl (rfl:az _ (rZ (bI ((2:Nat):Int) (partsOf plies))))) ?_;rintro _ _ ⟨rfl,rfl⟩;obtain⟨zl,hz⟩: ∃zl,zl=cK (bI ((2:Nat):Int) (partsOf plies)):=⟨_,rfl⟩;rw[←hz];have jn:zl.length≤100000:=(by rw[hz,aP];exact hZ _);have ff:zl.length=(bI ((2:Nat):Int) (partsOf plies)).length:=(by rw[hz,aP]))
  |(refine fu [20] rfl (cU hS (bI ((3:Nat):Int) (partsOf plies)) (hZ _)) rfl (jU rfl (rfl:az _ (rZ (bI ((3:Nat):Int) (partsOf plies))))) ?_;rintro _ _ ⟨rfl,rfl⟩;obtain⟨zl,hz⟩: ∃zl,zl=cK (bI ((3:Nat):Int) (partsOf plies)):=⟨_,rfl⟩;rw[←hz];have jn:zl.length≤100000:=(by rw[hz,aP];exact hZ _);have ff:zl.length=(bI ((3:Nat):Int) (partsOf plies)).length:=(by rw[hz,aP]))
  |(refine fu [24] rfl (cU hS (bI ((4:Nat):Int) (partsOf plies)) (hZ _)) rfl (jU rfl (rfl:az _ (rZ (bI ((4:Nat):Int) (partsOf plies))))) ?_;rintro _ _ ⟨rfl,rfl⟩;obtain⟨zl,hz⟩: ∃zl,zl=cK (bI ((4:Nat):Int) (partsOf plies)):=⟨_,rfl⟩;rw[←hz];have jn:zl.length≤100000:=(by rw[hz,aP];exact hZ _);have ff:zl.length=(bI ((4:Nat):Int) (partsOf plies)).length:=(by rw[hz,aP]))
  |(refine fu [28] rfl (cU hS (bI ((5:Nat):Int) (partsOf plies)) (hZ _)) rfl (jU rfl (rfl:az _ (rZ (bI ((5:Nat):Int) (partsOf plies))))) ?_;rintro _ _ ⟨rfl,rfl⟩;obtain⟨zl,hz⟩: ∃zl,zl=cK (bI ((5:Nat):Int) (partsOf plies)):=⟨_,rfl⟩;rw[←hz];have jn:zl.length≤100000:=(by rw[hz,aP];exact hZ _);have ff:zl.length=(bI ((5:Nat):Int) (partsOf plies)).length:=(by rw[hz,aP]))
  |(refine bJ (xs:=rZ zl) (az.av (az.av (xs:=rZ zl) rfl _) _) (zA zl) (by rw[cR];omega) ?_;first|(rintro _ ⟨a6,b6,rfl⟩ lV;have:=mU)|rintro _ ⟨a5,b5,rfl⟩ mU)
  |exact dg rfl (bR 1 rfl) (bS rfl) ⟨_,by rw[cT (r:=0) (by omega) hz (cA hi4 mV lV mU (by omega))]⟩
  |exact dg rfl (bR 1 rfl) (bS rfl) ⟨_,by rw[cT (r:=1) (by omega) hz (cA hi4 mV lV mU (by omega))]⟩
  |exact dg rfl (bR 1 rfl) (bS rfl) ⟨_,by rw[cT (r:=2) (by omega) hz (cA hi4 mV lV mU (by omega))]⟩
  |exact dg rfl (bR 1 rfl) (bS rfl) ⟨_,by rw[cT (r:=3) (by omega) hz (cA hi4 mV lV mU (by omega))]⟩
  |exact dg rfl (bR 1 rfl) (bS rfl) ⟨_,by rw[cT (r:=4) (by omega) hz (cA hi4 mV lV mU (by omega))]⟩
  |exact dg rfl (bR 1 rfl) (bS rfl) ⟨_,by rw[cT (r:=5) (by omega) hz (cA hi4 mV lV mU (by omega))]⟩
  |(have h7:((6:Nat):Int)≤k:=(by simp at h;omega);exact dg rfl (qv [(8,_,_),(12,_,_),(16,_,_),(20,_,_),(24,_,_),(28,_,_)] rfl rfl rfl rfl ⟨⟨_,rfl,rfl,(cR _).symm⟩,⟨_,rfl,rfl,(cR _).symm⟩,⟨_,rfl,rfl,(cR _).symm⟩,⟨_,rfl,rfl,(cR _).symm⟩,⟨_,rfl,rfl,(cR _).symm⟩,⟨_,rfl,rfl,(cR _).symm⟩,trivial⟩) (bS rfl) ⟨_,by rw[jM h7 hall]⟩)
  |(have hgd:=ff;clear hgd;apply aM [6,12,13,49,50,51] [(6,0),(6,1),(6,2),(6,3),(6,4),(6,5)] [13] (TY zl) (zl.length) [iV .i64 1];(conv=>whnf);exact⟨rfl,rfl,rfl,rfl⟩;exact rfl;exact rfl;exact⟨1,by omega,by omega,by omega,rfl,su.one zl⟩;rintro _ _ ⟨i4,hi4,XH,rfl,rfl,pQ⟩)
  |(have hgd:=h6;clear hgd;refine ak [6,12,13,49,50,51] [(6,0),(6,1),(6,2),(6,3),(6,4),(6,5)] ?_;(conv=>whnf);exact⟨rfl,_,[_],⟨i4+1,by omega,by omega,rfl,by rw[bh (by omega) (by omega)],pQ.next hi4 mV lV mU (by omega)⟩,rfl,(by simp only[eu]<;>rfl),rfl,by omega⟩)
  |(have hgd:=hs;clear hgd;apply bX [6,18,19,20,25,26,27] [(6,0),(6,1),(6,2),(6,3),(6,4),(6,5)] [27] (S4 HU6 (partsOf (plies.take i)) ps) (ps.length) [iV .i64 0];(conv=>whnf);exact⟨rfl,rfl,rfl,rfl⟩;exact rfl;exact rfl;exact⟨0,by omega,rfl,rfl,⟨_,_,_,_,_,_,_,_,_,_,_,_,rfl,p0.nil _,p1.nil _,p2.nil _,p3.nil _,p4.nil _,p5.nil _⟩⟩;rintro _ _ _ ⟨j,hj,rfl,rfl,⟨k0,k1,k2,k3,k4,k5,y0,y1,y2,y3,y4,y5,rfl,p0,p1,p2,p3,p4,p5⟩⟩)
  |(have hgd:=bW;clear hgd;refine ak [6,18,19,20,25,26,27] [(6,0),(6,1),(6,2),(6,3),(6,4),(6,5)] ?_;(conv=>whnf);first|exact⟨rfl,_,[_],⟨j+1,by omega,rfl,by rw[bh (by omega) (by omega)];rfl,⟨_,_,_,_,_,_,_,_,_,_,_,_,rfl,p0.hit bW (by simp) _,p1.fM bW (by decide) _,p2.fM bW (by decide) _,p3.fM bW (by decide) _,p4.fM bW (by decide) _,p5.fM bW (by decide) _⟩⟩,rfl,rfl,by omega⟩|exact⟨rfl,_,[_],⟨j+1,by omega,rfl,by rw[bh (by omega) (by omega)];rfl,⟨_,_,_,_,_,_,_,_,_,_,_,_,rfl,p0.fM bW (by decide) _,p1.hit bW (by simp) _,p2.fM bW (by decide) _,p3.fM bW (by decide) _,p4.fM bW (by decide) _,p5.fM bW (by decide) _⟩⟩,rfl,rfl,by omega⟩|exact⟨rfl,_,[_],⟨j+1,by omega,rfl,by rw[bh (by omega) (by omega)];rfl,⟨_,_,_,_,_,_,_,_,_,_,_,_,rfl,p0.fM bW (by decide) _,p1.fM bW (by decide) _,p2.hit bW (by simp) _,p3.fM bW (by decide) _,p4.fM bW (by decide) _,p5.fM bW (by decide) _⟩⟩,rfl,rfl,by omega⟩|exact⟨rfl,_,[_],⟨j+1,by omega,rfl,by rw[bh (by omega) (by omega)];rfl,⟨_,_,_,_,_,_,_,_,_,_,_,_,rfl,p0.fM bW (by decide) _,p1.fM bW (by decide) _,p2.fM bW (by decide) _,p3.hit bW (by simp) _,p4.fM bW (by decide) _,p5.fM bW (by decide) _⟩⟩,rfl,rfl,by omega⟩|exact⟨rfl,_,[_],⟨j+1,by omega,rfl,by rw[bh (by omega) (by omega)];rfl,⟨_,_,_,_,_,_,_,_,_,_,_,_,rfl,p0.fM bW (by decide) _,p1.fM bW (by decide) _,p2.fM bW (by decide) _,p3.fM bW (by decide) _,p4.hit bW (by simp) _,p5.fM bW (by decide) _⟩⟩,rfl,rfl,by omega⟩|exact⟨rfl,_,[_],⟨j+1,by omega,rfl,by rw[bh (by omega) (by omega)];rfl,⟨_,_,_,_,_,_,_,_,_,_,_,_,rfl,p0.fM bW (by decide) _,p1.fM bW (by decide) _,p2.fM bW (by decide) _,p3.fM bW (by decide) _,p4.fM bW (by decide) _,p5.hit bW (by simp) _⟩⟩,rfl,rfl,by omega⟩)
  |(have hgd:=hi;clear hgd;apply bX [6,49,50,51] [(6,0),(6,1),(6,2),(6,3),(6,4),(6,5)] [51] (S3 HU6 6 (fun r=>bI (r:Int) (partsOf plies))) (6) [iV .i64 0];(conv=>whnf);exact⟨rfl,rfl,rfl,rfl⟩;exact rfl;exact rfl;exact⟨0,by omega,by omega,rfl,rfl,⟨_,_,_,_,_,_,_,_,_,_,_,_,rfl,p0.all (by omega) _,p1.all (by omega) _,p2.all (by omega) _,p3.all (by omega) _,p4.all (by omega) _,p5.all (by omega) _⟩,fun r hr=>by omega⟩;rintro _ _ _ ⟨k,HN,fS,rfl,rfl,⟨_,_,_,_,_,_,_,_,_,_,_,_,rfl,⟨rfl,rfl⟩,⟨rfl,rfl⟩,⟨rfl,rfl⟩,⟨rfl,rfl⟩,⟨rfl,rfl⟩,⟨rfl,rfl⟩⟩,hall⟩)
  |(have hgd:=ff;clear hgd;refine ak [6,49,50,51] [(6,0),(6,1),(6,2),(6,3),(6,4),(6,5)] ?_;(conv=>whnf);first|exact⟨rfl,_,[_],⟨1,by omega,by omega,rfl,rfl,⟨_,_,_,_,_,_,_,_,_,_,_,_,rfl,gm.sort hz rfl (az.av (az.av (az.av (xs:=rZ zl) rfl _) _) _),⟨rfl,az.av (az.av (xs:=rZ _) rfl _) _⟩,⟨rfl,az.av (az.av (xs:=rZ _) rfl _) _⟩,⟨rfl,az.av (az.av (xs:=rZ _) rfl _) _⟩,⟨rfl,az.av (az.av (xs:=rZ _) rfl _) _⟩,⟨rfl,az.av (az.av (xs:=rZ _) rfl _) _⟩⟩,cC (c:=0) hall hz (pQ.all (gu (z:=bI ((0:Nat):Int) (partsOf plies)) h ff))⟩,rfl,rfl,by omega⟩|exact⟨rfl,_,[_],⟨2,by omega,by omega,rfl,rfl,⟨_,_,_,_,_,_,_,_,_,_,_,_,rfl,⟨rfl,az.av (az.av (xs:=rZ _) rfl _) _⟩,gm.sort hz rfl (az.av (az.av (az.av (xs:=rZ zl) rfl _) _) _),⟨rfl,az.av (az.av (xs:=rZ _) rfl _) _⟩,⟨rfl,az.av (az.av (xs:=rZ _) rfl _) _⟩,⟨rfl,az.av (az.av (xs:=rZ _) rfl _) _⟩,⟨rfl,az.av (az.av (xs:=rZ _) rfl _) _⟩⟩,cC (c:=1) hall hz (pQ.all (gu (z:=bI ((1:Nat):Int) (partsOf plies)) h ff))⟩,rfl,rfl,by omega⟩|exact⟨rfl,_,[_],⟨3,by omega,by omega,rfl,rfl,⟨_,_,_,_,_,_,_,_,_,_,_,_,rfl,⟨rfl,az.av (az.av (xs:=rZ _) rfl _) _⟩,⟨rfl,az.av (az.av (xs:=rZ _) rfl _) _⟩,gm.sort hz rfl (az.av (az.av (az.av (xs:=rZ zl) rfl _) _) _),⟨rfl,az.av (az.av (xs:=rZ _) rfl _) _⟩,⟨rfl,az.av (az.av (xs:=rZ _) rfl _) _⟩,⟨rfl,az.av (az.av (xs:=rZ _) rfl _) _⟩⟩,cC (c:=2) hall hz (pQ.all (gu (z:=bI ((2:Nat):Int) (partsOf plies)) h ff))⟩,rfl,rfl,by omega⟩|exact⟨rfl,_,[_],⟨4,by omega,by omega,rfl,rfl,⟨_,_,_,_,_,_,_,_,_,_,_,_,rfl,⟨rfl,az.av (az.av (xs:=rZ _) rfl _) _⟩,⟨rfl,az.av (az.av (xs:=rZ _) rfl _) _⟩,⟨rfl,az.av (az.av (xs:=rZ _) rfl _) _⟩,gm.sort hz rfl (az.av (az.av (az.av (xs:=rZ zl) rfl _) _) _),⟨rfl,az.av (az.av (xs:=rZ _) rfl _) _⟩,⟨rfl,az.av (az.av (xs:=rZ _) rfl _) _⟩⟩,cC (c:=3) hall hz (pQ.all (gu (z:=bI ((3:Nat):Int) (partsOf plies)) h ff))⟩,rfl,rfl,by omega⟩|exact⟨rfl,_,[_],⟨5,by omega,by omega,rfl,rfl,⟨_,_,_,_,_,_,_,_,_,_,_,_,rfl,⟨rfl,az.av (az.av (xs:=rZ _) rfl _) _⟩,⟨rfl,az.av (az.av (xs:=rZ _) rfl _) _⟩,⟨rfl,az.av (az.av (xs:=rZ _) rfl _) _⟩,⟨rfl,az.av (az.av (xs:=rZ _) rfl _) _⟩,gm.sort hz rfl (az.av (az.av (az.av (xs:=rZ zl) rfl _) _) _),⟨rfl,az.av (az.av (xs:=rZ _) rfl _) _⟩⟩,cC (c:=4) hall hz (pQ.all (gu (z:=bI ((4:Nat):Int) (partsOf plies)) h ff))⟩,rfl,rfl,by omega⟩|exact⟨rfl,_,[_],⟨6,by omega,by omega,rfl,rfl,⟨_,_,_,_,_,_,_,_,_,_,_,_,rfl,⟨rfl,az.av (az.av (xs:=rZ _) rfl _) _⟩,⟨rfl,az.av (az.av (xs:=rZ _) rfl _) _⟩,⟨rfl,az.av (az.av (xs:=rZ _) rfl _) _⟩,⟨rfl,az.av (az.av (xs:=rZ _) rfl _) _⟩,⟨rfl,az.av (az.av (xs:=rZ _) rfl _) _⟩,gm.sort hz rfl (az.av (az.av (az.av (xs:=rZ zl) rfl _) _) _)⟩,cC (c:=5) hall hz (pQ.all (gu (z:=bI ((5:Nat):Int) (partsOf plies)) h ff))⟩,rfl,rfl,by omega⟩)
  |(apply ij [6,18,19,20] [(6,0),(6,1),(6,2),(6,3),(6,4),(6,5)] [20] (S5 HU6 plies) (plies.length) [iV .i64 0] (dK.trans (dK.gp 24 0 0 2 rfl rfl rfl) (dK.trans (dK.gp 24 1 0 2 rfl rfl rfl) (dK.trans (dK.gp 24 2 0 2 rfl rfl rfl) (dK.trans (dK.gp 24 3 0 2 rfl rfl rfl) (dK.trans (dK.gp 24 4 0 2 rfl rfl rfl) (dK.gp 24 5 0 2 rfl rfl rfl))))));(conv=>whnf);exact⟨rfl,rfl,rfl,rfl⟩;exact rfl;exact rfl;exact⟨0,by omega,rfl,rfl,⟨_,_,_,_,_,_,_,_,_,_,_,_,rfl,⟨rfl,rfl⟩,⟨rfl,rfl⟩,⟨rfl,rfl⟩,⟨rfl,rfl⟩,⟨rfl,rfl⟩,⟨rfl,rfl⟩⟩⟩;rintro _ _ _ ⟨i,hi,rfl,rfl,⟨k0,k1,k2,k3,k4,k5,y0,y1,y2,y3,y4,y5,rfl,p0,p1,p2,p3,p4,p5⟩⟩)
  |(have hgd:=hj;clear hgd;refine ak [6,18,19,20] [(6,0),(6,1),(6,2),(6,3),(6,4),(6,5)] ?_;(conv=>whnf);exact⟨rfl,_,[_],⟨i+1,by omega,rfl,by rw[bh (by omega) (by omega)];rfl,⟨_,_,_,_,_,_,_,_,_,_,_,_,rfl,p0.sy hs (by omega) _,p1.sy hs (by omega) _,p2.sy hs (by omega) _,p3.sy hs (by omega) _,p4.sy hs (by omega) _,p5.sy hs (by omega) _⟩⟩,rfl,rfl,by omega⟩))
 all_goals (conv=>whnf)
end Go.aT.Cd
end
section
namespace Go.aT.Cd
open Go Go.Proofs
set_option maxRecDepth 100000
set_option maxHeartbeats 1000000
variable [Aq]
abbrev tS (plies:Lz):Prop:= ∀e,e∈plies→ ∃l q,e=[tI l, .aB 4 q]∧Ao q
theorem AJ (ag:Lz) (hr:ag.length≤6) (ln wd rx ry:Int) (sizes places plies:Lz) (hy:tS plies) (j8:plies.length≤1000000) (hB: ∀e,e∈plies→(nL 1 e).length≤1000) (hT: ∀i,(partsOf (plies.take i)).length≤100000) (eF: ∀e,e∈plies→ ∀q,q∈nL 1 e→0≤nI 0 q∧nI 0 q < (ag.length:Int)):
 Tg 34 [o8 ln wd rx ry sizes places plies,oL 7 ag] (PV ag.length (partsOf plies)):=by
 match ag,hr,eF with
 | [],_,eF=>exact VU jP ln wd rx ry sizes places plies hy j8 hB hT eF
 | [e0],_,eF=>exact VT jP e0 ln wd rx ry sizes places plies hy j8 hB hT eF
 | [e0,e1],_,eF=>exact VS jP e0 e1 ln wd rx ry sizes places plies hy j8 hB hT eF
 | [e0,e1,e2],_,eF=>exact VR jP e0 e1 e2 ln wd rx ry sizes places plies hy j8 hB hT eF
 | [e0,e1,e2,e3],_,eF=>exact VQ jP e0 e1 e2 e3 ln wd rx ry sizes places plies hy j8 hB hT eF
 | [e0,e1,e2,e3,e4],_,eF=>exact VP jP e0 e1 e2 e3 e4 ln wd rx ry sizes places plies hy j8 hB hT eF
 | [e0,e1,e2,e3,e4,e5],_,eF=>exact VO jP e0 e1 e2 e3 e4 e5 ln wd rx ry sizes places plies hy j8 hB hT eF
 |_::_::_::_::_::_::_::r,hr,_=>simp at hr
theorem zC {B:Nat}: ∀ {plies:Lz},(∀e,e∈plies→(nL 1 e).length≤B)→(partsOf plies).length≤plies.length * B
 | [],_=>by simp[partsOf]
 |e::r,h=>by
  have h1:=zC (plies:=r) (fun x hx=>h x (List.mem_cons_of_mem _ hx))
  have h2:=h e List.mem_cons_self
  simp only[partsOf,List.flatMap_cons,List.length_append,List.length_cons,Nat.add_mul,Nat.one_mul]at h1⊢
  omega
theorem Ey {plies:Lz} (h: ∀e,e∈plies→(nL 1 e).length≤1000) (hl:plies.length≤40) (i:Nat):(partsOf (plies.take i)).length≤100000:=by
 have h1:=zC (plies:=plies.take i) (fun e he=>h e (List.mem_of_mem_take he))
 have h2:(plies.take i).length≤40:=by rw[List.length_take];omega
 have h3:(plies.take i).length * 1000≤40 * 1000:=Nat.mul_le_mul_right _ h2
 omega
def PyL (ln wd:Int) (ae ag aQ:Lz) (e:List T):Prop:=yc ln wd ae ag aQ (nI 0 e) (nL 1 e)
structure S0 (ln wd:Int) (ae ag aQ plies:Lz):Prop where
 cl:ClF ln wd ae ag aQ
 n:plies.length≤40
 all: ∀e,e∈plies→PyL ln wd ae ag aQ e
 us:zh ag.length (partsOf plies)=true
theorem QN {ln wd:Int} {ae ag aQ:Lz} {e:List T} (h:PyL ln wd ae ag aQ e): ∀q,q∈nL 1 e→0≤nI 0 q∧nI 0 q < (ag.length:Int):=by
 intro q hq
 obtain⟨i,hi,rfl⟩:=List.getElem_of_mem hq
 exact(h.all i _ (by simp[hi])).1.1.1
theorem AL (ln wd rx ry:Int) (sizes places plies ae ag aQ:Lz) (hp:pF ae) (hR:Fh ag) (B2:ag.length≤6) (hlo:Is aQ) (hy:tS plies) (j8:plies.length≤1000000) (hB: ∀e,e∈plies→(nL 1 e).length≤1000):Tg 16 [o8 ln wd rx ry sizes places plies,oL 1 ae,oL 7 ag,oL 1 aQ] (kZ (fun n=>n=0↔S0 ln wd ae ag aQ plies)):=by
 refine ah Tryz.func16 ?_
 repeat' (conv=>whnf
          first
  |(refine au (fun h=>?_) (fun h=>?_))
  |(refine ca (fun h=>?_) (fun h=>?_))
  |(refine aF (fun h=>?_) (fun h=>?_))
  |(refine aq (xs:=plies) hy (by omega) (by omega) ?_;rintro _ ⟨l,ps,rfl,hps⟩ hs)
  |(refine ai rfl (qo ln wd rx ry sizes places ae ag aQ hp hR (by simp only[maxLen];omega)) ?_;rintro _ ⟨n,rfl,hn⟩)
  |(refine ai rfl (sL ln wd rx ry sizes places ae ag aQ hp hR (by simp only[maxLen];omega) hlo (hn.1 (by assumption)).rs.aQ l ps hps (by have h3:ps.length≤1000:=hB _ (List.mem_of_getElem? hs);simp only[maxLen];omega)) ?_;rintro _ ⟨n2,rfl,J5⟩)
  |(refine ai rfl (AJ ag B2 ln wd rx ry sizes places plies hy j8 hB (Ey hB (by omega)) (fun e he=>QN (hpre.all (by omega) e he))) ?_;rintro _ ⟨z,rfl⟩)
  |exact gi rfl rfl (iff_of_false (by assumption) (fun hh=>absurd (hn.2 hh.cl) (by assumption)))
  |exact gi rfl rfl (iff_of_false (by decide) (fun hh=>by have h1:=hh.n;omega))
  |exact gi rfl rfl (iff_of_false (by assumption) (fun hh=>absurd (J5.2 (hh.all _ (List.mem_of_getElem? hs))) (by assumption)))
  |exact gi rfl rfl (iff_of_false (by decide) (fun hh=>absurd hh.us (Jy (by assumption))))
  |exact gi rfl rfl (iff_of_true rfl ⟨hn.1 (by assumption),by omega,hpre.all (by omega),wQ (by assumption)⟩)
  |(apply bp [1,2,3,4,29,30,31] [] [31] [(4,7)] (Z6 (PyL ln wd ae ag aQ) plies [[[tI ln,tI wd,tI rx,tI ry, .aB 1 sizes, .aB 7 places, .aB 2 plies]]]) (plies.length) [iV .i64 0];(conv=>whnf);exact⟨rfl,rfl,rfl,rfl⟩;exact rfl;exact rfl;exact .cons (az.av (xs:=[[tI ln,tI wd,tI rx,tI ry, .aB 1 sizes, .aB 7 places, .aB 2 plies]]) rfl _) .nil;exact⟨0,by omega,Pre.zero,rfl,rfl,rfl⟩;rintro _ _ _ ⟨i,hi,hpre,rfl,rfl,rfl⟩)
  |(refine ak [1,2,3,4,29,30,31] [] ?_;(conv=>whnf);exact⟨rfl,_,[_],_, .cons (az.av (xs:=[[tI ln,tI wd,tI rx,tI ry, .aB 1 sizes, .aB 7 places, .aB 2 plies]]) rfl _) .nil,Z6.next (by omega) (by simp only[maxLen];omega) hpre hs (J5.1 (by assumption)),rfl,rfl,by omega⟩))
 all_goals (conv=>whnf)
def V3 (ln wd rx ry:Int) (sizes places plies ae ag aQ:Lz):Int:=pk 16 [o8 ln wd rx ry sizes places plies,oL 1 ae,oL 7 ag,oL 1 aQ] (fun n=>[oI n]) (fun n=>n=0↔S0 ln wd ae ag aQ plies)
theorem pJ (ln wd rx ry:Int) (sizes places plies ae ag aQ:Lz) (hp:pF ae) (hR:Fh ag) (B2:ag.length≤6) (hlo:Is aQ) (hy:tS plies) (j8:plies.length≤1000000) (hB: ∀e,e∈plies→(nL 1 e).length≤1000):
 ∃ts,Fn Tryz.prog 16 [o8 ln wd rx ry sizes places plies,oL 1 ae,oL 7 ag,oL 1 aQ] [] (aL ts) []∧(aL ts).bL=true∧(ts=[oI (V3 ln wd rx ry sizes places plies ae ag aQ)]∧(V3 ln wd rx ry sizes places plies ae ag aQ=0↔S0 ln wd ae ag aQ plies)):=by
 obtain⟨ts,h1,h2,n,rfl,h3⟩:=AL ln wd rx ry sizes places plies ae ag aQ hp hR B2 hlo hy j8 hB
 exact ue (enc:=fun n:Int=>[oI n]) (Q:=fun n=>n=0↔S0 ln wd ae ag aQ plies) ⟨n,h1,h2,h3⟩
def Io (ag sizes places:Lz) (e:List T) (i k:Nat) (poly:Lz):List T:=
 [tI (i:Int),tI (k:Int),tI (nI 0 e),tI (nI 0 (pD sizes (nI 0 (pD places (k:Int))))), .aB 1 [[tI (nI 0 (jF (nI 0 e) (nL 1 e) poly))]],tB (Ib (nI 0 e) (nL 1 e) ag poly).1]
abbrev kL (xs:Lz) (i:Nat):List T:=(xs[i]?).getD []
def lA (ag sizes places ae:Lz) (e:List T) (i j:Nat):Lz:=(List.range j).map fun k=>Io ag sizes places e i k (nL 0 (kL ae k))
def iW (ag sizes places ae plies:Lz) (i:Nat):Lz:=(List.range i).flatMap fun a=>lA ag sizes places ae (kL plies a) a ae.length
def GJ (ag ae:Lz) (e:List T) (k:Nat):Prop:=vJ (nI 0 e) (nL 1 e) ag (nL 0 (kL ae k))
structure Lk (pe:Int) (ln wd:Int) (ae ag aQ plies:Lz):Prop where
 pe:pe=0
 sp:S0 ln wd ae ag aQ plies
 ht: ∀a k,a < plies.length→k < ae.length→GJ ag ae (kL plies a) k
def GPs (pe sk:Int) (ag sizes places ae plies:Lz) (p:Prop) (ts:List W):Prop:= ∃dr e,ts=[oL 6 dr,oI e]∧(e=0↔p)∧(e=0→dr=iW ag sizes places ae plies plies.length)∧(¬e=0→dr=[])∧(¬pe=0→e=pe)∧(pe=0→¬sk=0→e=sk)
def RPa (row:List T) (ag sizes places ae plies:Lz) (m:Nat) (vs:List V) (xss:List (Lz)):Prop:= ∃ (i:Nat) (zs:Lz),i≤plies.length∧m=plies.length - i∧vs=[bD 8 6 zs.length,iV .i64 (i:Int)]∧xss=[[row],zs]∧zs=iW ag sizes places ae plies i∧ ∀a k,a < i→k < ae.length→GJ ag ae (kL plies a) k
def RPb (row:List T) (ag sizes places ae plies:Lz) (i:Nat) (m:Nat) (vs:List V) (xss:List (Lz)):Prop:= ∃ (j:Nat) (zs:Lz),j≤ae.length∧m=ae.length - j∧vs=[bD 8 6 zs.length,iV .i64 (j:Int)]∧xss=[[row],zs]∧zs=iW ag sizes places ae plies i++lA ag sizes places ae (kL plies i) i j∧ ∀k,k < j→GJ ag ae (kL plies i) k
theorem ox (ag sizes places ae plies:Lz) (i:Nat):iW ag sizes places ae plies (i+1)=iW ag sizes places ae plies i++lA ag sizes places ae (kL plies i) i ae.length:=by
 simp[iW,List.range_succ]
theorem Ej (ag sizes places ae:Lz) (e:List T) (i j:Nat):lA ag sizes places ae e i (j+1)=lA ag sizes places ae e i j++[Io ag sizes places e i j (nL 0 (kL ae j))]:=by
 simp[lA,List.range_succ]
theorem ow (ag sizes places ae plies:Lz) (i:Nat):(iW ag sizes places ae plies i).length=i * ae.length:=by
 induction i with
 |zero=>simp[iW]
 |succ i ih=>rw[ox,List.length_append,ih,Nat.add_mul];simp[lA]
theorem Mw {ag sizes places ae plies zs:Lz} {i j:Nat} (hz:zs=iW ag sizes places ae plies i++lA ag sizes places ae (kL plies i) i j) (hi:i < plies.length) (hl:plies.length≤40) (jo:ae.length≤1000000) (hj:j≤ae.length):zs.length≤50000000:=by
 have h1:i * ae.length≤40 * 1000000:=Nat.mul_le_mul (by omega) jo
 have h2:zs.length=i * ae.length+j:=by rw[hz,List.length_append,ow];simp[lA]
 omega
theorem RPa.next {row:List T} {ag sizes places ae plies zs:Lz} {i j:Nat} (hi:(i:Int) < (plies.length:Int)) (hl:plies.length≤40) (hj:j≤ae.length) (hj2:ae.length≤j) (jo:ae.length≤1000000) (hz:zs=iW ag sizes places ae plies i++lA ag sizes places ae (kL plies i) i j) (h1: ∀a k,a < i→k < ae.length→GJ ag ae (kL plies a) k) (h2: ∀k,k < j→GJ ag ae (kL plies i) k):
 RPa row ag sizes places ae plies (plies.length - (i+1)) [bD 8 6 zs.length,iV .i64 (IntKind.i64.wrap ((i:Int)+1))] [[row],zs]:=by
 have e:j=ae.length:=by omega
 subst e
 refine⟨i+1,zs,by omega,rfl,by rw[bh (by omega) (by omega)];rfl,rfl,by rw[ox];exact hz,fun a k ha hk=>?_⟩
 by_cases hai:a=i
 · subst hai;exact h2 k hk
 · exact h1 a k (by omega) hk
theorem iG {xs:Lz} {i:Nat} {e:List T} (h:xs[i]? =some e):kL xs i=e:=by simp[kL,h]
theorem RPb.next {row:List T} {ag sizes places ae plies zs poly:Lz} {i j n:Nat} {p q l s dJ g sz:Int} {gr:List T} {x:T} {d:Bool} {ps:Lz} (hj:(j:Int) < (ae.length:Int)) (jo:ae.length≤1000000) (hz:zs=iW ag sizes places ae plies i++lA ag sizes places ae (kL plies i) i j) (h2: ∀k,k < j→GJ ag ae (kL plies i) k)
 (hy:plies[i]? =some [tI dJ, .aB 4 ps]) (zQ:ae[((j:Int)).toNat]? =some [.aB 2 poly]) (J2:places[((j:Int)).toNat]? =some (tI g::gr)) (hsz:sizes[g.toNat]? =some [tI sz]) (hh:vJ dJ ps ag poly) (hr:p=(i:Int)∧q=(j:Int)∧l=dJ∧s=sz∧x= .aB 1 [[tI (nI 0 (jF dJ ps poly))]]∧d=(Ib dJ ps ag poly).1) (hn:n=zs.length+1):
 RPb row ag sizes places ae plies i (ae.length - (j+1)) [bD 8 6 n,iV .i64 (IntKind.i64.wrap ((j:Int)+1))] [[row],zs++[[tI p,tI q,tI l,tI s,x,tB d]]]:=by
 have e1:kL plies i=[tI dJ, .aB 4 ps]:=iG hy
 have e2:kL ae j=[.aB 2 poly]:=iG (by simpa using zQ)
 have e3:pD places (j:Int)=tI g::gr:=kK J2
 have e4:pD sizes g=[tI sz]:=kK hsz
 obtain⟨rfl,rfl,rfl,rfl,rfl,rfl⟩:=hr
 refine⟨j+1,_,by omega,rfl,by subst hn;rw[bh (by omega) (by omega)];simp,rfl,?_,fun k hk=>?_⟩
 · rw[Ej,hz,List.append_assoc]
   congr 2
   simp only[Io,e1,e2,e3]
   show [[_,_,_,_,_,_]]=[[_,_,_,tI (nI 0 (pD sizes g)),_,_]]
   rw[e4]
   rfl
 · by_cases hkj:k=j
   · subst hkj
     unfold GJ
     rw[e1,e2]
     exact hh
   · exact h2 k (by omega)
theorem QO {pe ln wd:Int} {ae ag aQ plies:Lz} {i j:Nat} {dJ:Int} {ps poly:Lz} (hi:(i:Int) < (plies.length:Int)) (hj:(j:Int) < (ae.length:Int)) (hy:plies[i]? =some [tI dJ, .aB 4 ps]) (zQ:ae[((j:Int)).toNat]? =some [.aB 2 poly]) (h:¬vJ dJ ps ag poly):¬Lk pe ln wd ae ag aQ plies:=fun hh=>by
 have h1:=hh.ht i j (by omega) (by omega)
 unfold GJ at h1
 rw[iG hy,iG (show ae[j]? =some [.aB 2 poly] by simpa using zQ)]at h1
 exact h h1
theorem Jr {plies:Lz} (hy:tS plies) {i:Nat} (hi:(i:Int) < (plies.length:Int)): ∃dJ ps,plies[i]? =some [tI dJ, .aB 4 ps]∧Ao ps:=by
 have hlt:i < plies.length:=by omega
 obtain⟨dJ,ps,h1,h2⟩:=hy _ (List.getElem_mem hlt)
 exact⟨dJ,ps,by rw[←h1];simp[hlt],h2⟩
theorem Cr {places sizes:Lz} (hp:PS places) (hz:Is sizes) (hg:GK sizes.length places) {j:Nat} (hj:(j:Int) < (places.length:Int)): ∃g u k f q x y sz,places[((j:Int)).toNat]? =some [tI g,tI u,tI k,tB f,tI q,tI x,tI y]∧0≤g∧sizes[g.toNat]? =some [tI sz]:=by
 have hlt:j < places.length:=by omega
 obtain⟨g,u,k,f,q,x,y,h1⟩:=hp _ (List.getElem_mem hlt)
 have hs:places[j]? =some [tI g,tI u,tI k,tB f,tI q,tI x,tI y]:=by rw[←h1];simp[hlt]
 obtain⟨h2,h3⟩:=Kg hg hs
 have RS:g.toNat < sizes.length:=by omega
 obtain⟨sz,h4⟩:=hz _ (List.getElem_mem RS)
 exact⟨g,u,k,f,q,x,y,sz,by simpa using hs,h2,by rw[←h4];simp[RS]⟩
theorem xI (sn:ByteArray) (bK ms ps us ss os:Lz) (hS:jy sn bK ms ps us ss os) (ln wd rx ry:Int) (sizes places plies ag aQ:Lz) (hz:Is sizes) (jn:sizes.length≤maxLen) (jo:PS places) (TI:places.length≤1000000) (hR:Fh ag) (B2:ag.length≤6) (hlo:Is aQ) (hy:tS plies) (j8:plies.length≤1000000) (hB: ∀e,e∈plies→(nL 1 e).length≤1000) (ae:Lz) (pe:Int) (TH:Te 15 [mA sn bK ms ps us ss os,Mx ln wd rx ry sizes places] [oL 1 ae,oI pe]) (HZ:pe=0→DP sizes places bK.length ae):Tg 22 [mA sn bK ms ps us ss os,o8 ln wd rx ry sizes places plies,oL 7 ag,oL 1 aQ] (GPs pe (V3 ln wd rx ry sizes places plies ae ag aQ) ag sizes places ae plies (Lk pe ln wd ae ag aQ plies)):=by
 refine aJ ?_
 refine ah Tryz.func22 ?_
 repeat' (conv=>whnf
          first
  |(refine au (fun h=>?_) (fun h=>?_))
  |(refine ca (fun h=>?_) (fun h=>?_))
  |(have h7:=(HZ (by assumption)).2.1;refine aq (xs:=ae) (HZ (by assumption)).1 (by omega) (by omega) ?_;rintro _ ⟨poly,rfl,Rz,Ry⟩ zQ;obtain⟨dJ,pp,HJ,hpq⟩:=Jr hy (i:=i) (by omega);have afH:pp.length≤maxLen:=(by have h3:pp.length≤1000:=hB _ (List.mem_of_getElem? HJ);simp only[maxLen];omega);obtain⟨g,u,k,f,q,x,y,sz,J2,B1,hsz⟩:=Cr jo hz (HZ (by assumption)).2.2.1 (j:=j) (by omega))
  |(have h7:=(HZ (by assumption)).2.1;have h8:=(hn.1 (by assumption)).n;have h9:=Mw Rk (plies:=plies) (by omega) h8 (by omega) hj;refine And.intro ⟨by simp[tr],by simp[tr,aW];omega,by simp[tr,maxLen];omega⟩ ?_)
  |(refine ai rfl (TH) ?_;rintro _ rfl)
  |(refine ai rfl (pJ ln wd rx ry sizes places plies ae ag aQ (HZ (by assumption)).1 hR B2 hlo hy j8 hB) ?_;rintro _ ⟨rfl,hn⟩)
  |(refine ai rfl (vE ln wd rx ry sizes places plies ag poly hR Rz Ry (i:Int) (j:Int) dJ g u k q x y sz f pp hpq afH (by omega) (by simpa using HJ) (by omega) J2 B1 hsz) ?_;rintro _ ⟨p1,q1,l1,s1,x1,d1,e1,rfl,MU,RR⟩)
  |exact dg rfl (bR 6 rfl) (bS rfl) ⟨_,_,rfl,iff_of_false (by assumption) (fun hh=>absurd hh.pe (by assumption)),fun h0=>absurd h0 (by assumption),fun _=>rfl,fun _=>rfl,fun h=>absurd h (by assumption)⟩
  |exact dg rfl (bR 6 rfl) (bS rfl) ⟨_,_,rfl,iff_of_false (by assumption) (fun hh=>absurd (hn.2 hh.sp) (by assumption)),fun h0=>absurd h0 (by assumption),fun _=>rfl,fun h=>absurd (by assumption) h,fun _ _=>rfl⟩
  |exact dg rfl (bR 6 rfl) (bS rfl) ⟨_,_,rfl,iff_of_false (by assumption) (QO (i:=i) (j:=j) (by omega) (by omega) HJ zQ (fun hh=>absurd (MU.2 hh) (by assumption))),fun h0=>absurd h0 (by assumption),fun _=>rfl,fun h=>absurd (by assumption) h,fun _ h=>absurd (by assumption) h⟩
  |exact dg rfl (fz rfl rfl (xs:=zs) rfl (by omega)) (bS rfl) ⟨_,_,rfl,iff_of_true rfl ⟨by assumption,hn.1 (by assumption),fun a k ha hk=>hha a k (by omega) hk⟩,fun _=>by rw[fG rfl,hzs,show plies.length=i by omega],fun h=>absurd rfl h,fun h=>absurd (by assumption) h,fun _ h=>absurd (by assumption) h⟩
  |(apply bp [2,5,10,13,14,39,40,43,44,45] [] [13,45] [(4,7),(8,6)] (RPb (Hy ln wd rx ry sizes places plies) ag sizes places ae plies i) (ae.length) [bD 8 6 zs.length,iV .i64 0];(conv=>whnf);exact⟨rfl,rfl,rfl,rfl⟩;exact rfl;exact rfl;exact .cons (az.av (xs:=[Hy ln wd rx ry sizes places plies]) rfl _) (.cons (az.av (xs:=zs) rfl _) .nil);exact⟨0,zs,by omega,rfl,rfl,rfl,by simpa[lA]using hzs,fun k hk=>by omega⟩;rintro _ _ _ ⟨j,Ob,hj,rfl,rfl,rfl,Rk,hhb⟩)
  |(refine ak [2,5,10,13,14,39,40,43,44,45] [] ?_;(conv=>whnf);exact⟨rfl,_,[_,_],_, .cons (az.av (xs:=[Hy ln wd rx ry sizes places plies]) rfl _) (.cons (az.av (az.snoc (xs:=Ob) rfl [tI _,tI _,tI _,tI _,_,tB _]) _) .nil),RPb.next (by omega) (by have:=(HZ (by assumption)).2.1;omega) Rk hhb HJ zQ J2 hsz (MU.1 (by assumption)) (RR (by assumption)) (by simp[tr]),rfl,rfl,by omega⟩)
  |(apply dQ [2,5,10,13,39,40] [] [13,40] [(4,7),(8,6)] (RPa (Hy ln wd rx ry sizes places plies) ag sizes places ae plies) (plies.length) [bD 8 6 0,iV .i64 0] (dK.jq 13 6 rfl);(conv=>whnf);exact⟨rfl,rfl,rfl,rfl⟩;exact rfl;exact rfl;exact .cons (az.av (xs:=[Hy ln wd rx ry sizes places plies]) rfl _) (.cons (az.av az.nil _) .nil);exact⟨0,[],by omega,rfl,rfl,rfl,rfl,fun a k ha=>by omega⟩;rintro _ _ _ ⟨i,zs,hi,rfl,rfl,rfl,hzs,hha⟩)
  |(refine ak [2,5,10,13,39,40] [] ?_;(conv=>whnf);exact⟨rfl,_,[_,_],_, .cons (az.av (xs:=[Hy ln wd rx ry sizes places plies]) rfl _) (.cons (az.av (xs:=Ob) rfl _) .nil),RPa.next (by omega) (hn.1 (by assumption)).n hj (by omega) (by have:=(HZ (by assumption)).2.1;omega) Rk hha hhb,rfl,rfl,by omega⟩))
 all_goals (conv=>whnf)
end Go.aT.Cd
end
section
namespace Go.aT.Cd
open Go Go.Proofs
set_option maxRecDepth 100000
set_option maxHeartbeats 1000000
def ZZ (lay:List T) (N:Nat) (m:Nat) (vs:List V) (xss:List (Lz)):Prop:= ∃i:Nat,i≤N∧m=N - i∧vs=[iV .i64 (i:Int)]∧xss=[[lay]]
theorem ZZ.next {lay:List T} {N i:Nat} (hi:(i:Int) < (N:Int)) (hl:N≤maxLen):ZZ lay N (N - (i+1)) [iV .i64 (IntKind.i64.wrap ((i:Int)+1))] [[lay]]:=
 ⟨i+1,by omega,rfl,by simp only[maxLen]at hl;rw[bh (by omega) (by omega)];rfl,rfl⟩
theorem P4 {xs:Lz} {e:List T} {n:Int} {K:List T→Prop} (h:xs[n.toNat]? =some e) (h0:0≤n) (hk:K e):0≤n∧ ∃e,xs[n.toNat]? =some e∧K e:=⟨h0,e,h,hk⟩
def TZ (row:List T) (N:Nat) (m:Nat) (vs:List V) (xss:List (Lz)):Prop:= ∃ (i:Nat) (s:Int),i≤N∧m=N - i∧vs=[iV .i64 s,iV .i64 (i:Int)]∧xss=[[row]]
theorem TZ.next {row:List T} {N i:Nat} {s:Int} (hi:(i:Int) < (N:Int)) (hl:N≤maxLen):TZ row N (N - (i+1)) [iV .i64 s,iV .i64 (IntKind.i64.wrap ((i:Int)+1))] [[row]]:=
 ⟨i+1,s,by omega,rfl,by simp only[maxLen]at hl;rw[bh (by omega) (by omega)];rfl,rfl⟩
theorem qH (sn:ByteArray) (bK ms ps us ss os:Lz) (hS:jy sn bK ms ps us ss os) (g:Int):Tg 37 [mA sn bK ms ps us ss os,oI g] GB:=by
 have jo:=hS.jo
 have LI:=hS.LI
 refine ah Tryz.func37 ?_
 repeat' (conv=>whnf
          first
  |(refine au (fun h=>?_) (fun h=>?_))
  |(refine P4 hs (by omega) ?_)
  |(refine aq (xs:=es) j9 (by omega) (by omega) ?_;rintro _ ⟨ed,ln,rfl,hed,XC,axI⟩ bW)
  |(refine aq (xs:=us) hS.gO (by omega) (by omega) ?_;rintro _ ⟨a,b,c,rfl⟩ CU)
  |(refine aq (xs:=ps) hS.hps (by omega) (by omega) ?_;rintro _ ⟨nm,es,g2,ns,cs,ws,mt,rfl,hnm,⟨j9,hem⟩,⟨hn,hnl⟩,⟨hcs,axY⟩,hw,yg⟩ hs)
  |exact gB rfl rfl
  |(apply bp [1,2,8,9] [] [8,9] [(4,7)] (TZ (qm sn bK ms ps us ss os) us.length) (us.length) [iV .i64 0,iV .i64 0];(conv=>whnf);exact⟨rfl,rfl,rfl,rfl⟩;exact rfl;exact rfl;exact .cons (az.av (xs:=[qm sn bK ms ps us ss os]) rfl _) .nil;exact⟨0,0,by omega,rfl,rfl,rfl⟩;rintro _ _ _ ⟨k,sm,hk,rfl,rfl,rfl⟩)
  |(refine ak [1,2,8,9] [] ?_;(conv=>whnf);exact⟨rfl,_,[_,_],_, .cons (az.av (xs:=[qm sn bK ms ps us ss os]) rfl _) .nil,TZ.next (by omega) LI,rfl,rfl,by omega⟩)
  |(apply bp [1,2,5,6,7] [] [6,7] [(4,7)] (TZ (qm sn bK ms ps us ss os) 17) (17) [iV .i64 0,iV .i64 0];(conv=>whnf);exact⟨rfl,rfl,rfl,rfl⟩;exact rfl;exact rfl;exact .cons (az.av (xs:=[qm sn bK ms ps us ss os]) rfl _) .nil;exact⟨0,0,by omega,rfl,rfl,rfl⟩;rintro _ _ _ ⟨j,sm,hj,rfl,rfl,rfl⟩)
  |(refine ak [1,2,5,6,7] [] ?_;(conv=>whnf);exact⟨rfl,_,[_,_],_, .cons (az.av (xs:=[qm sn bK ms ps us ss os]) rfl _) .nil,TZ.next (by omega) (by decide),rfl,rfl,by omega⟩)
  |(apply bp [1,2,5] [] [5] [(4,7)] (ZZ (qm sn bK ms ps us ss os) ps.length) (ps.length) [iV .i64 0];(conv=>whnf);exact⟨rfl,rfl,rfl,rfl⟩;exact rfl;exact rfl;exact .cons (az.av (xs:=[qm sn bK ms ps us ss os]) rfl _) .nil;exact⟨0,by omega,rfl,rfl,rfl⟩;rintro _ _ _ ⟨i,hi,rfl,rfl,rfl⟩)
  |(refine ak [1,2,5] [] ?_;(conv=>whnf);exact⟨rfl,_,[_],_, .cons (az.av (xs:=[qm sn bK ms ps us ss os]) rfl _) .nil,ZZ.next (by omega) jo,rfl,rfl,by omega⟩))
 all_goals (conv=>whnf)
end Go.aT.Cd
end
section
namespace Go.aT.Cd
open Go Go.Proofs
set_option maxRecDepth 100000
set_option maxHeartbeats 1000000
variable [Aq]
def Pq6 (e:List T):Prop:=(nL 1 e).length≤6
structure FwS (np nr:Nat) (plies:Lz):Prop where
 p:np≤12
 r:nr≤6
 q: ∀e,e∈plies→Pq6 e
theorem tt (plies ag:Lz) (hy:tS plies) (j8:plies.length≤maxLen) (hR:Fh ag) (B2:ag.length≤maxLen):Tg 47 [oL 2 plies,oL 7 ag, .one (.t iK)] (Uf (FwS plies.length ag.length plies)):=by
 refine ah Tryz.func47 ?_
 repeat' (conv=>whnf
          first
  |(refine au (fun h=>?_) (fun h=>?_))
  |(refine aq (xs:=plies) hy (by omega) (by omega) ?_;rintro _ ⟨l,q,rfl,hq⟩ hs)
  |(refine aq (xs:=ag) hR (by omega) (by omega) ?_;rintro _ ⟨id,w1,l1,a2,b2,c2,fl,rfl,bN,hfl,HU⟩ tc)
  |exact O1 rfl rfl (fun hb=>absurd hb (by decide))
  |exact O1 rfl rfl (fun _=>⟨by omega,by omega,hp.all (by omega)⟩)
  |(apply aM [2,9] [] [9] (RI 0) (0) [iV .i64 0];(conv=>whnf);exact⟨rfl,rfl,rfl,rfl⟩;exact rfl;exact rfl;exact RI.zero;rintro _ _ ⟨i3,hi3,rfl,rfl⟩)
  |(apply aM [1,2,8] [] [8] (RI ag.length) (ag.length) [iV .i64 0];(conv=>whnf);exact⟨rfl,rfl,rfl,rfl⟩;exact rfl;exact rfl;exact RI.zero;rintro _ _ ⟨i2,hi2,rfl,rfl⟩)
  |(refine ak [1,2,8] [] ?_;(conv=>whnf);exact⟨rfl,_,[_],RI.succ (N:=ag.length) (i:=i2) (by omega) B2,rfl,rfl,rfl,by omega⟩)
  |(apply aM [0,1,2,7] [] [7] (RQ Pq6 plies) (plies.length) [iV .i64 0];(conv=>whnf);exact⟨rfl,rfl,rfl,rfl⟩;exact rfl;exact rfl;exact RQ.zero;rintro _ _ ⟨i,hi,hp,rfl,rfl⟩)
  |(refine ak [0,1,2,7] [] ?_;(conv=>whnf);exact⟨rfl,_,[_],RQ.next (by omega) j8 hp hs (show q.length≤6 by omega),rfl,rfl,rfl,by omega⟩))
 all_goals (conv=>whnf)
structure Ug (sizes places plies ag aQ:Lz):Prop where
 q:places.length≤20
 l:aQ.length≤12
 f:FwS plies.length ag.length plies
theorem tj (sn:ByteArray) (bK ms ps us ss os:Lz) (hS:jy sn bK ms ps us ss os) (ln wd rx ry:Int) (sizes places plies ag aQ:Lz) (hy:tS plies) (j8:plies.length≤maxLen) (hR:Fh ag) (B2:ag.length≤maxLen):Tg 26 [mA sn bK ms ps us ss os,o8 ln wd rx ry sizes places plies,oL 7 ag,oL 1 aQ] (Uf (Ug sizes places plies ag aQ)):=by
 refine ah Tryz.func26 ?_
 repeat' (conv=>whnf
          first
  |(refine au (fun h=>?_) (fun h=>?_))
  |(refine aF (fun h=>?_) (fun h=>?_))
  |(refine ai rfl (qH sn bK ms ps us ss os hS _) ?_;rintro _ ⟨b1,rfl⟩)
  |(refine ai rfl (tt plies ag hy j8 hR B2) ?_;rintro _ ⟨b2,rfl,nj⟩)
  |exact O1 rfl rfl (fun hb=>absurd hb (by decide))
  |exact O1 rfl rfl (fun hb=>⟨by omega,by omega,nj hb⟩))
 all_goals (conv=>whnf)
abbrev Wt (sn:ByteArray) (bK ms ps us ss os:Lz) (ln wd rx ry:Int) (sizes places plies ag aQ:Lz):W:=
 .agg [.t (.val (.string sn)), .t (.aB 1 bK), .t (.aB 1 ms), .t (.aB 7 ps), .t (.aB 3 us), .t (.aB 6 ss), .t (.aB 5 os), .t (tI ln), .t (tI wd), .t (tI rx), .t (tI ry), .t (.aB 1 sizes), .t (.aB 7 places), .t (.aB 2 plies), .t (.aB 7 ag), .t (.aB 1 aQ)]
abbrev ZL (sn:ByteArray) (bK ms ps us ss os:Lz) (ln wd rx ry:Int) (sizes places plies ag aQ:Lz):List T:=
 [.val (.string sn), .aB 1 bK, .aB 1 ms, .aB 7 ps, .aB 3 us, .aB 6 ss, .aB 5 os,tI ln,tI wd,tI rx,tI ry, .aB 1 sizes, .aB 7 places, .aB 2 plies, .aB 7 ag, .aB 1 aQ]
theorem tu (sn:ByteArray) (bK ms ps us ss os:Lz) (hS:jy sn bK ms ps us ss os) (ln wd rx ry:Int) (sizes places plies ag aQ:Lz) (hy:tS plies) (j8:plies.length≤maxLen) (hR:Fh ag) (B2:ag.length≤maxLen):Tg 8 [Wt sn bK ms ps us ss os ln wd rx ry sizes places plies ag aQ] (Uf (Ug sizes places plies ag aQ)):=by
 refine ah Tryz.func8 ?_
 repeat' (conv=>whnf
          first
  |(refine ai rfl (tj sn bK ms ps us ss os hS ln wd rx ry sizes places plies ag aQ hy j8 hR B2) ?_;rintro _ ⟨b2,rfl,nj⟩)
  |exact O1 rfl rfl nj)
 all_goals (conv=>whnf)
structure Lr (sn:ByteArray) (bK ms ps us ss os sizes places plies ag aQ:Lz):Prop where
 sty:jy sn bK ms ps us ss os
 hz:Is sizes
 jn:sizes.length≤maxLen
 hp:PS places
 jo:places.length≤maxLen
 hy:tS plies
 j8:plies.length≤maxLen
 hR:Fh ag
 B2:ag.length≤maxLen
 hlo:Is aQ
theorem pu (sn:ByteArray) (bK ms ps us ss os:Lz) (ln wd rx ry:Int) (sizes places plies ag aQ:Lz) (hC:Lr sn bK ms ps us ss os sizes places plies ag aQ) (hF:Ug sizes places plies ag aQ) (ae:Lz) (pe:Int) (TH:Te 15 [mA sn bK ms ps us ss os,Mx ln wd rx ry sizes places] [oL 1 ae,oI pe]) (HZ:pe=0→DP sizes places bK.length ae):Tg 10 [Wt sn bK ms ps us ss os ln wd rx ry sizes places plies ag aQ] (GPs pe (V3 ln wd rx ry sizes places plies ae ag aQ) ag sizes places ae plies (Lk pe ln wd ae ag aQ plies)):=by
 refine aJ ?_
 refine ah Tryz.func10 ?_
 repeat' (conv=>whnf
          first
  |(refine ai rfl (xI sn bK ms ps us ss os hC.sty ln wd rx ry sizes places plies ag aQ hC.hz hC.jn hC.hp (by have:=hF.q;omega) hC.hR hF.f.r hC.hlo hC.hy (by have:=hF.f.p;omega) (fun e he=>by have h3:(nL 1 e).length≤6:=hF.f.q e he;omega) ae pe TH HZ) ?_;rintro _ ⟨dr,e,rfl,h1,h2,h3,h4,h5⟩)
  |exact dg rfl (bS rfl) (bS rfl) ⟨_,_,rfl,h1,h2,h3,h4,h5⟩)
 all_goals (conv=>whnf)
def LQ (size:Int) (c:List T):Bool:=decide (nI 3 c=size)&& !nB 5 c
def RCt (size:Int) (dr:Lz) (m:Nat) (vs:List V):Prop:= ∃ (i:Nat) (n:Int),i≤dr.length∧m=dr.length - i∧vs=[iV .i64 n,iV .i64 (i:Int)]∧n=((dr.take i).countP (LQ size):Int)
theorem Ds {size:Int} {dr:Lz} {i:Nat} {e:List T} (hs:dr[((i:Int)).toNat]? =some e):(dr.take (i+1)).countP (LQ size)=(dr.take i).countP (LQ size)+if LQ size e=true then 1 else 0:=by
 have hs':dr[i]? =some e:=by simpa using hs
 rw[List.take_add_one,hs',List.countP_append]
 simp[List.countP_cons]
theorem RCt.hit {size p q l s:Int} {x:T} {d:Bool} {dr:Lz} {i:Nat} {n:Int} (hi:(i:Int) < (dr.length:Int)) (hl:dr.length≤1000000) (hn:n=((dr.take i).countP (LQ size):Int)) (hs:dr[((i:Int)).toNat]? =some [tI p,tI q,tI l,tI s,x,tB d]) (h1:s=size) (h2:(!d)=true):RCt size dr (dr.length - (i+1)) [iV .i64 (IntKind.i64.wrap (n+1)),iV .i64 (IntKind.i64.wrap ((i:Int)+1))]:=by
 have hb:(dr.take i).countP (LQ size)≤i:=Nat.le_trans List.countP_le_length (by rw[List.length_take];omega)
 refine⟨i+1,n+1,by omega,rfl,by rw[bh (by omega) (by omega),bh (by omega) (by omega)];rfl,?_⟩
 rw[Ds hs,if_pos (by subst h1;simp[LQ,nI,nB];simpa using h2),hn]
 rfl
theorem RCt.fM {size p q l s:Int} {x:T} {d:Bool} {dr:Lz} {i:Nat} {n:Int} (hi:(i:Int) < (dr.length:Int)) (hl:dr.length≤1000000) (hn:n=((dr.take i).countP (LQ size):Int)) (hs:dr[((i:Int)).toNat]? =some [tI p,tI q,tI l,tI s,x,tB d]) (h:s≠size∨(!d)=false):RCt size dr (dr.length - (i+1)) [iV .i64 n,iV .i64 (IntKind.i64.wrap ((i:Int)+1))]:=by
 refine⟨i+1,n,by omega,rfl,by rw[bh (by omega) (by omega)];rfl,?_⟩
 rw[Ds hs,if_neg (by
  rcases h with h|h
  · simp[LQ,nI,h]
  · simp[LQ,nI,nB];intro _;simpa using h),hn]
 rfl
end Go.aT.Cd
end
section
namespace Go.aT.Cd
open Go Go.Proofs
set_option maxRecDepth 100000
set_option maxHeartbeats 1000000
variable [Aq]
theorem MD {c p:Nat} (hc:c≤20) (hp:p≤12):IntKind.i64.wrap ((c:Int) * (p:Int))=((p * c:Nat):Int):=by
 have h:p * c≤12 * 20:=Nat.mul_le_mul hp hc
 rw[←Int.natCast_mul,Nat.mul_comm]
 generalize p * c=q at h⊢
 exact bh (by omega) (by omega)
end Go.aT.Cd
end
section
namespace Go.aT.Cd
open Go Go.Proofs
set_option maxRecDepth 100000
variable [Aq]
theorem Yb {ln wd:Int} {ae ag aQ:Lz} (hp:pF ae) (h:ClF ln wd ae ag aQ):Lp ln ae:=by
 obtain⟨_,_,_,_,h1⟩:=qX ln ae hp 0
 exact(h1 h.back).1
theorem Ge {oh:Int→Int→Int→Int→Bool×Int} {d:Int} (h: ∀x y w z,(oh x y w z).2=0): ∀fl,(yj oh d fl).2=0
 | []=>rfl
 |f::r=>by
  unfold yj
  rw[if_neg (fun hh=>hh (h _ _ _ _))]
  split
  · rfl
  · exact Ge h r
theorem DB {poly:Lz} (hx:bG poly) (hl:poly.length≤1000000) (h:KR poly=0):iO poly∧0≤Af poly:=by
 obtain⟨_,_,_,_,h1,h2⟩:=rj poly hx hl
 exact⟨h1.1 h,(h2 h).2.1⟩
theorem SI {ln wd dJ:Int} {ae ag aQ ps poly:Lz} (hp:pF ae) (hR:S2 ag aQ) (hE:Lp ln ae) (hq:Ao ps) (hP:yc ln wd ae ag aQ dJ ps) (hm: [T.aB 2 poly]∈ae) (hx:bG poly) (hl:poly.length≤1000000):
 ∃p,p∈ps∧Lw p (tL poly) (Af poly):=by
 have hb:N7 ln [T.aB 2 poly]:=hE.2 _ hm
 have b1:KR poly=0:=hb.1
 have b2:0≤tL poly:=hb.2.1
 have b3:tL poly+Af poly≤ln:=hb.2.2
 have b4:=(DB hx hl b1).2
 have XC:=hE.1
 have hn:=hP.ne
 have key: ∀n:Nat,(∃p,ps[n]? =some p∧tL poly+Af poly≤rR p)→ ∃i p,ps[i]? =some p∧tL poly+Af poly≤rR p∧(0 < i→¬tL poly+Af poly≤rR ((ps[i - 1]?).getD [])):=by
  intro n
  induction n with
  |zero=>
   rintro⟨p,h1,h2⟩
   exact⟨0,p,h1,h2,fun h=>by omega⟩
  |succ n ih=>
   rintro⟨p,h1,h2⟩
   by_cases hc:tL poly+Af poly≤rR ((ps[n]?).getD [])
   · have hlt:n < ps.length:=by have:=(List.getElem?_eq_some_iff.1 h1).1;omega
     exact ih ⟨ps[n],by simp[hlt],by simpa[hlt]using hc⟩
   · exact⟨n+1,p,h1,h2,fun _=>hc⟩
 have hlt:ps.length - 1 < ps.length:=by omega
 obtain⟨i,p,h1,h2,h3⟩:=key (ps.length - 1) ⟨ps[ps.length - 1],by simp[hlt],by
  have h9:=hP.en
  rw[List.getElem?_eq_getElem hlt]at h9
  have h9:rR ps[ps.length - 1]=ln:=h9
  omega⟩
 obtain⟨⟨c1,c2,c3,c4⟩,j0,j1⟩:=hP.all i p h1
 have hr:nI 2 (pD ag (nI 0 p))≤1048576:=by
  have hlt:(nI 0 p).toNat < ag.length:=by have:=c1.1;omega
  obtain⟨id,w,l,a,b,c,fl,he,hk⟩:=hR.all _ (List.getElem_mem hlt)
  have e:pD ag (nI 0 p)=[.val (.string id),tI w,tI l,tI a,tI b,tI c, .aB 4 fl]:=by rw[←he];simp[pD,hlt]
  rw[e]
  exact hk.rl.2
 obtain⟨c0,c5,c6,c7⟩:=c1
 refine⟨p,List.mem_of_getElem? h1,⟨⟨by omega,by omega⟩,⟨by omega,by omega⟩,⟨by omega,by omega⟩⟩,?_,?_⟩
 · by_cases hi:i=0
   · have:=j0 hi
     omega
   · have hi':0 < i:=by omega
     have hlt:i - 1 < ps.length:=by have:=(List.getElem?_eq_some_iff.1 h1).1;omega
     have h4:=j1 hi'
     have h5:=h3 hi'
     obtain⟨r1,f1,t1,a1,hq1⟩:=hq _ (List.getElem_mem hlt)
     obtain⟨r2,f2,t2,a2,rfl⟩:=hq _ (List.mem_of_getElem? h1)
     have e:(ps[i - 1]?).getD []=[tI r1,tI f1,tI t1,tI a1]:=by rw[←hq1];simp[hlt]
     rw[e]at h4 h5
     obtain⟨_,_,_,_,h6⟩:=pI ln ae hp r1 f1 t1 a1 r2 f2 t2 a2
     have h7:=h6 h4 _ hm
     have h7:tL poly+Af poly > rR [tI r1,tI f1,tI t1,tI a1]→a2≤tL poly:=h7
     exact h7 (by omega)
 · rw[bh (by omega) (by omega)]
   exact h2
theorem Rp {ln wd:Int} {ae ag aQ plies:Lz} (hp:pF ae) (hy:tS plies) (hB: ∀e,e∈plies→(nL 1 e).length≤maxLen) (h:S0 ln wd ae ag aQ plies):
 ∀a k,a < plies.length→k < ae.length→GJ ag ae (kL plies a) k∧nI 0 (pD aQ (nI 0 (jF (nI 0 (kL plies a)) (nL 1 (kL plies a)) (nL 0 (kL ae k)))))=nI 0 (kL plies a):=by
 intro a k ha hk
 obtain⟨poly,zQ,hx,hl⟩:=hp _ (List.getElem_mem hk)
 obtain⟨dJ,ps,jo,hq⟩:=hy _ (List.getElem_mem ha)
 have e1:kL plies a=[tI dJ, .aB 4 ps]:=by rw[←jo];simp[kL,ha]
 have e2:kL ae k=[.aB 2 poly]:=by rw[←zQ];simp[kL,hk]
 have hP:yc ln wd ae ag aQ dJ ps:=by
  have:=h.all _ (List.getElem_mem ha)
  rw[jo]at this
  exact this
 have hE:=Yb hp h.cl
 have hm: [T.aB 2 poly]∈ae:=by rw[←zQ];exact List.getElem_mem hk
 have hpq:ps.length≤maxLen:=by
  have:=hB _ (List.getElem_mem ha)
  rw[jo]at this
  exact this
 obtain⟨_,_,_,_,hc⟩:=fc dJ ps poly hq hpq hx hl
 have b1:KR poly=0:=(hE.2 _ hm).1
 obtain⟨p,hpm,hcp⟩:=SI hp h.cl.rs hE hq hP hm hx hl
 have SJ:(BR dJ ps poly).2=0:=Classical.byContradiction fun hn=>hc.2 b1 hn p hpm hcp
 have hi:=hc.1 SJ
 have hmem:ps[(BR dJ ps poly).1.toNat]? =some (jF dJ ps poly):=by
  have:(BR dJ ps poly).1.toNat < ps.length:=by omega
  simp[jF,pD,this]
 obtain⟨⟨⟨r1,_⟩,_,r3,_⟩,_⟩:=hP.all _ _ hmem
 have hlt:(nI 0 (jF dJ ps poly)).toNat < ag.length:=by omega
 have er:pD ag (nI 0 (jF dJ ps poly))=ag[(nI 0 (jF dJ ps poly)).toNat]:=by simp[pD,hlt]
 unfold GJ
 rw[e1,e2]
 refine⟨⟨SJ,r1,?_,?_⟩,r3⟩
 · show yY (pD ag (nI 0 (jF dJ ps poly)))
   rw[er]
   exact h.cl.rs.all _ (List.getElem_mem hlt)
 · exact Ge (fun x y w z=>by
    obtain⟨_,_,_,_,h1⟩:=pM poly hx hl x y w z
    exact h1 (DB hx hl b1).1) _
end Go.aT.Cd
end
section
namespace Go.aT
open Go
def YD (R:TypeId→List T→Prop):List Field→List T→Prop
 | [],ts=>ts=[]
 |f::fs,ts=> ∃a b,ts=a++b∧R f.type a∧YD R fs b
def TT (P:Program):Nat→TypeId→List T→Prop
 |0,_,_=>False
 |d+1,t,ts=>
  match P.underlying t with
  |some .bool=> ∃b,ts=[.val (.bool b)]
  |some (.int k)=> ∃n,ts=[.val (.int k n)]∧(Lit.int k n).wf=true
  |some .string=> ∃s,ts=[.val (.string s)]∧s.size≤maxLen
  |some (.slice e)=> ∃xs,ts=[.aB (P.cellsOf e) xs]∧xs.length≤maxLen∧ ∀x,x∈xs→TT P d e x
  |some (.struct fs)=>YD (TT P d) fs.toList ts
  |_=>False
def tW (P:Program):Nat→List Field→Option Nat
 |off,[]=>some off
 |off,f::r=>if f.offset=off then tW P (off+P.cellsOf f.type) r else none
def iF (P:Program):Nat→TypeId→Bool
 |0,_=>false
 |d+1,t=>
  match P.underlying t with
  |some .bool|some (.int _)|some .string=>P.cellsOf t==1
  |some (.slice e)=>P.cellsOf t==1&&decide (0 < P.cellsOf e)&&iF P d e
  |some (.struct fs)=>tW P 0 fs.toList==some (P.cellsOf t)&&fs.toList.all fun f=>iF P d f.type
  |_=>false
def PO (w:World) (ts:List T) (cs:List Value):Prop:=
 ts.length=cs.length∧ ∀ (i:Nat) (t:T) (x:Value),ts[i]? =some t→cs[i]? =some x→RT w (fun _=>False) t x
theorem PO.append {w:World} {a b:List T} {c d:List Value} (h:PO w a c) (k:PO w b d):PO w (a++b) (c++d):=by
 refine⟨by simp[h.1,k.1],fun i t x ht hx=>?_⟩
 by_cases hi:i < a.length
 · rw[List.getElem?_append_left hi]at ht
   rw[List.getElem?_append_left (by rw[←h.1];exact hi)]at hx
   exact h.2 i t x ht hx
 · rw[List.getElem?_append_right (by omega)]at ht
   rw[List.getElem?_append_right (by rw[←h.1];omega), ←h.1]at hx
   exact k.2 _ t x ht hx
theorem rA {α β:Type} {f:α→Option β}: ∀ {l:List α} {r:List β},l.mapM f=some r→r.length=l.length∧ ∀ (i:Nat) (x:α),l[i]? =some x→ ∃y,r[i]? =some y∧f x=some y
 | [],r,h=>by simp at h;subst h;simp
 |x::l,r,h=>by
  simp only[List.mapM_cons,Option.bind_eq_bind,Option.bind_eq_some_iff]at h
  obtain⟨y,hy,r',dB,h⟩:=h
  simp only[pure,Option.some.injEq]at h
  subst h
  obtain⟨h1,h2⟩:=rA dB
  refine⟨by simp[h1],fun i z hz=>?_⟩
  cases i with
  |zero=>simp only[List.getElem?_cons_zero,Option.some.injEq]at hz;subst hz;exact⟨y,rfl,hy⟩
  |succ i=>simpa using h2 i z (by simpa using hz)
theorem E7 {w:World} {b off n:Nat} {cs:List Value} (h:w.cells? 0 ⟨b,off,none⟩ n=some cs):cs.length=n∧ ∀ (j:Nat) (x:Value),cs[j]? =some x→w.cell? ⟨b,off+j,none⟩=some x:=by
 unfold World.cells? at h
 simp only[Nat.zero_le,if_true]at h
 obtain⟨h1,h2⟩:=rA h
 simp only[List.length_range]at h1
 refine⟨h1,fun j x hx=>?_⟩
 have hj:j < n:=by rw[←h1];exact(List.getElem?_eq_some_iff.1 hx).1
 obtain⟨y,hy,hc⟩:=h2 j j (by simp[hj])
 rw[hx]at hy
 simp only[Option.some.injEq]at hy
 subst hy
 simpa[Addr.add_lit]using hc
theorem GX {α:Type} (cs:List α) (off n:Nat):(cs.drop off).take n++cs.drop (off+n)=cs.drop off:=by
 rw[←List.drop_drop]
 exact List.take_append_drop n (cs.drop off)
theorem zn {H:Type} {enc:TypeId×Value→H} {P:Program} {w:World}: ∀ (d:Nat) (t:TypeId),iF P d t=true→ ∀ (fuel:Nat) (sp:Nat→Bool) (hd:Bool) (cs:List Value) (x:DataW H×List MemPlace),
 DataW.trod enc P w 0 sp hd fuel t cs=some x→cs.length=P.cellsOf t→ ∃ts,PO w ts cs∧TT P d t ts:=by
 intro d
 induction d with
 |zero=>intro t h;simp[iF]at h
 |succ d ih=>
  intro t hok fuel sp hd cs x h hlen
  cases fuel with
  |zero=>simp[DataW.trod]at h
  |succ fuel=>
   have one: ∀ {v:Value} {q:T},cs=[v]→RT w (fun _=>False) q v→PO w [q] cs:=by
    intro v q hcs hr
    subst hcs
    refine⟨rfl,fun i t x ht hx=>?_⟩
    cases i with
    |zero=>simp only[List.getElem?_cons_zero,Option.some.injEq]at ht hx;subst ht;subst hx;exact hr
    |succ i=>simp at ht
   unfold iF at hok
   unfold TT
   cases hu:P.underlying t with
   |none=>simp[hu]at hok
   |some dsc=>
    simp only[hu]at hok
    cases dsc with
    |bool=>
     simp only[beq_iff_eq]at hok
     rw[hok]at hlen
     obtain⟨v,rfl⟩:=List.length_eq_one_iff.1 hlen
     simp only[DataW.trod,hu]at h
     cases v<;>simp at h
     exact⟨_,one rfl (.val rfl),_,rfl⟩
    |int k=>
     simp only[beq_iff_eq]at hok
     rw[hok]at hlen
     obtain⟨v,rfl⟩:=List.length_eq_one_iff.1 hlen
     simp only[DataW.trod,hu]at h
     cases v<;>simp at h
     obtain⟨⟨rfl,hwf⟩,_⟩:=h
     exact⟨_,one rfl (.val rfl),_,rfl,hwf⟩
    |string=>
     simp only[beq_iff_eq]at hok
     rw[hok]at hlen
     obtain⟨v,rfl⟩:=List.length_eq_one_iff.1 hlen
     simp only[DataW.trod,hu]at h
     cases v<;>simp at h
     exact⟨_,one rfl (.val rfl),_,rfl,h.1⟩
    |slice e=>
     simp only[Bool.and_eq_true,beq_iff_eq,decide_eq_true_eq]at hok
     obtain⟨⟨hone,hpos⟩,hde⟩:=hok
     rw[hone]at hlen
     obtain⟨v,rfl⟩:=List.length_eq_one_iff.1 hlen
     cases v with
     |slice a len cap=>
      cases a with
      |none=>
       have h0:len=0∧cap=0:=by
        cases len<;>cases cap<;>simp[DataW.trod,hu]at h<;>simp
       obtain⟨rfl,rfl⟩:=h0
       exact⟨_,one rfl (.nil (sz:=P.cellsOf e)),[],rfl,by simp,by simp⟩
      |some a=>
       simp only[DataW.trod,hu]at h
       split at h
       · rename_i hc
         obtain⟨_,hlc,hcm⟩:=hc
         simp only[Option.bind_eq_some_iff]at h
         obtain⟨elems,hel,_⟩:=h
         obtain⟨k1,k2⟩:=rA hel
         simp only[List.length_range]at k1
         by_cases hz:len=0
         · subst hz
           exact⟨_,one rfl (.nil (sz:=P.cellsOf e)),[],rfl,by simp,by simp⟩
         ·
          have XM: ∀i,i < len→ ∃ci xi,w.cells? 0 (a.add (i * P.cellsOf e)) (P.cellsOf e)=some ci∧DataW.trod enc P w 0 sp hd fuel e ci=some xi:=by
           intro i hi
           obtain⟨y,_,hy⟩:=k2 i i (by simp[hi])
           simp only[Option.bind_eq_some_iff]at hy
           obtain⟨ci,h1,h2⟩:=hy
           exact⟨ci,y,h1,h2⟩
          have OO:a.spot=none:=by
           obtain⟨ci,_,h1,_⟩:=XM 0 (by omega)
           simp only[Nat.zero_mul,Addr.add_zero']at h1
           unfold World.cells? at h1
           simp only[Nat.zero_le,if_true]at h1
           obtain⟨_,q2⟩:=rA h1
           obtain⟨y,_,hy⟩:=q2 0 0 (by simp[hpos])
           simp only[Addr.add_zero']at hy
           unfold World.cell? at hy
           split at hy
           · split at hy
             · simp at hy
             · rename_i hs;simpa using hs
           · simp at hy
          obtain⟨b,off,spot⟩:=a
          simp only at OO
          subst OO
          have hch: ∀i, ∃ts:List T,i < len→ ∃ci,(ci.length=P.cellsOf e∧ ∀ (j:Nat) (x:Value),ci[j]? =some x→w.cell? ⟨b,off+i * P.cellsOf e+j,none⟩=some x)∧PO w ts ci∧TT P d e ts:=by
           intro i
           by_cases hi:i < len
           · obtain⟨ci,xi,h1,h2⟩:=XM i hi
             rw[Addr.add_lit]at h1
             have hg:=E7 h1
             obtain⟨ts,t1,t2⟩:=ih e hde fuel sp hd ci xi h2 hg.1
             exact⟨ts,fun _=>⟨ci,hg,t1,t2⟩⟩
           · exact⟨[],fun h=>absurd h hi⟩
          obtain⟨g,hg⟩:=Classical.axiomOfChoice hch
          have hxs: ∀ (i:Nat) (el:List T),((List.range len).map g)[i]? =some el→i < len∧el=g i:=by
           intro i el hel
           have hi:i < len:=by have:=(List.getElem?_eq_some_iff.1 hel).1;simpa using this
           simp[hi]at hel
           exact⟨hi,hel.symm⟩
          have hbs:b < w.heap.size:=by
           obtain⟨ci,⟨q1,q2⟩,_⟩:=hg 0 (by omega)
           have h0:0 < ci.length:=by rw[q1];exact hpos
           have:=q2 0 ci[0] (by simp[h0])
           rcases Nat.lt_or_ge b w.heap.size with hl|hl
           · exact hl
           · simp[World.cell?,Array.getElem?_eq_none hl]at this
          refine⟨_,one rfl (.aB (sz:=P.cellsOf e) (xs:=(List.range len).map g) (fun i j=>(w.cell? ⟨b,off+i * P.cellsOf e+j,none⟩).getD undef) (by simp) hlc hbs (fun h=>h) ?_ ?_ ?_),(List.range len).map g,rfl,by simp;omega,?_⟩
          · intro el hel
            simp only[List.mem_map,List.mem_range]at hel
            obtain⟨i,hi,rfl⟩:=hel
            obtain⟨ci,q1,q2,_⟩:=hg i hi
            rw[q2.1,q1.1]
          · intro i el j c hel hj
            obtain⟨hi,rfl⟩:=hxs i el hel
            obtain⟨ci,q1,q2,_⟩:=hg i hi
            have DT:j < ci.length:=by rw[←q2.1];exact(List.getElem?_eq_some_iff.1 hj).1
            rw[q1.2 j ci[j] (by simp[DT])];rfl
          · intro i el j c hel hj
            obtain⟨hi,rfl⟩:=hxs i el hel
            obtain⟨ci,q1,q2,_⟩:=hg i hi
            have DT:j < ci.length:=by rw[←q2.1];exact(List.getElem?_eq_some_iff.1 hj).1
            rw[q1.2 j ci[j] (by simp[DT])]
            exact q2.2 j c ci[j] hj (by simp[DT])
          · intro el hel
            simp only[List.mem_map,List.mem_range]at hel
            obtain⟨i,hi,rfl⟩:=hel
            exact(hg i hi).choose_spec.2.2
       · simp at h
     |_=>simp[DataW.trod,hu]at h
    |struct fs=>
     simp only[Bool.and_eq_true,beq_iff_eq,List.all_eq_true]at hok
     obtain⟨htl,hall⟩:=hok
     simp only[DataW.trod,hu]at h
     rw[if_pos hlen]at h
     simp only[Option.map_eq_some_iff]at h
     obtain⟨xs,hxs,_⟩:=h
     have go: ∀ (l:List Field) (off:Nat) (ys:List (DataW H×List MemPlace)),(∀f,f∈l→iF P d f.type=true)→tW P off l=some cs.length→off≤cs.length→
      l.mapM (fun f=>DataW.trod enc P w 0 sp hd fuel f.type ((cs.drop f.offset).take (P.cellsOf f.type)))=some ys→ ∃ts,PO w ts (cs.drop off)∧YD (TT P d) l ts:=by
      intro l
      induction l with
      |nil=>
       intro off ys _ ht afK _
       simp only[tW,Option.some.injEq]at ht
       subst ht
       exact⟨[],⟨by simp,by simp⟩,rfl⟩
      |cons f l ihl=>
       intro off ys hf ht afK hm
       simp only[tW]at ht
       split at ht
       · rename_i hfo
         simp only[List.mapM_cons,Option.bind_eq_bind,Option.bind_eq_some_iff]at hm
         obtain⟨y,hy,ys',aeC,_⟩:=hm
         have hend:off+P.cellsOf f.type≤cs.length:=by
          have mono: ∀ (l:List Field) (o e:Nat),tW P o l=some e→o≤e:=by
           intro l
           induction l with
           |nil=>intro o e h;simp only[tW,Option.some.injEq]at h;omega
           |cons f l ih=>intro o e h;simp only[tW]at h;split at h;exact Nat.le_trans (Nat.le_add_right _ _) (ih _ _ h);simp at h
          exact mono l _ _ ht
         obtain⟨ts2,r2,t2⟩:=ihl (off+P.cellsOf f.type) ys' (fun g hg=>hf g (by simp[hg])) ht hend aeC
         rw[hfo]at hy
         obtain⟨ts1,r1,t1⟩:=ih f.type (hf f (by simp)) fuel sp hd _ y hy (by simp;omega)
         refine⟨ts1++ts2,?_,ts1,ts2,rfl,t1,t2⟩
         rw[←GX cs off (P.cellsOf f.type)]
         exact r1.append r2
       · simp at ht
     have:=go fs.toList 0 xs (fun f hf=>hall f hf) (by rw[htl,hlen]) (Nat.zero_le _) hxs
     simpa using this
    |_=>simp at hok
end Go.aT
end
section
namespace Go.aT
open Go Go.RowKit Go.ChangeShapes Go.WideShapes
variable {H:Type} {enc:TypeId×Value→H} {P:Program}
def Q3 (P:Program) (t:TypeId) (ts:List T):W:=
 match ju P t with
 |some true=> .agg (ts.map .t)
 |_=>match ts with
  | [x]=> .one (.t x)
  |_=> .agg (ts.map .t)
theorem KY {W:World} {sp:Nat→Bool} {base d:Nat} {t:TypeId} {v:Value} {x:DataW H} {p:List MemPlace} {ρ:Env} (hok:Value.okWide P W .any base t v) (hr:DataW.Trod enc P W 0 sp true t v x p) (hd:iF P (d+1) t=true):
 ∃ts,TT P (d+1) t ts∧RW W (fun _=>False) ρ (Q3 P t ts) v:=by
 obtain⟨fuel,hr⟩:=hr
 unfold Value.okWide at hok
 have Bu:=hd
 unfold iF at Bu
 cases hu:P.underlying t with
 |none=>simp[hu]at Bu
 |some dsc=>
  simp only[hu]at hok Bu
  have rU:ju P t=some false→v.oneCell'=true→P.cellsOf t=1→ ∃ts,TT P (d+1) t ts∧RW W (fun _=>False) ρ (Q3 P t ts) v:=by
   intro hagg hv hone
   have hvc:v.cells.toList=[v]:=by cases v<;>simp[Value.oneCell']at hv<;>rfl
   rw[hvc]at hr
   obtain⟨ts,h1,h2⟩:=zn (d+1) t hd fuel sp true [v] _ hr (by simp[hone])
   refine⟨ts,h2,?_⟩
   have hl:ts.length=1:=by simpa using h1.1
   obtain⟨q,rfl⟩:=List.length_eq_one_iff.1 hl
   simp only[Q3,hagg]
   exact⟨h1.2 0 q v rfl rfl,hv⟩
  cases dsc with
  |struct fs=>
   simp only at hok
   obtain⟨cs,rfl,hsz,_⟩:=hok
   obtain⟨ts,h1,h2⟩:=zn (d+1) t hd fuel sp true cs.toList _ hr (by simpa using hsz)
   refine⟨ts,h2,?_⟩
   have hagg:ju P t=some true:=by simp[ju,hu]
   simp only[Q3,hagg]
   refine⟨cs,rfl,by simpa using h1.1,fun k c x hk hx=>?_⟩
   simp only[List.getElem?_map,Option.map_eq_some_iff]at hk
   obtain⟨q,hq,rfl⟩:=hk
   have:=h1.2 k q x hq (by simpa using hx)
   exact⟨this,this.cell⟩
  |bool=>
   simp only[beq_iff_eq]at Bu
   refine rU (by simp[ju,hu]) ?_ Bu
   cases v<;>simp_all[Cell.okWide,Cell.ok,Value.oneCell']
  |int k=>
   simp only[beq_iff_eq]at Bu
   refine rU (by simp[ju,hu]) ?_ Bu
   cases v<;>simp_all[Cell.okWide,Cell.ok,Value.oneCell']
  |string=>
   simp only[beq_iff_eq]at Bu
   refine rU (by simp[ju,hu]) ?_ Bu
   cases v<;>simp_all[Cell.okWide,Cell.ok,Value.oneCell']
  |slice e=>
   simp only[Bool.and_eq_true,beq_iff_eq]at Bu
   refine rU (by simp[ju,hu]) ?_ Bu.1.1
   cases v<;>simp_all[Cell.okWide,Cell.ok,Value.oneCell']
  |_=>simp at Bu
def Typed (P:Program) (d:Nat):List TypeId→List W→Prop
 | [],us=>us=[]
 |t::ts,us=> ∃a r,us=Q3 P t a::r∧TT P d t a∧Typed P d ts r
theorem Ak {W:World} {base d:Nat} {ρ:Env}: ∀ {ts:List TypeId} {vs:List Value} {ds:List (DataW H)} {ps:List MemPlace},DataW.TrodAll enc P W 0 (fun _=>true) true ts vs ds ps→
 (∀ (j:Nat) (t:TypeId) (v:Value),ts[j]? =some t→vs[j]? =some v→Value.okWide P W .any base t v)→(∀t,t∈ts→iF P (d+1) t=true)→ ∃us,Typed P (d+1) ts us∧BW W (fun _=>False) ρ us vs
 | [],vs,ds,ps,h,_,_=>by
   obtain⟨rfl,_⟩:=trodAll_nil h
   exact⟨[],rfl,rfl,by simp⟩
 |t::ts,vs,ds,ps,h,hval,Zz=>by
  obtain⟨v,vs',x,ds',p,q,rfl,rfl,rfl,h1,h2⟩:=trodAll_cons h
  obtain⟨a,ha,Zs⟩:=KY (ρ:=ρ) (hval 0 t v rfl rfl) h1 (Zz t (by simp))
  obtain⟨us,hu,hl,hru⟩:=Ak (ρ:=ρ) h2 (fun j t' v' ht hv=>hval (j+1) t' v' (by simpa using ht) (by simpa using hv)) (fun t' ht=>Zz t' (by simp[ht]))
  refine⟨Q3 P t a::us,⟨a,us,rfl,ha,hu⟩,by simp[hl],fun k u y hk hy=>?_⟩
  cases k with
  |zero=>
   simp only[List.getElem?_cons_zero,Option.some.injEq]at hk hy
   subst hk
   subst hy
   exact Zs
  |succ k=>exact hru k u y (by simpa using hk) (by simpa using hy)
theorem xU (hl:laidOutB P=true) {W W':World} (hb:Below W.heap.size W W'): ∀ {ts:List TypeId} {vs:List Value} {ds:List (DataW H)} {ps:List MemPlace},DataW.TrodAll enc P W 0 (fun _=>true) true ts vs ds ps→
 (∀t,t∈ts→P.readableRec t=true∧t < P.types.size)→DataW.TrodAll enc P W' 0 (fun b=>decide (b < W.heap.size)) true ts vs ds ps
 | [],vs,ds,ps,h,_=>by
   obtain⟨rfl,rfl,rfl⟩:=trodAll_nil h
   exact trodAll_mk0
 |t::ts,vs,ds,ps,h,ht=>by
  have hlt:=h.lt
  obtain⟨v,vs',x,ds',p,q,rfl,rfl,rfl,h1,h2⟩:=trodAll_cons h
  have h3:=Below.trod hl (ht t (by simp)).1 (ht t (by simp)).2 h1 hb (fun z hz=>hlt z (by simp[hz]))
  exact trodAll_cons_mk h3 (xU hl hb h2 (fun t' h'=>ht t' (by simp[h'])))
theorem BT {W W':World} (h:dj (fun b=>W.heap.size≤b) W W'):Below W.heap.size W W':=
 ⟨h.os,h.tape,h.output,h.size,fun k hk=>h.block k hk (by omega)⟩
theorem Hz {f:FuncId} {fn:Func} {s:ChangeSpec} {d:Nat} {W:World} {base:Nat} {args:Array Value} {ds gs:List (DataW H)} {before:List MemPlace}
 (hl:laidOutB P=true) (hvars:s.vars=[]) (hres:fn.resultTypes= #[4]) (XQ:P.underlying 4=some .bool) (Xl: ∀ds:List (DataW H),ds.length=fn.params.size→(s.fn H ds).results=[.lit (.bool true)]∧(s.fn H ds).args=ds∧(s.fn H ds).vars=[])
 (Zz: ∀t,t∈fn.params.toList→iF P (d+1) t=true) (hrd: ∀t,t∈fn.params.toList→P.readableRec t=true∧t < P.types.size)
 (XZ: ∀us,Typed P (d+1) fn.params.toList us→Fn P f us [] (.w (.one (.t (.val (.bool true))))) [])
 (hval: ∀ (j:Nat) t v,fn.params[j]? =some t→args[j]? =some v→Value.okWide P W .any base t v)
 (XJ:BY (fun b=>W.heap.size≤b) (fun _=>False) W)
 (hW:DataW.Whole enc P fn.params.toList s.vars false W args.toList ds gs before):
 Calls P f args W fun e W'=> ∃v,e= .returned v∧s.post enc P fn false true false false W args v W':=by
 have hW':=hW
 obtain⟨p,q,hA,hV,rfl,hfz,HM⟩:=hW
 rw[hvars]at hV
 obtain⟨rfl,rfl⟩:=trodVars_none hV
 obtain⟨us,hu,hru⟩:=Ak (ρ:=fun _=>none) hA (fun j t v ht hv=>hval j t v (by simpa using ht) (by simpa using hv)) Zz
 have hH:HR (fun b=>qS (fun _=>none) [] b∨W.heap.size≤b) (fun _=>False) (fun _=>none) (bu 4) [] W:=
  ⟨rfl,rfl,fun t v hv=>by simp[find]at hv,fun id b hb=>by simp[find]at hb,fun id id' b b' c hb=>by simp[find]at hb,fun _ _=>rfl,fun _ h=>h.elim,fun b hb=> .inr hb,XJ.sub (fun b hb hm=>hm.elim (fun ho=>by obtain⟨_,_,hf,_⟩:=ho;simp[find]at hf) (fun hl=>hl)) (fun _ h=>h)⟩
 refine(XZ us hu W (fun _=>False) (fun _=>none) args hH hru).mono ?_
 rintro e W' ⟨x,A',ρ',F',rfl,hv,_,dU,_,_⟩
 have hM:(fun b=>qS (fun _=>none) [] b∨W.heap.size≤b)=fun b=>W.heap.size≤b:=by funext b;simp[qS,find]
 rw[hM]at dU
 have hb:=BT dU
 have hx:x= .bool true:=V.bk (u:= .w (.one (.t (.val (.bool true))))) rfl hv
 subst hx
 have hlen:ds.length=fn.params.size:=by
  have len: ∀ {ts:List TypeId} {vs:List Value} {ds:List (DataW H)} {ps:List MemPlace},DataW.TrodAll enc P W 0 (fun _=>true) true ts vs ds ps→ds.length=ts.length:=by
   intro ts
   induction ts with
   |nil=>intro vs ds ps h;obtain⟨_,rfl,_⟩:=trodAll_nil h;rfl
   |cons t ts ih=>intro vs ds ps h;obtain⟨_,_,_,_,_,_,_,rfl,_,_,h2⟩:=trodAll_cons h;simp[ih h2]
  simpa using len hA
 obtain⟨s1,s2,s3⟩:=Xl (ds++[]) (by simpa using hlen)
 refine⟨_,rfl,ds,[],_,[],p,[],hW',?_,?_,?_,hb.frame _,fun h=>by simp at h⟩
 · rw[s1,hres]
   exact trodAll_mk1 ⟨1,by simp[DataW.trod,Value.cells,XQ]⟩
 · rw[s2]
   simpa using xU hl hb hA hrd
 · rw[s3,hvars]
   rfl
end Go.aT
end
section
namespace Go.aT.Cd
open Go Go.Proofs
set_option maxRecDepth 100000
set_option maxHeartbeats 1000000
def GTr (ts:List W):Prop:=ts=[oB true]
inductive Sh where
 |int
 |u8
 |bool
 |str
 |sl (cs:List Sh)
mutual
def IsT:Sh→T→Prop
 | .int,t=> ∃n,t= .val (.int .i64 n)
 | .u8,t=> ∃n:Int,t= .val (.int .u8 n)∧0≤n∧n < 256
 | .bool,t=> ∃b,t= .val (.bool b)
 | .str,t=> ∃s,t= .val (.string s)∧s.size≤maxLen
 | .sl cs,t=> ∃xs,t= .aB cs.length xs∧xs.length≤maxLen∧ ∀x,x∈xs→jm cs x
def jm:List Sh→List T→Prop
 | [],ts=>ts=[]
 |s::r,ts=> ∃t q,ts=t::q∧IsT s t∧jm r q
end
def qZ (f:TypeId→Option (List Sh)):List Field→Option (List Sh)
 | []=>some []
 |x::r=>match f x.type,qZ f r with
  |some a,some b=>some (a++b)
  |_,_=>none
def shapeOf (P:Program):Nat→TypeId→Option (List Sh)
 |0,_=>none
 |d+1,t=>match P.underlying t with
  |some .bool=>some [.bool]
  |some (.int .i64)=>some [.int]
  |some (.int .u8)=>some [.u8]
  |some .string=>some [.str]
  |some (.slice e)=>match shapeOf P d e with
   |some cs=>if P.cellsOf e=cs.length then some [.sl cs]else none
   |none=>none
  |some (.struct fs)=>qZ (shapeOf P d) fs.toList
  |_=>none
theorem jm.append: ∀ {a b:List Sh} {x y:List T},jm a x→jm b y→jm (a++b) (x++y)
 | [],b,x,y,h,k=>by simp only[jm]at h;subst h;exact k
 |s::r,b,x,y,h,k=>by
  obtain⟨t,q,rfl,h1,h2⟩:=h
  exact⟨t,q++y,rfl,h1,h2.append k⟩
theorem ww {P:Program}: ∀ {d:Nat} {t:TypeId} {ts:List T} {fC:List Sh},TT P d t ts→shapeOf P d t=some fC→jm fC ts
 |0,t,ts,fC,h,_=>h.elim
 |d+1,t,ts,fC,h,hs=>by
  have fields: ∀ {fs:List Field} {ts:List T} {fC:List Sh},YD (TT P d) fs ts→qZ (shapeOf P d) fs=some fC→jm fC ts:=by
   intro fs
   induction fs with
   |nil=>
    intro ts fC h hs
    simp only[qZ,Option.some.injEq]at hs
    subst hs
    simpa[jm,YD]using h
   |cons f r ih=>
    intro ts fC h hs
    obtain⟨a,b,rfl,h1,h2⟩:=h
    simp only[qZ]at hs
    split at hs
    · rename_i x y hx hy
      simp only[Option.some.injEq]at hs
      subst hs
      exact(ww h1 hx).append (ih h2 hy)
    · simp at hs
  simp only[TT]at h
  simp only[shapeOf]at hs
  split at h
  · rename_i hu
    simp only[hu,Option.some.injEq]at hs
    subst hs
    obtain⟨b,rfl⟩:=h
    exact⟨_,_,rfl,⟨b,rfl⟩,rfl⟩
  · rename_i k hu
    obtain⟨n,rfl,hw⟩:=h
    cases k<;>simp only[hu]at hs<;>simp at hs<;>subst hs
    all_goals first
     |exact⟨_,_,rfl,⟨n,rfl⟩,rfl⟩
     |(refine⟨_,_,rfl,⟨n,rfl,?_⟩,rfl⟩
       simp only[Lit.wf,Bool.and_eq_true,decide_eq_true_eq]at hw
       have h1:(0:Int)≤n:=hw.1
       have h2:n≤(255:Int):=hw.2
       exact⟨h1,by omega⟩)
  · rename_i hu
    simp only[hu,Option.some.injEq]at hs
    subst hs
    obtain⟨s,rfl,hs⟩:=h
    exact⟨_,_,rfl,⟨s,rfl,hs⟩,rfl⟩
  · rename_i e hu
    simp only[hu]at hs
    obtain⟨xs,rfl,h1,h2⟩:=h
    split at hs
    · rename_i cs hcs
      split at hs
      · rename_i hlen
        simp only[Option.some.injEq]at hs
        subst hs
        exact⟨_,_,rfl,⟨xs,by rw[hlen],h1,fun x hx=>ww (h2 x hx) hcs⟩,rfl⟩
      · simp at hs
    · simp at hs
  · rename_i fs hu
    simp only[hu]at hs
    exact fields h hs
  · exact h.elim
abbrev O4:List Sh:=[.str, .sl [.int, .int]]
abbrev Ew:List Sh:=[.str, .sl O4, .int, .sl [.int, .int], .sl [.int, .int], .sl [.int], .bool]
abbrev opS:List Sh:=[.str, .int, .int, .sl [.int], .sl [.int]]
abbrev I9:List Sh:=[.int, .int, .int, .int, .bool, .int]
abbrev Ev:List Sh:=[.int, .int, .int, .bool, .int, .int, .int]
abbrev Mv:List Sh:=[.int, .sl [.int, .int, .int, .int]]
abbrev bdS:List Sh:=[.int, .int, .int, .int, .int, .int]
abbrev ctS:List Sh:=[.int, .int, .int, .int, .sl [.int], .bool]
abbrev grS:List Sh:=[.int, .int, .int, .int, .sl [.int]]
abbrev aqN:List Sh:=[.str, .sl [.str], .sl [.int], .sl Ew, .sl [.int, .int, .bool], .sl I9, .sl opS, .int, .int, .int, .int, .sl [.int], .sl Ev, .sl Mv, .sl bdS, .sl ctS]
theorem adU {e:List T} (h:jm [.int] e):IsI e:=by
 obtain⟨_,_,rfl,⟨a,rfl⟩,rfl⟩:=h
 exact⟨a,rfl⟩
theorem HE {xs:Lz} (h: ∀x,x∈xs→jm [.int] x):Is xs:=fun e he=>adU (h e he)
theorem Qy {xs:Lz} (h: ∀x,x∈xs→jm [.int, .int] x):bG xs:=fun e he=>by
 obtain⟨_,_,rfl,⟨a,rfl⟩,_,_,rfl,⟨b,rfl⟩,rfl⟩:=h e he
 exact⟨a,b,rfl⟩
theorem acF {xs:Lz} (h: ∀x,x∈xs→jm [.str] x):YE xs:=fun e he=>by
 obtain⟨_,_,rfl,⟨a,rfl,ha⟩,rfl⟩:=h e he
 exact⟨a,rfl,ha⟩
theorem Su {xs:Lz} (h: ∀x,x∈xs→jm O4 x):j7 xs:=fun e he=>by
 obtain⟨_,_,rfl,⟨s,rfl,hs⟩,_,_,rfl,⟨ys,rfl,hl,hy⟩,rfl⟩:=h e he
 exact⟨s,ys,rfl,hs,Qy hy,hl⟩
theorem acV {xs:Lz} (h: ∀x,x∈xs→jm Ew x): ∀e,e∈xs→N0 e:=fun e he=>by
 obtain⟨_,_,rfl,⟨s,rfl,hs⟩,_,_,rfl,⟨es,rfl,hel,j9⟩,_,_,rfl,⟨g,rfl⟩,_,_,rfl,⟨ns,rfl,hnl,hns⟩,_,_,rfl,⟨cs,rfl,eF,hcs⟩,_,_,rfl,⟨ws,rfl,yg,EI⟩,_,_,rfl,⟨m,rfl⟩,rfl⟩:=h e he
 exact⟨s,es,g,ns,cs,ws,m,rfl,hs,⟨Su j9,hel⟩,⟨Qy hns,hnl⟩,⟨Qy hcs,eF⟩,HE EI,yg⟩
theorem abX {xs:Lz} (h: ∀x,x∈xs→jm [.int, .int, .bool] x): ∀e,e∈xs→YL e:=fun e he=>by
 obtain⟨_,_,rfl,⟨a,rfl⟩,_,_,rfl,⟨b,rfl⟩,_,_,rfl,⟨c,rfl⟩,rfl⟩:=h e he
 exact⟨a,b,c,rfl⟩
theorem acL {xs:Lz} (h: ∀x,x∈xs→jm I9 x): ∀e,e∈xs→YN e:=fun e he=>by
 obtain⟨_,_,rfl,⟨a,rfl⟩,_,_,rfl,⟨b,rfl⟩,_,_,rfl,⟨c,rfl⟩,_,_,rfl,⟨d,rfl⟩,_,_,rfl,⟨q,rfl⟩,_,_,rfl,⟨f,rfl⟩,rfl⟩:=h e he
 exact⟨a,b,c,d,q,f,rfl⟩
theorem adC {xs:Lz} (h: ∀x,x∈xs→jm opS x): ∀e,e∈xs→YP e:=fun e he=>by
 obtain⟨_,_,rfl,⟨s,rfl,hs⟩,_,_,rfl,⟨a,rfl⟩,_,_,rfl,⟨b,rfl⟩,_,_,rfl,⟨af,rfl,LO,haf⟩,_,_,rfl,⟨us,rfl,LI,gO⟩,rfl⟩:=h e he
 exact⟨s,a,b,af,us,rfl,hs,⟨HE haf,LO⟩,HE gO,LI⟩
theorem acU {xs:Lz} (h: ∀x,x∈xs→jm Ev x):PS xs:=fun e he=>by
 obtain⟨_,_,rfl,⟨a,rfl⟩,_,_,rfl,⟨b,rfl⟩,_,_,rfl,⟨c,rfl⟩,_,_,rfl,⟨d,rfl⟩,_,_,rfl,⟨q,rfl⟩,_,_,rfl,⟨f,rfl⟩,_,_,rfl,⟨g,rfl⟩,rfl⟩:=h e he
 exact⟨a,b,c,d,q,f,g,rfl⟩
theorem avG {xs:Lz} (h: ∀x,x∈xs→jm Mv x):Pys xs:=fun e he=>by
 obtain⟨_,_,rfl,⟨a,rfl⟩,_,_,rfl,⟨q,rfl,_⟩,rfl⟩:=h e he
 exact⟨a,q,rfl⟩
end Go.aT.Cd
end
section
namespace Go.aT.Cd
open Go Go.Proofs
set_option maxRecDepth 100000
set_option maxHeartbeats 1000000
abbrev Ou:List Sh:=[.str, .int, .int, .int, .int, .int, .sl [.int, .int, .int, .int]]
abbrev SC:List Sh:=[.str, .sl [.str], .sl [.int], .sl Ew, .sl [.int, .int, .bool], .sl I9, .sl opS, .int, .int, .int, .int, .sl [.int], .sl Ev, .sl Mv, .sl Ou, .sl [.int]]
theorem Wh {xs:Lz} (h: ∀x,x∈xs→jm [.int, .int, .int, .int] x):Ao xs:=fun e he=>by
 obtain⟨_,_,rfl,⟨a,rfl⟩,_,_,rfl,⟨b,rfl⟩,_,_,rfl,⟨c,rfl⟩,_,_,rfl,⟨d,rfl⟩,rfl⟩:=h e he
 exact⟨a,b,c,d,rfl⟩
theorem acT {xs:Lz} (h: ∀x,x∈xs→jm Mv x):tS xs:=fun e he=>by
 obtain⟨_,_,rfl,⟨a,rfl⟩,_,_,rfl,⟨q,rfl,_,hq⟩,rfl⟩:=h e he
 exact⟨a,q,rfl,Wh hq⟩
theorem acQ {xs:Lz} (h: ∀x,x∈xs→jm Ou x):Fh xs:=fun e he=>by
 obtain⟨_,_,rfl,⟨s,rfl,hs⟩,_,_,rfl,⟨a,rfl⟩,_,_,rfl,⟨b,rfl⟩,_,_,rfl,⟨c,rfl⟩,_,_,rfl,⟨d,rfl⟩,_,_,rfl,⟨g,rfl⟩,_,_,rfl,⟨fl,rfl,hl,hf⟩,rfl⟩:=h e he
 exact⟨s,a,b,c,d,g,fl,rfl,hs,Wh hf,hl⟩
theorem Yk {x:List T} (h:jm SC x): ∃ (sn:ByteArray) (bK ms ps us ss os:Lz) (ln wd rx ry:Int) (sizes places plies ag aQ:Lz),x=ZL sn bK ms ps us ss os ln wd rx ry sizes places plies ag aQ∧Lr sn bK ms ps us ss os sizes places plies ag aQ∧bK.length≤maxLen:=by
 obtain⟨_,_,rfl,⟨sn,rfl,JX⟩,_,_,rfl,⟨bK,rfl,l1,m1⟩,_,_,rfl,⟨ms,rfl,l2,m2⟩,_,_,rfl,⟨ps,rfl,l3,m3⟩,_,_,rfl,⟨us,rfl,l4,m4⟩,_,_,rfl,⟨ss,rfl,l5,m5⟩,_,_,rfl,⟨os,rfl,l6,m6⟩,
  _,_,rfl,⟨ln,rfl⟩,_,_,rfl,⟨wd,rfl⟩,_,_,rfl,⟨rx,rfl⟩,_,_,rfl,⟨ry,rfl⟩,_,_,rfl,⟨sizes,rfl,l7,m7⟩,_,_,rfl,⟨places,rfl,l8,m8⟩,_,_,rfl,⟨plies,rfl,l9,m9⟩,_,_,rfl,⟨ag,rfl,IC,m10⟩,_,_,rfl,⟨aQ,rfl,l11,m11⟩,rfl⟩:=h
 exact⟨sn,bK,ms,ps,us,ss,os,ln,wd,rx,ry,sizes,places,plies,ag,aQ,rfl,⟨⟨JX,acF m1,l1,HE m2,l2,acV m3,l3,abX m4,l4,acL m5,l5,adC m6,l6⟩,HE m7,l7,acU m8,l8,acT m9,l9,acQ m10,IC,HE m11⟩,l1⟩
abbrev Fv:Prop:=Te 9 [] [oB true]
end Go.aT.Cd
end
section
namespace Go.aT
open Go
variable {P:Program} {M A:Nat→Prop} {ρ:Env} {F:Nat→Prop} {st:St} {a:Act} {w:World}
theorem dK.ahN {tm:TS} {hp:HS} {ctr szr sz len:Nat} {xs:List (List C)} {e:List C} {rows:List (List C)} {ys:Lz} (Ov i0 j id:Nat) (hf:find hp Ov=some (.row szr xs)) (sB:xs[i0]? =some e) (hj:e[j]? =some (.own id sz 0 len)) (hd:find hp id=some (.row sz rows)) (hR:az rows ys) (hl:len≤ys.length) (hne:Ov≠id):
 dK tm hp ctr tm (del (jN hp Ov (.row szr (xs.set i0 (e.set j (.t (.aB sz (ys.take len))))))) id) ctr:=by
 intro M A ρ n a w hr
 have h0:=Rel.forget hr (st':=⟨n,tm,[(id, .row sz rows)]⟩) rfl (fun _ _ h=>h) (fun k b hb=>by
  simp only[aA]at hb
  split at hb
  · rename_i e'
    subst e'
    rw[←hb]
    exact hd
  · simp[find]at hb)
 let B:Nat→Prop:=fun b=>A b∧ρ id≠some (.gz b)
 have hfz:dm 6 [(id,bA.row sz rows)] (.own id sz 0 len)=some (.aB sz (ys.take len)):=by
  have h:=kE (hp:=[(id,bA.row sz rows)]) (id:=id) (sz:=sz) (rows:=rows) (i:=0) (len:=len) (by simp[find]) hR (by omega)
  simp only[bY,Option.map_eq_some_iff]at h
  obtain⟨t,h1,h2⟩:=h
  injection h2 with h2
  injection h2 with h2
  rw[h1,h2]
  simp
 have hs:Rel M B ρ (bu ctr) ⟨n,tm,del hp id⟩ a w:=Rel.shrink (hp:=del hp id) hr (fun b hb=>hb.1) (fun k b hk=>by
  rw[dh]at hk
  split at hk
  · simp at hk
  · exact hk) (fun k blk b hk hρ=>by
  rw[dh]at hk
  split at hk
  · simp at hk
  · rename_i J5
    refine⟨(ES (hr.heap k blk hk) hρ).1,fun h2=>?_⟩
    exact J5 (hr.inj k id blk _ b hk hd hρ h2))
 refine⟨B,ρ,⟨hs.size,hs.defers,hs.tmps,fun HH blk hb=>?_,fun W5 HH b1 b2 b h1 h2 r1 r2=>?_,hs.fresh,hs.bound,hs.may,hs.ep⟩,iZ.refl _,fun b hA hM=>⟨hA,fun h2=>hM ((hr.heap id _ hd).lt h2).2.1⟩,fun b _ hb=>hb.1⟩
 · simp only[dh,bO]at hb
   split at hb
   · simp at hb
   · rename_i J5
     split at hb
     · rename_i e'
       subst e'
       rw[hf]at hb
       simp only[Option.map_some,Option.some.injEq]at hb
       subst hb
       have hh:=hs.heap _ (.row szr xs) (by rw[dh,if_neg (by first|exact J5|exact hne|exact fun h=>hne h.symm)];exact hf)
       obtain⟨h1,h2⟩:=hh
       refine⟨fun el hel=>?_,?_⟩
       · rcases List.mem_or_eq_of_mem_set hel with hel|rfl
         · exact h1 el hel
         · rw[List.length_set]
           exact h1 e (List.mem_of_getElem? sB)
       · rcases h2 with⟨b,c,t,k1,k2,k3,k4,k5,k6⟩|⟨_,h3⟩
         · refine .inl ⟨b,c,t,k1,k2,k3,k4,by simpa using k5,fun i el jj q hi hq=>?_⟩
           by_cases HO:i0=i
           · subst HO
             rw[List.getElem?_set_self (List.getElem?_eq_some_iff.1 sB).1,Option.some.injEq]at hi
             subst hi
             by_cases RN:j=jj
             · subst RN
               have hlt:=(List.getElem?_eq_some_iff.1 hj).1
               rw[List.getElem?_set_self hlt,Option.some.injEq]at hq
               subst hq
               obtain⟨x,hx,hrc,hcell⟩:=k6 i0 e j _ sB hj
               refine⟨x,hx,?_,hcell⟩
               exact oQ h0 (B:=B) (fun b hb=>hb.1) (fun k blk b hk hρ hB=>by
                simp only[aA]at hk
                split at hk
                · rename_i e'
                  subst e'
                  exact hB.2 hρ
                · simp[find]at hk) hfz (show RC w A ρ (.own id sz 0 len) x from hrc)
             · rw[List.getElem?_set_ne RN]at hq
               exact k6 i0 e jj q sB hq
           · rw[List.getElem?_set_ne HO]at hi
             exact k6 i el jj q hi hq
         · rw[h3]at sB
           simp at sB
     · exact hs.heap HH blk (by rw[dh,if_neg J5];exact hb)
 · have old: ∀ {q:Nat} {bl:bA},find (del (jN hp Ov (.row szr (xs.set i0 (e.set j (.t (.aB sz (ys.take len))))))) id) q=some bl→ ∃Ah,find hp q=some Ah:=by
    intro q bl hq
    simp only[dh,bO]at hq
    split at hq
    · simp at hq
    · split at hq
      · rename_i e'
        subst e'
        exact⟨_,hf⟩
      · exact⟨_,hq⟩
   obtain⟨c1,g1⟩:=old h1
   obtain⟨c2,g2⟩:=old h2
   exact hr.inj W5 HH c1 c2 b g1 g2 r1 r2
end Go.aT
end
section
namespace Go.aT.Cd
open Go Go.Proofs
set_option maxRecDepth 100000
set_option maxHeartbeats 4000000
variable [Aq]
theorem LZ {J:TS→HS→Nat→Prop} {tm mX:TS} {hp hp1:HS} {ctr c1:Nat} (hW:dK tm hp ctr mX hp1 c1) (keys:List Nat) (nest:List (Nat×Nat))
 (h:BB (vF keys nest mX hp1) fun S=>qI (S.tm mX) fun t=>rL (S.hp hp1) fun q=>S.ok=true∧J t q S.ctr):bU J tm hp ctr:= .sem hW (ak keys nest h)
theorem IM {rows:List (List C)} {i:Nat} {e:List C} {K:List C→Prop} (hi:i < rows.length) (hk:K e):qu (rows.set i e) i K:=by
 simp only[qu,List.getElem?_set_self hi]
 exact hk
def pC (ag ae:Lz) (e:List T) (j:Nat):Lz:=(List.range j).map fun k=>[tB (Ib (nI 0 e) (nL 1 e) ag (nL 0 (kL ae k))).1]
def Cb (ag ae plies:Lz) (i:Nat):Lz:=((List.range i).map fun a=>[T.aB 1 (pC ag ae (kL plies a) ae.length)])++List.replicate (plies.length - i) [iK]
def D2 (ag ae:Lz) (e:List T) (j:Nat):Lz:=pC ag ae e j++List.replicate (ae.length - j) [tB false]
def RTa (ag ae plies:Lz) (m:Nat) (vs:List V) (hq:HS):Prop:= ∃ (i:Nat) (rows:List (List C)),i≤plies.length∧m=plies.length - i∧vs=[iV .i64 (i:Int)]∧az rows (Cb ag ae plies i)∧hq=[(4, .row 1 rows)]
def RTb (ag ae plies:Lz) (i:Nat) (dJ:Int) (ps:Lz) (m:Nat) (vs:List V) (hq:HS):Prop:= ∃ (j:Nat) (rows rb:List (List C)),hq=[(4, .row 1 rows),(8, .row 2 [[.t (tI dJ), .t (.aB 4 ps)]]),(12, .row 1 rb)]∧j≤ae.length∧m=ae.length - j∧vs=[iV .i64 (j:Int)]∧rows=(tr (Cb ag ae plies i)).set i [.own 12 1 0 ae.length]∧az rb (D2 ag ae [tI dJ, .aB 4 ps] j)
def GTb (ag ae plies:Lz) (ts:List W):Prop:=ts=[oL 1 (Cb ag ae plies plies.length),oI 0]
theorem tb0 (ag ae plies:Lz):az (List.replicate ((plies.length:Nat):Int).toNat [C.t iK]) (Cb ag ae plies 0):=by
 simp[Cb,az,tr]
theorem oK (ag ae plies:Lz) {i:Nat} (hi:i≤plies.length):(Cb ag ae plies i).length=plies.length:=by
 simp[Cb];omega
theorem Gy (ag ae:Lz) (e:List T) {j:Nat} (hj:j≤ae.length):(D2 ag ae e j).length=ae.length:=by
 simp[D2,pC];omega
theorem FM {α:Type} {a b:List α} {x y:α} {i:Nat} (h:i=a.length):(a++x::b).set i y=a++y::b:=by
 subst h
 simp
theorem IV (ag ae plies:Lz) {i:Nat} (hi:i < plies.length):(Cb ag ae plies i).set i [T.aB 1 (pC ag ae (kL plies i) ae.length)]=Cb ag ae plies (i+1):=by
 have e:plies.length - i=(plies.length - (i+1))+1:=by omega
 unfold Cb
 rw[e,List.replicate_succ,FM (by simp)]
 simp[List.range_succ]
theorem KV (ag ae:Lz) (e:List T) {j:Nat} (hj:j < ae.length):(D2 ag ae e j).set j [tB (Ib (nI 0 e) (nL 1 e) ag (nL 0 (kL ae j))).1]=D2 ag ae e (j+1):=by
 have h:ae.length - j=(ae.length - (j+1))+1:=by omega
 unfold D2 pC
 rw[h,List.replicate_succ,FM (by simp)]
 simp[List.range_succ]
theorem KW (ag ae:Lz) (e:List T):D2 ag ae e ae.length=pC ag ae e ae.length:=by
 simp[D2]
theorem bb0 (ag ae:Lz) (e:List T):az (List.replicate ((ae.length:Nat):Int).toNat [C.t (tB false)]) (D2 ag ae e 0):=by
 simp[D2,pC,az,tr]
theorem Mc (ag ae plies:Lz) (i:Nat): ∀e,e∈Cb ag ae plies i→ ∃x,e=[x]:=fun e he=>by
 simp only[Cb,List.mem_append,List.mem_map,List.mem_replicate]at he
 rcases he with⟨a,_,rfl⟩|⟨_,rfl⟩<;>exact⟨_,rfl⟩
theorem NB (ag ae:Lz) (e:List T) (j:Nat): ∀x,x∈D2 ag ae e j→ ∃b,x=[tB b]:=fun x hx=>by
 simp only[D2,pC,List.mem_append,List.mem_map,List.mem_replicate]at hx
 rcases hx with⟨a,_,rfl⟩|⟨_,rfl⟩<;>exact⟨_,rfl⟩
theorem P5 {rows X:List (List C)} {i n:Nat} {e:List C} {K:List C→Prop} (h:rows=X.set i e) (hn:n=i) (hi:i < X.length) (hk:K e):qu rows n K:=by
 subst h
 subst hn
 exact IM hi hk
theorem VW {rows:List (List C)} {xs:Lz} {i n:Nat} {c c':List C} (f:Nat→Option Nat) (hn:n=i) (h:az rows xs) (hc:c.map (C.av f)=c'):(rows.set n c).map (fun e=>e.map (C.av f))=(tr xs).set i c':=by
 subst hn
 rw[List.map_set,show rows=tr xs from h,eu,hc]
theorem Qs {rows:List (List C)} {xs:Lz} {i:Nat} {c c':List C} (f:Nat→Option Nat) (h:rows=(tr xs).set i c) (hc:c.map (C.av f)=c'):rows.map (fun e=>e.map (C.av f))=(tr xs).set i c':=by
 rw[h,List.map_set,eu,hc]
theorem mh (xs:Lz):(tr xs).length=xs.length:=by simp[tr]
theorem Qr {ag ae plies ps:Lz} {rows:List (List C)} {c:List C} {i:Nat} {dJ:Int} (h:rows=(tr (Cb ag ae plies i)).set i c) (hi:i < plies.length) (hy:plies[i]? =some [tI dJ, .aB 4 ps]):
 az (rows.set i [C.t (.aB 1 ((D2 ag ae [tI dJ, .aB 4 ps] ae.length).take ae.length))]) (Cb ag ae plies (i+1)):=by
 have e:(D2 ag ae [tI dJ, .aB 4 ps] ae.length).take ae.length=pC ag ae (kL plies i) ae.length:=by
  rw[KW,iG hy,List.take_of_length_le (by simp[pC])]
 rw[h,List.set_set,e, ←IV ag ae plies hi]
 exact az.set (rows:=tr (Cb ag ae plies i)) rfl i [T.aB 1 (pC ag ae (kL plies i) ae.length)]
theorem SP {ag ae ps poly:Lz} {rb:List (List C)} {j n:Nat} {dJ:Int} {b:Bool} (hn:n=j) (h:az rb (D2 ag ae [tI dJ, .aB 4 ps] j)) (hj:j < ae.length) (zQ:ae[j]? =some [.aB 2 poly]) (hb:b=(Ib dJ ps ag poly).1):az (rb.set n [C.t (tB b)]) (D2 ag ae [tI dJ, .aB 4 ps] (j+1)):=by
 subst hn
 rw[←KV ag ae _ hj,iG zQ,hb]
 exact h.set _ [tB (Ib dJ ps ag poly).1]
theorem BK (ln wd rx ry:Int) (sizes places plies ag ae:Lz) (hp:pF ae) (TI:ae.length≤60) (hR:Fh ag) (hy:tS plies) (j8:plies.length≤40) (hB: ∀e,e∈plies→(nL 1 e).length≤1000) (hht: ∀a k,a < plies.length→k < ae.length→GJ ag ae (kL plies a) k): ∃ts,Fn Tryz.prog 17 [o8 ln wd rx ry sizes places plies,oL 7 ag,oL 1 ae] [] (aL ts) []∧(aL ts).bL=true∧GTb ag ae plies ts:=by
 refine aJ ?_
 refine ah Tryz.func17 ?_
 repeat' (conv=>whnf
          first
  |(refine au (fun h=>?_) (fun h=>?_))
  |(refine ca (fun h=>?_) (fun h=>?_))
  |(refine aq (xs:=plies) (n:=(i:Int)) hy (by omega) (by omega) ?_;rintro _ ⟨dJ,ps,rfl,hps⟩ hs;have HJ:plies[i]? =some [tI dJ, .aB 4 ps]:=(by simpa using hs);have afG:ps.length≤maxLen:=(by have h3:ps.length≤1000:=hB _ (List.mem_of_getElem? hs);simp only[maxLen];omega))
  |(refine aq (xs:=ae) (n:=(j:Int)) hp (by omega) (by omega) ?_;rintro _ ⟨poly,rfl,Rz,Ry⟩ zQ;have Xt:ae[j]? =some [.aB 2 poly]:=(by simpa using zQ);have hhe:vJ dJ ps ag poly:=(by have h9:=hht i j (by omega) (by omega);unfold GJ at h9;rw[iG HJ,iG Xt]at h9;exact h9))
  |(exfalso;omega)
  |(refine bJ OY (Mc ag ae plies i) (by rw[oK ag ae plies hi];omega) ?_;rintro _ ⟨x9,rfl⟩ DS)
  |(refine P5 eO (by omega) (by rw[mh,oK ag ae plies hi];omega) ?_)
  |(refine bJ hrb (NB ag ae _ j) (by rw[Gy ag ae _ hj];omega) ?_;rintro _ ⟨b9,rfl⟩ DS)
  |(refine And.intro (by omega) ?_)
  |(refine ai rfl (xG dJ ps ag poly hps afG hR Rz Ry) ?_;rintro _ ⟨b,e,rfl,MU,RR⟩)
  |(apply bX [1,2,8,29,30,31] [] [31] (RTa ag ae plies) (plies.length) [iV .i64 0];(conv=>whnf);exact⟨rfl,rfl,rfl,rfl⟩;exact rfl;exact rfl;exact⟨0,_,by omega,by simp,rfl,az.av (tb0 ag ae plies) _,rfl⟩;rintro _ _ _ ⟨i,rows,hi,rfl,rfl,OY,rfl⟩)
  |(apply bX [1,2,8,9,10,29,30,31,42,43,44,40] [] [44] (RTb ag ae plies i dJ ps) (ae.length) [iV .i64 0];(conv=>whnf);exact⟨rfl,rfl,rfl,rfl⟩;exact rfl;exact rfl;exact⟨0,_,_,rfl,by omega,by simp,rfl,VW _ (by omega) OY rfl,az.av (bb0 ag ae _) _⟩;rintro _ _ _ ⟨j,wB,rb,rfl,hj,rfl,rfl,eO,hrb⟩)
  |(refine ak [1,2,8,9,10,29,30,31,42,43,44,40] [] ?_;(conv=>whnf);exact⟨rfl,_,[_],⟨j+1,_,_,rfl,by omega,rfl,by rw[bh (by omega) (by omega)];rfl,Qs _ eO rfl,az.av (SP (n:=0+(j:Int).toNat) (by omega) hrb (by omega) Xt (RR (by assumption))) _⟩,rfl,rfl,by omega⟩)
  |(have e9:j=ae.length:=(by omega);subst e9;refine LZ (dK.ahN (e:=[.own 12 1 0 ae.length]) 4 i 0 12 rfl (by rw[eO,List.getElem?_set_self (by rw[mh,oK ag ae plies hi];omega)]) rfl rfl hrb (by rw[Gy ag ae _ hj];omega) (by decide)) [1,2,8,29,30,31] [] ?_;(conv=>whnf);exact⟨rfl,_,[_],⟨i+1,_,by omega,rfl,by rw[bh (by omega) (by omega)];rfl,az.av (Qr eO (by omega) HJ) _,rfl⟩,rfl,rfl,by omega⟩)
  |exact dg rfl (fz rfl rfl OY (by rw[oK ag ae plies hi];omega)) (bS rfl) (by have e9:i=plies.length:=(by omega);subst e9;rw[GTb,fG (by rw[oK ag ae plies hi];rfl)];rfl)
  |(exfalso;exact absurd (MU.2 hhe) (by assumption)))
 all_goals (conv=>whnf)
end Go.aT.Cd
end
section
namespace Go.aT.Cd
open Go Go.Proofs
set_option maxRecDepth 100000
set_option maxHeartbeats 4000000
variable [Aq]
theorem Dp (ag sizes places ae plies:Lz): ∀ (N i:Nat),i < N * ae.length→(iW ag sizes places ae plies N)[i]? =some (Io ag sizes places (kL plies (i / ae.length)) (i / ae.length) (i % ae.length) (nL 0 (kL ae (i % ae.length))))
 |0,i,h=>by simp at h
 |N+1,i,h=>by
  rw[ox]
  by_cases hi:i < N * ae.length
  · rw[List.getElem?_append_left (by rw[ow];exact hi)]
    exact Dp ag sizes places ae plies N i hi
  · rw[List.getElem?_append_right (by rw[ow];omega),ow]
    have hd:i / ae.length=N:=Nat.div_eq_of_lt_le (by omega) h
    have hm:i % ae.length=i - N * ae.length:=by rw[Nat.mod_def,hd,Nat.mul_comm]
    have hj:i - N * ae.length < ae.length:=by
     rw[Nat.add_mul,Nat.one_mul]at h
     omega
    rw[hd,hm]
    simp[lA,hj]
theorem rK (sn:ByteArray) (bK ms ps us ss os:Lz) (ln wd rx ry:Int) (sizes places plies ag aQ poly:Lz) (hx:bG poly) (hl:poly.length≤1000000) (a k dJ g u kk q x y sz rr:Int) (f d:Bool) (pp:Lz) (hq:Ao pp) (Zt:pp.length≤maxLen) (ha:0≤a) (hy:plies[a.toNat]? =some [tI dJ, .aB 4 pp]) (hk:0≤k) (J2:places[k.toNat]? =some [tI g,tI u,tI kk,tB f,tI q,tI x,tI y]) (hg:0≤g) (hsz:sizes[g.toNat]? =some [tI sz]) (hc:(BR dJ pp poly).2=0) (hr:rr=nI 0 (jF dJ pp poly)) (td:0≤rr) (hlo:aQ[rr.toNat]? =some [tI dJ]): ∃ts,Fn Tryz.prog 18 [Wt sn bK ms ps us ss os ln wd rx ry sizes places plies ag aQ,Wu a k dJ sz (.aB 1 [[tI rr]]) d,oL 2 poly] [] (aL ts) []∧(aL ts).bL=true∧GTr ts:=by
 obtain⟨_,_,_,_,hn,_⟩:=fc dJ pp poly hq Zt hx hl
 have hn:=hn hc
 have RS:g.toNat < sizes.length:=(List.getElem?_eq_some_iff.1 hsz).1
 have Zr:rr.toNat < aQ.length:=(List.getElem?_eq_some_iff.1 hlo).1
 refine ah Tryz.func18 ?_
 repeat' (conv=>whnf
          first
  |(refine au (fun h=>?_) (fun h=>?_))
  |(refine ca (fun h=>?_) (fun h=>?_))
  |(refine And.intro ha (Exists.intro _ (And.intro hy ?_)))
  |(refine And.intro hk (Exists.intro _ (And.intro J2 ?_)))
  |(refine And.intro hg (Exists.intro _ (And.intro hsz ?_)))
  |(refine And.intro td (Exists.intro _ (And.intro hlo ?_)))
  |(refine Exists.intro [tI rr] (And.intro rfl ?_))
  |(refine aq (xs:=pp) hq hn.1 hn.2 ?_;rintro _ ⟨r1,f1,t1,a1,rfl⟩ hs;have h7:rr=r1:=(by rw[hr,qM hs];rfl))
  |(refine And.intro (by kernel_rfl) ?_)
  |(refine And.intro (by omega) ?_)
  |(refine ai rfl (fc dJ pp poly hq Zt hx hl) ?_;rintro _ ⟨rfl,_⟩)
  |(exfalso;omega)
  |(refine g1 rfl rfl ?_;simp[GTr];done))
 all_goals (conv=>whnf)
end Go.aT.Cd
end
