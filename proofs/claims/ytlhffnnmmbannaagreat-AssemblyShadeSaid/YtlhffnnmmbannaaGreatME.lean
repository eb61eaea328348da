import Derived.Test.YtlhffnnmmbannaaGreatMD
import Derived.Maps.RangeRun
import GoSem.ClaimChange
import Derived.Carry
import Derived.ChangeSame
import Derived.ChangeShapes
import Derived.OpenShut
set_option linter.all false
section
namespace Go.aU.Cd
open Go Go.Proofs
set_option maxRecDepth 100000
set_option maxHeartbeats 1000000
def c57:Rc:=Sq (Rg [Bx 3 0,Bx 5 2,Mk 6 0]) (Sq (Sq (Rg [Fa 13 1 5,Ld 14 13,Bi 15 .lss 14 0,Mv 16 15,Ga 16 (Fa 17 1 5),Ga 16 (Ld 18 17),Ga 16 (Fa 19 0 3),Ga 16 (Fa 20 4 19),Ga 16 (Ld 21 20),Ga 16 (Le 22 21),Ga 16 (Bt 23 .geq 18 22),Pt 24 16 23,Mv 25 24,Ga 25 (Fa 26 4 5),Ga 25 (Ld 27 26),Ga 25 (Bi 28 .lss 27 0),Pt 29 25 28,Mv 30 29,Ga 30 (Fa 31 4 5),Ga 30 (Ld 32 31),Ga 30 (Fa 33 5 5),Ga 30 (Ld 34 33),Ga 30 (Bt 35 .geq 32 34),Pt 36 30 35,Mv 37 36,Ga 37 (Fa 38 5 5),Ga 37 (Ld 39 38),Ga 37 (Fa 40 6 3),Ga 37 (Ld 41 40),Ga 37 (Le 42 41),Ga 37 (Bt 43 .gtr 39 42),Pt 44 37 43]) (Cn 44 (Sq (Rg [Mk 6 3]) Rt) Sk)) (Sq (Sq (Rg [Mv 45 1,Le 46 45,Mk 47 0]) (Bk 0 (Lp (Sq (Rg [Bt 48 .lss 47 46]) (Sq (Cn 48 Sk (Ex 0)) (Sq (Bk 1 (Sq (Rg [Ia 49 6 45 47,Lo 6 50 49,p 8 (.alloc [zi,zi,zi,zi,zi,zi]),So 6 8 50]) (Sq (Rg [Fa 51 0 8,Ld 52 51,Fa 53 0 5,Ld 54 53,Bt 55 .eql 52 54]) (Cn 55 (Sq (Rg [Mk 6 7]) Rt) Sk)))) (Rg [Bi 56 .add 47 1,Mv 47 56]))))))) (Sq (Sq (Dr [Fa 57 2 5,Ld 58 57,Fa 59 0 3,Fa 60 4 59,Ld 61 60,Fa 62 1 5,Ld 63 62,Ia 64 1 61 63,Ld 65 64,Bt 66 .neq 58 65] [[],[0],[],[2],[3],[],[5],[4,6],[7],[1,8]]) (Cn 66 (Sq (Rg [Mk 6 1]) Rt) Sk)) (Sq (Sq (Rg [Fa 67 6 3,Ld 68 67,Fa 69 4 5,Ld 70 69,Fa 71 5 5,Ld 72 71,p 73 (.slice 2 (t 68) (some (t 70)) (some (t 72))),Le 74 73,Mk 75 0]) (Bk 2 (Lp (Sq (Rg [Bt 76 .lss 75 74]) (Sq (Cn 76 Sk (Ex 2)) (Sq (Bk 3 (Sq (Rg [Ia 77 2 73 75,Lo 2 78 77,p 10 (.alloc [zi,zn]),So 2 10 78]) (Sq (Rg [Fa 79 0 10,Ld 80 79,Fa 81 3 5,Ld 82 81,Bt 83 .neq 80 82]) (Cn 83 (Sq (Rg [Mk 6 16]) Rt) Sk)))) (Rg [Bi 84 .add 75 1,Mv 75 84]))))))) (Sq (Sq (Rg [Mv 85 1,Le 86 85,Mk 87 0]) (Bk 4 (Lp (Sq (Rg [Bt 88 .lss 87 86]) (Sq (Cn 88 Sk (Ex 4)) (Sq (Bk 5 (Sq (Rg [Ia 89 6 85 87,Lo 6 90 89,p 12 (.alloc [zi,zi,zi,zi,zi,zi]),So 6 12 90]) (Sq (Rg [Fa 91 1 12,Ld 92 91,Fa 93 1 5,Ld 94 93,Bt 95 .eql 92 94,Mv 96 95,Gb 96 (Fa 97 4 12),Gb 96 (Ld 98 97),Gb 96 (Fa 99 5 5),Gb 96 (Ld 100 99),Gb 96 (Bt 101 .lss 98 100),Pf 102 96 101,Mv 103 102,Gb 103 (Fa 104 4 5),Gb 103 (Ld 105 104),Gb 103 (Fa 106 5 12),Gb 103 (Ld 107 106),Gb 103 (Bt 108 .lss 105 107),Pf 109 103 108]) (Cn 109 (Sq (Rg [Mk 6 14]) Rt) Sk)))) (Rg [Bi 110 .add 87 1,Mv 87 110]))))))) (Sq (Rg [Mk 6 0]) Rt))))))
theorem avD:ae Tryz.prog (Tryz.f57.body.getD .skip)=some c57:=by kernel_rfl
theorem axJ:Tryz.f57.body=some (Tryz.f57.body.getD .skip):=rfl
def c41:Rc:=Sq (Rg [Bx 2 0,Mk 4 0]) (Sq (Rg [Fa 11 0 2,Fa 12 4 11,Ld 13 12,Le 14 13,p 15 (.make [zi] 8 (t 14) (t 14)),Mv 5 15]) (Sq (Sq (Rg [Mv 16 1,Le 17 16,Mk 18 0]) (Bk 0 (Lp (Sq (Rg [Bt 19 .lss 18 17]) (Sq (Cn 19 Sk (Ex 0)) (Sq (Bk 1 (Sq (Rg [Mv 20 18,Ia 21 6 16 18,Lo 6 22 21,p 7 (.alloc [zi,zi,zi,zi,zi,zi]),Mv 6 20,So 6 7 22]) (Sq (Sq (Dr [Lo 7 23 2,Mv 24 1,Mv 25 6,p 26 (.slice 6 (t 24) none (some (t 25))),Lo 6 27 7,p 28 (.call 57 [t 23,t 26,t 27]),Mv 8 28] [[],[],[],[1,2],[],[0,3,4],[5,5,0,1,2,3,4,5]]) (Sq (Rg [Mv 29 8,Bi 30 .neq 29 0]) (Cn 30 (Sq (Rg [Mv 31 8,Mv 4 31]) Rt) Sk))) (Dr [Mv 32 5,Fa 33 1 7,Ld 34 33,Ia 35 1 32 34,Ld 36 35,Fa 37 5 7,Ld 38 37,Fa 39 4 7,Ld 40 39,Bt 41 .sub 38 40,Bt 42 .add 36 41,Ia 43 1 32 34,So 1 43 42] [[],[],[1],[0,2],[3],[],[5],[],[7],[6,8],[4,9],[0,2,0,1,2,3,4,5,6,7,8,9,10],[11,10,0,1,2,3,4,5,6,7,8,9,10]])))) (Rg [Bi 44 .add 18 1,Mv 18 44]))))))) (Sq (Sq (Rg [Mv 45 5,Le 46 45,Mk 47 0]) (Bk 2 (Lp (Sq (Rg [Bt 48 .lss 47 46]) (Sq (Cn 48 Sk (Ex 2)) (Sq (Bk 3 (Sq (Rg [Ia 49 1 45 47,Ld 50 49,Mv 10 50]) (Sq (Rg [Mv 51 10,Fa 52 6 2,Ld 53 52,Le 54 53,Bt 55 .lss 51 54]) (Cn 55 (Sq (Rg [Mk 4 20]) Rt) Sk)))) (Rg [Bi 56 .add 47 1,Mv 47 56]))))))) (Sq (Rg [Mk 4 0]) Rt))))
theorem avI:ae Tryz.prog (Tryz.f41.body.getD .skip)=some c41:=by kernel_rfl
theorem axO:Tryz.f41.body=some (Tryz.f41.body.getD .skip):=rfl
def nI (k:Nat) (e:List T):Int:=
 match e[k]? with
 |some (.val (.int .i64 n))=>n
 |_=>0
def nB (k:Nat) (e:List T):Bool:=
 match e[k]? with
 |some (.val (.bool b))=>b
 |_=>false
def nL (k:Nat) (e:List T):Lz:=
 match e[k]? with
 |some (.ao _ xs)=>xs
 |_=>[]
def Pre (Q:List T→Prop) (xs:Lz) (i:Nat):Prop:= ∀j e,j < i→xs[j]? =some e→Q e
theorem Pre.zero {Q:List T→Prop} {xs:Lz}:Pre Q xs 0:=fun j e hj=>by omega
theorem Pre.succ {Q:List T→Prop} {xs:Lz} {i:Nat} {e:List T} (h:Pre Q xs i) (hs:xs[i]? =some e) (hq:Q e):Pre Q xs (i+1):=by
 intro j e' hj he
 by_cases fk:j=i
 · subst fk
   rw[hs]at he
   cases he
   exact hq
 · exact h j e' (by omega) he
theorem Pre.all {Q:List T→Prop} {xs:Lz} {i:Nat} (h:Pre Q xs i) (hi:xs.length≤i): ∀e,e∈xs→Q e:=by
 intro e he
 obtain⟨j,hj,rfl⟩:=List.getElem_of_mem he
 exact h j _ (by omega) (by simp[hj])
def RQ (Q:List T→Prop) (xs:Lz) (m:Nat) (vs:List V):Prop:= ∃i:Nat,i≤xs.length∧Pre Q xs i∧m=xs.length - i∧vs=[iV .i64 (i:Int)]
theorem RQ.zero {Q:List T→Prop} {xs:Lz}:RQ Q xs xs.length [iV .i64 0]:=⟨0,by omega,Pre.zero,rfl,rfl⟩
theorem RQ.next {Q:List T→Prop} {xs:Lz} {i:Nat} {e:List T} (hi:(i:Int) < (xs.length:Int)) (hl:xs.length≤maxLen) (h:Pre Q xs i) (hs:xs[((i:Int)).toNat]? =some e) (hq:Q e):RQ Q xs (xs.length - (i+1)) [iV .i64 (IntKind.i64.wrap ((i:Int)+1))]:=
 ⟨i+1,by omega,h.succ (by simpa using hs) hq,rfl,by simp only[maxLen]at hl;rw[bO (by omega) (by omega)];rfl⟩
def ayR (e:List T):Prop:= ∃t g s l f o,e=[tI t,tI g,tI s,tI l,tI f,tI o]
abbrev JQ (xs:Lz):Prop:= ∀e,e∈xs→ayR e
def ayP (e:List T):Prop:= ∃l q,e=[tI l, .ao 4 q]
abbrev QN (xs:Lz):Prop:= ∀e,e∈xs→ayP e
abbrev oBd (t g s l f o:Int):W:= .agg [.t (tI t), .t (tI g), .t (tI s), .t (tI l), .t (tI f), .t (tI o)]
abbrev jg (t g s l f o:Int):List T:=[tI t,tI g,tI s,tI l,tI f,tI o]
abbrev kF (ln wd rx ry:Int) (sizes places ag:Lz):W:= .agg [.t (tI ln), .t (tI wd), .t (tI rx), .t (tI ry), .t (.ao 1 sizes), .t (.ao 7 places), .t (.ao 2 ag)]
abbrev gh (ln wd rx ry:Int) (sizes places ag:Lz):List T:=[tI ln,tI wd,tI rx,tI ry, .ao 1 sizes, .ao 7 places, .ao 2 ag]
structure JR (sizes ag cQ:Lz) (e:List T):Prop where
 g:0≤nI 1 e∧nI 1 e < (sizes.length:Int)
 f:0≤nI 4 e∧nI 4 e < nI 5 e∧nI 5 e≤(ag.length:Int)
 t: ∀o,o∈cQ→nI 0 o≠nI 0 e
 s:sizes[(nI 1 e).toNat]? =some [tI (nI 2 e)]
 l: ∀ (k:Nat) (p:List T),nI 4 e≤(k:Int)→(k:Int) < nI 5 e→ag[k]? =some p→nI 0 p=nI 3 e
 o: ∀o,o∈cQ→¬ (nI 1 o=nI 1 e∧nI 4 o < nI 5 e∧nI 4 e < nI 5 o)
theorem agJ {sizes ag cQ:Lz} {t g s l f o z:Int} (hg:0≤g∧g < (sizes.length:Int)) (hf:0≤f∧f < o∧o≤(ag.length:Int)) (ht: ∀e,e∈cQ→nI 0 e≠t) (hz:sizes[g.toNat]? =some [tI z]) (hs:s=z)
 (hl: ∀e,e∈ (ag.drop f.toNat).take (o.toNat - f.toNat)→nI 0 e=l) (ho: ∀e,e∈cQ→¬ (nI 1 e=g∧nI 4 e < o∧f < nI 5 e)):JR sizes ag cQ (jg t g s l f o):=by
 refine⟨hg,hf,ht,by rw[hs];exact hz,fun k p h1 h2 hp=>hl p ?_,ho⟩
 have Gl:f≤(k:Int):=h1
 have QC:(k:Int) < o:=h2
 refine List.mem_of_getElem? (i:=k - f.toNat) ?_
 rw[List.getElem?_take,if_pos (by omega),List.getElem?_drop]
 rw[show f.toNat+(k - f.toNat)=k by omega]
 exact hp
theorem sj (ln wd rx ry:Int) (sizes places ag cQ:Lz) (hz:Is sizes) (hpy:QN ag) (mN:ag.length≤maxLen) (he:JQ cQ) (hel:cQ.length≤maxLen) (t g s l f o:Int):Tg 57 [kF ln wd rx ry sizes places ag,oL 6 cQ,oBd t g s l f o] (nF (fun n=>n=0→JR sizes ag cQ (jg t g s l f o))):=by
 refine ah (n:=111) (rs:=[.tmp 6]) Tryz.func57 axJ avD rfl rfl (by simp) ?_
 repeat' (conv=>whnf
          first
  |(refine az (fun h=>?_) (fun h=>?_))
  |(refine cv (fun h=>?_) (fun h=>?_))
  |(refine ap (xs:=cQ) (n:=(i3:Int)) he (by omega) (by omega) ?_;rintro _ ⟨t3,g3,s3,l3,f3,o3,rfl⟩ hs)
  |(refine ap (xs:=cQ) he (by omega) (by omega) ?_;rintro _ ⟨t2,g2,s2,l2,f2,o2,rfl⟩ hs)
  |(refine ap (xs:=sizes) hz (by omega) (by omega) ?_;rintro _ ⟨z,rfl⟩ hsz)
  |(refine ap (xs:=(ag.drop f.toNat).take (o.toNat - f.toNat)) (cI hpy _ _) (by omega) (by omega) ?_;rintro _ ⟨pl,q,rfl⟩ hs)
  |(refine And.intro (show(0:Int)≤f by omega) ?_)
  |(refine And.intro (show(0:Int)≤o by omega) ?_)
  |(refine fz (by omega) (by omega) ?_)
  |(refine And.intro (by kernel_rfl) ?_)
  |(refine pQ rfl rfl (fun h0=>?_);first|(exfalso;omega)|exact agJ ⟨by omega,by omega⟩ ⟨by omega,by omega,by omega⟩ (iw.all (by omega)) hsz (by omega) (hp2.all (by omega)) (P7.all (by omega)))
  |(apply aK [5,85,86,87] [] [87] (RQ (fun e=>¬ (nI 1 e=g∧nI 4 e < o∧f < nI 5 e)) cQ) (cQ.length) [iV .i64 0];(conv=>whnf);exact⟨rfl,rfl,rfl,rfl⟩;exact rfl;exact rfl;exact RQ.zero;rintro _ _ ⟨i3,hi3,P7,rfl,rfl⟩)
  |(refine aq [5,85,86,87] [] ?_;(conv=>whnf);exact⟨rfl,_,[_],RQ.next (by omega) hel P7 hs (fun hc=>by have c1:g3=g:=hc.1;have c2:f3 < o:=hc.2.1;have c3:f < o3:=hc.2.2;first|omega|simp_all),rfl,rfl,rfl,by omega⟩)
  |(apply aK [1,5,73,74,75] [] [75] (RQ (fun e=>nI 0 e=l) ((ag.drop f.toNat).take (o.toNat - f.toNat))) (((ag.drop f.toNat).take (o.toNat - f.toNat)).length) [iV .i64 0];(conv=>whnf);exact⟨rfl,rfl,rfl,rfl⟩;exact rfl;exact rfl;exact RQ.zero;rintro _ _ ⟨i2,EF,hp2,rfl,rfl⟩)
  |(refine aq [1,5,73,74,75] [] ?_;(conv=>whnf);exact⟨rfl,_,[_],RQ.next (by omega) (gU mN _ _) hp2 hs (by assumption),rfl,rfl,rfl,by omega⟩)
  |(apply aK [1,3,5,45,46,47] [] [47] (RQ (fun e=>nI 0 e≠t) cQ) (cQ.length) [iV .i64 0];(conv=>whnf);exact⟨rfl,rfl,rfl,rfl⟩;exact rfl;exact rfl;exact RQ.zero;rintro _ _ ⟨i,hi,iw,rfl,rfl⟩)
  |(refine aq [1,3,5,45,46,47] [] ?_;(conv=>whnf);exact⟨rfl,_,[_],RQ.next (by omega) hel iw hs (by assumption),rfl,rfl,rfl,by omega⟩))
 all_goals (conv=>whnf)
def xA (sizes ag bs:Lz) (i:Nat):Prop:= ∀j e,j < i→bs[j]? =some e→JR sizes ag (bs.take j) e
def RBk (row:List T) (sizes ag bs:Lz) (m:Nat) (vs:List V) (xss:List (Lz)):Prop:= ∃ (i:Nat) (zs:Lz),i≤bs.length∧xA sizes ag bs i∧m=bs.length - i∧vs=[iV .i64 (i:Int)]∧xss=[[row],zs]∧zs.length=sizes.length∧Is zs
theorem Is.set {xs:Lz} (h:Is xs) (j:Nat) (n:Int):Is (xs.set j [tI n]):=by
 intro e he
 rcases List.mem_or_eq_of_mem_set he with he|rfl
 · exact h e he
 · exact⟨n,rfl⟩
theorem Is.Fl (n:Nat) (a:Int):Is (List.replicate n [tI a]):=by
 intro e he
 obtain⟨_,rfl⟩:=List.mem_replicate.1 he
 exact⟨a,rfl⟩
theorem RBk.next {row:List T} {sizes ag bs zs:Lz} {i j:Nat} {e:List T} {n:Int} (hi:(i:Int) < (bs.length:Int)) (hl:bs.length≤maxLen) (h:xA sizes ag bs i) (hs:bs[((i:Int)).toNat]? =some e) (hq:JR sizes ag ((bs.drop 0).take (((i:Int)).toNat - 0)) e) (hz:zs.length=sizes.length) (hZ:Is zs):
 RBk row sizes ag bs (bs.length - (i+1)) [iV .i64 (IntKind.i64.wrap ((i:Int)+1))] [[row],zs.set j [tI n]]:=by
 refine⟨i+1,_,by omega,fun j' e' hj he=>?_,rfl,by simp only[maxLen]at hl;rw[bO (by omega) (by omega)];rfl,rfl,by simp[hz],hZ.set j n⟩
 by_cases fk:j'=i
 · subst fk
   have hs':bs[j']? =some e:=by simpa using hs
   rw[hs']at he
   cases he
   simpa using hq
 · exact h j' e' (by omega) he
def RBn (row:List T) (zs:Lz) (m:Nat) (vs:List V) (xss:List (Lz)):Prop:= ∃i:Nat,i≤zs.length∧m=zs.length - i∧vs=[iV .i64 (i:Int)]∧xss=[[row],zs]
theorem RBn.next {row:List T} {zs:Lz} {i:Nat} (hi:(i:Int) < (zs.length:Int)) (hl:zs.length≤maxLen):RBn row zs (zs.length - (i+1)) [iV .i64 (IntKind.i64.wrap ((i:Int)+1))] [[row],zs]:=
 ⟨i+1,by omega,rfl,by simp only[maxLen]at hl;rw[bO (by omega) (by omega)];rfl,rfl⟩
theorem yW (ln wd rx ry:Int) (sizes places ag bs:Lz) (hz:Is sizes) (sG:sizes.length≤1000000) (hpy:QN ag) (mN:ag.length≤maxLen) (hb:JQ bs) (BK:bs.length≤maxLen):Tg 41 [kF ln wd rx ry sizes places ag,oL 6 bs] (nF (fun n=>n=0→xA sizes ag bs bs.length)):=by
 refine ah (n:=57) (rs:=[.tmp 4]) Tryz.func41 axO avI rfl rfl (by simp) ?_
 repeat' (conv=>whnf
          first
  |(refine az (fun h=>?_) (fun h=>?_))
  |(refine cv (fun h=>?_) (fun h=>?_))
  |(refine And.intro ⟨by omega,by omega,by omega,by omega⟩ ?_)
  |(refine And.intro ⟨(hc (by omega)).g.1,by have:=(hc (by omega)).g.2;simp only[nI]at this;simp at this;omega⟩ ?_)
  |(refine fz (Nat.zero_le _) (by omega) ?_)
  |(refine And.intro ⟨by omega,by omega⟩ ?_)
  |(refine ap (xs:=bs) hb (by omega) (by omega) ?_;rintro _ ⟨t,g,s,l,f,o,rfl⟩ hs)
  |(refine And.intro (by kernel_rfl) ?_)
  |(refine And.intro (by omega) ?_)
  |(refine cg (xs:=zs) rfl hZ (by first|omega|(have h1:=(hc (by omega)).g.1;have h2:=(hc (by omega)).g.2;simp[nI]at h1 h2;omega)) ?_;rintro _ ⟨n,rfl⟩ hs5)
  |(refine au rfl (sj ln wd rx ry sizes places ag _ hz hpy mN (cI hb _ _) (gU BK _ _) t g s l f o) ?_;rintro _ ⟨e,rfl,hc⟩)
  |(refine pQ rfl rfl (fun h0=>?_);first|(exfalso;omega)|(intro j e hj;exact hA j e (by omega)))
  |(apply bc [2,45,46,47] [] [47] [(4,7),(8,1)] (RBn (gh ln wd rx ry sizes places ag) zs) (zs.length) [iV .i64 0];(conv=>whnf);exact⟨rfl,rfl,rfl,rfl⟩;exact rfl;exact rfl;exact .cons (aL.aF (xs:=[gh ln wd rx ry sizes places ag]) rfl _) (.cons (aL.aF (xs:=zs) rfl _) .nil);exact⟨0,by omega,rfl,rfl,rfl⟩;rintro _ _ _ ⟨q,hq,rfl,rfl,rfl⟩)
  |(refine aq [2,45,46,47] [] ?_;(conv=>whnf);exact⟨rfl,_,[_],_, .cons (aL.aF (xs:=[gh ln wd rx ry sizes places ag]) rfl _) (.cons (aL.aF (xs:=zs) rfl _) .nil),RBn.next (by omega) (by simp only[maxLen];omega),rfl,rfl,by omega⟩)
  |(apply bc [1,2,5,16,17,18] [] [18] [(4,7),(8,1)] (RBk (gh ln wd rx ry sizes places ag) sizes ag bs) (bs.length) [iV .i64 0];(conv=>whnf);exact⟨rfl,rfl,rfl,rfl⟩;exact rfl;exact rfl;exact .cons (aL.aF (xs:=[gh ln wd rx ry sizes places ag]) rfl _) (.cons (aL.aF (aL.replicate _ [tI 0]) _) .nil);exact⟨0,_,by omega,fun j e hj=>by omega,rfl,rfl,rfl,by simp,Is.Fl _ _⟩;rintro _ _ _ ⟨i,zs,hi,hA,rfl,rfl,rfl,hzs,hZ⟩)
  |(refine aq [1,2,5,16,17,18] [] ?_;(conv=>whnf);exact⟨rfl,_,[_],_, .cons (aL.aF (xs:=[gh ln wd rx ry sizes places ag]) rfl _) (.cons (aL.aF (aL.set (xs:=zs) rfl _ [tI _]) _) .nil),RBk.next (by omega) BK hA hs (hc (by omega)) hzs hZ,rfl,rfl,by omega⟩))
 all_goals (conv=>whnf)
end Go.aU.Cd
end
section
namespace Go.aU
open Go
open Go.ChangeMaps (setBlock)
variable {P:Program} {M A:Nat→Prop} {ρ:Env} {F:Nat→Prop} {st:St} {a:Act} {w:World}
def isKey (k:Int) (p:Value×C×Nat):Bool:=match p.1 with
 | .int .i64 m=>m==k
 |_=>false
def er (k:Int) (es:cf):cf:=es.filter fun p=> !isKey k p
def NK (es:cf):Prop:=(es.map (·.1)).Nodup
theorem j5 {k:Int} {p:Value×C×Nat}:isKey k p=true↔p.1= .int .i64 k:=by
 unfold isKey
 split
 · rename_i m h
   rw[h]
   simp
 · rename_i h
   simp only[Bool.false_eq_true,false_iff]
   exact fun e=>h k e
theorem C2 {k:Int} {es:cf} (h: ∀p,p∈es→p.1≠ .int .i64 k):er k es=es:=by
 unfold er
 rw[List.filter_eq_self]
 intro p hp
 have:isKey k p=false:=by
  cases hq:isKey k p with
  |false=>rfl
  |true=>exact absurd (j5.1 hq) (h p hp)
 rw[this]
 rfl
theorem GQ {k:Int}: ∀ {es:cf} {i:Nat} {p:Value×C×Nat},NK es→es[i]? =some p→p.1= .int .i64 k→es.eraseIdx i=er k es
 | [],i,p,_,h,_=>by simp at h
 |e::es,0,p,hn,h,hp=>by
  simp only[List.getElem?_cons_zero,Option.some.injEq]at h
  subst h
  have hn':=List.nodup_cons.1 hn
  have h1:isKey k e=true:=j5.2 hp
  have h2:er k es=es:=C2 (fun q hq hqk=>hn'.1 (List.mem_map.2 ⟨q,hq,hqk.trans hp.symm⟩))
  simp only[List.eraseIdx_cons_zero,er,List.filter_cons,h1,Bool.not_true,Bool.false_eq_true,if_false]
  exact h2.symm
 |e::es,i+1,p,hn,h,hp=>by
  have hn':=List.nodup_cons.1 hn
  have hi:es[i]? =some p:=by simpa using h
  have ih:=GQ hn'.2 hi hp
  have h1:isKey k e=false:=by
   cases hq:isKey k e with
   |false=>rfl
   |true=>exact absurd (List.mem_map.2 ⟨p,List.mem_of_getElem? hi,hp.trans (j5.1 hq).symm⟩) hn'.1
  simp only[List.eraseIdx_cons_succ,er,List.filter_cons,h1,Bool.not_false,if_true]
  rw[ih]
  rfl
theorem qE {k:Int} {es:cf} {p:Value×C×Nat} (h:p∈er k es):p∈es∧p.1≠ .int .i64 k:=by
 simp only[er,List.mem_filter,Bool.not_eq_true']at h
 refine⟨h.1,fun e=>?_⟩
 rw[j5.2 e]at h
 simp at h
theorem NK.er {es:cf} (h:NK es) (k:Int):NK (er k es):=List.Nodup.sublist (List.filter_sublist.map _) h
theorem NK.nil:NK []:=by simp[NK]
theorem NK.put {es es':cf} {clock clock':Nat} {kv:Value} {c:C} (h:NK es) (hp:Dj es clock kv c es' clock'):NK es':=by
 rcases hp with⟨i,p,hi,rfl,rfl,_⟩|⟨hne,rfl,_⟩
 · unfold NK
   have:(es.set i (p.1,c,p.2.2)).map (·.1)=es.map (·.1):=by
    apply List.ext_getElem?
    intro j
    simp only[List.getElem?_map,List.getElem?_set]
    by_cases hij:i=j
    · subst hij
      have hlt:i < es.length:=(List.getElem?_eq_some_iff.1 hi).1
      simp[hlt,hi]
      have:=(List.getElem?_eq_some_iff.1 hi)
      obtain⟨_,h2⟩:=this
      rw[h2]
    · simp[hij]
   rw[this]
   exact h
 · unfold NK
   rw[List.map_append,List.nodup_append]
   refine⟨h,by simp,?_⟩
   intro x hx y hy
   simp only[List.mem_map]at hx
   obtain⟨p,hp,rfl⟩:=hx
   simp only[List.map_cons,List.map_nil,List.mem_singleton]at hy
   subst hy
   exact hne p hp
theorem CA {n ctr:Nat} {t t' ty kt et:TypeId} {m k:Operand} {tm:TS} {hp:HS} {id clock:Nat} {es:cf} {kk:Int} (hm:Gt n tm m= .w (.one (.map id))) (hf:find hp id=some (.mp es clock)) (hk:(Gt n tm k).val? =some (.int .i64 kk)) (hu:P.underlying t=some (.map kt et))
 (hK:fP P kt mW) (iF: ∀p,p∈es→mW p.1) (hn:NK es):gQ P n (.call ⟨.builtin .delete, #[m,k], #[t,t']⟩) ty tm hp ctr (.dn []) (iC hp id (.mp (er kk es) clock)):=by
 rintro⟨dst',op',ty',pos',after',guard'⟩ rfl rfl
 intro M A ρ a w hr
 have vm:=hr.get m
 rw[iG,hm]at vm
 have vk:=V.bg hk (by have:=hr.get k;rw[iG]at this;exact this)
 obtain⟨b,en,q1,q2,q3,q4,q5⟩:=fa hr hf vm
 rcases hK.at_ es (.int .i64 kk) es.isEmpty iF ⟨kk,rfl⟩with⟨h3,h4⟩|⟨i,p,h3,h4,h5⟩
 · obtain⟨c1,o2,c2,c3,c4⟩:=cH h3 (eb (id:=id) (clock:=clock) q4 q5) w
   cases o2 with
   |some p=>simp at c3
   |none=>
    have Gi:b < w.heap.size:=by
     rcases Nat.lt_or_ge b w.heap.size with hl|hg
     · exact hl
     · simp[Array.getElem?_eq_none hg]at q3
    have FY:({w with heap:=w.heap.setIfInBounds b (.map en clock)}:World)=w:=by
     have:w.heap.setIfInBounds b (.map en clock)=w.heap:=by
      apply Array.ext_getElem?
      intro i
      by_cases hi:b=i
      · subst hi;simp[Gi,q3];simpa[Gi]using q3.symm
      · rw[Array.getElem?_setIfInBounds_ne hi]
     rw[this]
    have hrun:(execOp a.eval ⟨dst', .call ⟨.builtin .delete, #[m,k], #[t,t']⟩,ty',pos',after',guard'⟩).run P w= .ok (.value (.tuple #[])) w:=by
     simp only[execOp,resolve,invoke,builtin,Builtin.delete_]
     simp[run_underlying hu,q2,ld q3,vk,dz q4,c1,c2,zK _ q3,FY]
    refine⟨_,_,A,ρ, .inl hrun,(hr.sub bX).forget rfl (fun _ _ h=>h) (fun q bl hq=>?_),⟨#[],rfl,rfl,by simp⟩,cz.refl _ _,cC.refl _,bq.refl _ _⟩
    rw[C2 h4]at hq
    simp only[bp]at hq
    split at hq
    · rename_i e
      subst e
      rw[hf]at hq⊢
      exact hq
    · exact hq
 · obtain⟨c1,o2,c2,c3,c4⟩:=cH h3 (eb (id:=id) (clock:=clock) q4 q5) w
   cases o2 with
   |none=>simp at c3
   |some pv=>
    obtain⟨j,v⟩:=pv
    simp only[Option.map_some,Option.some.injEq]at c3
    subst c3
    obtain⟨e',g1,_⟩:=c4 j v rfl
    have hj:j < en.size:=(Array.getElem?_eq_some_iff.1 g1).1
    obtain⟨r1,r2⟩:=Rel.qf (st:=⟨n,tm,hp⟩) (clock':=clock) (es':=es.eraseIdx j) (en':=en.eraseIdxIfInBounds j) hr hf q1 q3
     (by rw[Array.eraseIdxIfInBounds,dif_pos hj,Array.size_eraseIdx,List.length_eraseIdx,if_pos (by omega),q4]) (fun i k' c' n' hi'=>by
     rw[List.getElem?_eraseIdx]at hi'
     have he:(en.eraseIdxIfInBounds j)[i]? =if i < j then en[i]? else en[i+1]? :=by
      rw[Array.eraseIdxIfInBounds,dif_pos hj,Array.getElem?_eraseIdx]
     rw[he]
     split at hi'
     · rename_i hlt;rw[if_pos hlt];exact q5 i k' c' n' hi'
     · rename_i hlt;rw[if_neg hlt];exact q5 (i+1) k' c' n' hi')
    have hrun:(execOp a.eval ⟨dst', .call ⟨.builtin .delete, #[m,k], #[t,t']⟩,ty',pos',after',guard'⟩).run P w= .ok (.value (.tuple #[])) {w with heap:=w.heap.setIfInBounds b (.map (en.eraseIdxIfInBounds j) clock)}:=by
     simp only[execOp,resolve,invoke,builtin,Builtin.delete_]
     simp[run_underlying hu,q2,ld q3,vk,dz q4,c1,c2,zK _ q3]
    rw[GQ hn h4 h5]at r1
    exact⟨_,_,A,ρ, .inl hrun,r1.sub bX,⟨#[],rfl,rfl,by simp⟩,r2,cC.refl _,bq.refl _ _⟩
theorem Q3 {n ctr:Nat} {t t' ty kt et:TypeId} {m k:Operand} {tm:TS} {hp:HS} {id clock:Nat} {es:cf} {kk:Int} {K:V→HS→Prop} (hm:Gt n tm m= .w (.one (.map id))) (hf:find hp id=some (.mp es clock)) (hk:(Gt n tm k).val? =some (.int .i64 kk)) (hu:P.underlying t=some (.map kt et))
 (hK:fP P kt mW) (iF: ∀p,p∈es→mW p.1) (hn:NK es) (h:K (.dn []) (iC hp id (.mp (er kk es) clock))):
 ∃v hp',gQ P n (.call ⟨.builtin .delete, #[m,k], #[t,t']⟩) ty tm hp ctr v hp'∧K v hp':=⟨_,_,CA hm hf hk hu hK iF hn,h⟩
theorem EP {n ctr:Nat} {t ty kt et:TypeId} {m:Operand} {tm:TS} {hp:HS} {id clock:Nat} {es:cf} {K:V→HS→Prop} (hm:Gt n tm m= .w (.one (.map id))) (hf:find hp id=some (.mp es clock)) (hu:P.underlying t=some (.map kt et))
 (h:K (iV .i64 (es.length:Int)) hp): ∃v hp',gQ P n (.call ⟨.builtin .len, #[m], #[t]⟩) ty tm hp ctr v hp'∧K v hp':=by
 refine⟨_,_,?_,h⟩
 rintro⟨dst',op',ty',pos',after',guard'⟩ rfl rfl
 intro M A ρ a w hr
 have vm:=hr.get m
 rw[iG,hm]at vm
 obtain⟨b,en,q1,q2,q3,q4,q5⟩:=fa hr hf vm
 have hrun:(execOp a.eval ⟨dst', .call ⟨.builtin .len, #[m], #[t]⟩,ty',pos',after',guard'⟩).run P w= .ok (.value (goInt en.size)) w:=by
  simp[execOp,resolve,invoke,builtin,Builtin.len_,run_underlying hu,q2,ld q3]
 refine⟨_,w,A,ρ, .inl hrun,hr.sub bX,?_,cz.refl _ _,cC.refl _,bq.refl _ _⟩
 rw[q4]
 exact RV.ofValue w A ρ (goInt es.length)
def ol (M:Nat→Prop) (r:Nat):Nat→Prop:=fun b=>M b∧b≠r
theorem HB.less {id:Nat} {blk:bt} {r:Nat} (h:HB w M A ρ id blk) (hr: ∀b:Nat,ρ id=Option.some (Loc.eM b)→b≠r):HB w (ol M r) A ρ id blk:=by
 cases blk with
 |row sz xs=>
  obtain⟨h1,h2⟩:=h
  refine⟨h1,?_⟩
  rcases h2 with⟨b,c,e,k1,k2,k3⟩|h2
  · exact .inl ⟨b,c,e,k1,⟨k2,hr b k1⟩,k3⟩
  · exact .inr h2
 |mp es clock=>
  obtain⟨b,en,k1,k2,k3⟩:=h
  exact⟨b,en,k1,⟨k2,hr b k1⟩,k3⟩
theorem Rel.iter (h:Rel M A ρ F st a w) (o:Obj):Rel (ol M w.heap.size) (fun b=>A b∨b=w.heap.size) ρ F st a (w.alloc o):=by
 have hk:=lU (A:=A) (w:=w) o
 have hs:=jo (w:=w) o
 refine⟨h.size,h.defers,fun t v hv=>(h.tmps t v hv).keeps hk hs (cC.refl _),fun id blk hf=>?_,h.inj,h.fresh,fun b hb=>?_,fun b hb=>?_,?_⟩
 · have hb:=h.heap id blk hf
   have pP:HB (w.alloc o) M (fun b=>A b∨b=w.heap.size) ρ id blk:=hb.keeps hk hs (cC.refl _) (fun _ h=>Or.inl h) (fun b wV=>RowKit.Below.heap_alloc w _ b (hb.lt wV).1)
   refine pP.less (fun b hb'=>?_)
   have:=(hb.lt hb').1
   omega
 · simp only[World.alloc,Array.size_push]
   rcases hb with hb|hb
   · have:=h.bound b hb;omega
   · omega
 · simp only[World.alloc,Array.size_push]at hb
   exact⟨h.may b (by omega),by omega⟩
 · have hg:wj M (fun b=>A b∨b=w.heap.size) (w.alloc o):=h.dm.CZ (cz.alloc _ _ _) (fun b hb h=>h.elim id (fun e=>by omega))
   exact hg.sub (fun b _ hb=>hb.1) (fun _ h=>h)
theorem nc {r:Nat} {m m':Option Nat} {s s' c c':Nat} {seen seen':Array Nat} (hr:w.heap[r]? =some (.mapIter m s seen c)) (k:Nat):(setBlock w r (.mapIter m' s' seen' c')).shape? k=w.shape? k:=by
 simp only[World.shape?,setBlock]
 by_cases hk:r=k
 · subst hk
   have hlt:r < w.heap.size:=by
    rcases Nat.lt_or_ge r w.heap.size with h|h
    · exact h
    · simp[Array.getElem?_eq_none h]at hr
   have e:(w.heap.setIfInBounds r (.mapIter m' s' seen' c'))[r]? =some (.mapIter m' s' seen' c'):=by simp[hlt]
   rw[e,hr]
 · rw[Array.getElem?_setIfInBounds_ne hk]
theorem Rel.setIter {r:Nat} (h:Rel (ol M r) A ρ F st a w) (hA:A r) {m m':Option Nat} {s s' c c':Nat} {seen seen':Array Nat} (hr:w.heap[r]? =some (.mapIter m s seen c)):
 Rel (ol M r) A ρ F st a (setBlock w r (.mapIter m' s' seen' c')):=by
 have Ai: ∀k,k≠r→(setBlock w r (.mapIter m' s' seen' c')).heap[k]? =w.heap[k]? :=fun k hk=>Array.getElem?_setIfInBounds_ne (fun e=>hk e.symm)
 have hsz:(setBlock w r (.mapIter m' s' seen' c')).heap.size=w.heap.size:=by simp[setBlock]
 have hk:dD A A w (setBlock w r (.mapIter m' s' seen' c')):=⟨by rw[hsz];exact Nat.le_refl _,fun k _ hn=>⟨Ai k (fun e=>hn (e▸hA)),hn⟩⟩
 have hsh: ∀k,k < w.heap.size→(setBlock w r (.mapIter m' s' seen' c')).shape? k=w.shape? k:=fun k _=>nc hr k
 refine⟨h.size,h.defers,fun t v hv=>(h.tmps t v hv).keeps hk hsh (cC.refl _),fun id blk hf=>?_,h.inj,h.fresh,fun b hb=>by rw[hsz];exact h.bound b hb,fun b hb=>h.may b (by rw[hsz]at hb;exact hb),fun g vs hg=>?_⟩
 · have hb:=h.heap id blk hf
   exact hb.keeps hk hsh (cC.refl _) (fun _ h=>h) (fun b wV=>Ai b (hb.lt wV).2.1.2)
 · obtain⟨h1,h2,h3,hb,h4⟩:=h.dm g vs hg
   have hne:g≠r:=fun e=>h3 (e▸hA)
   refine⟨by rw[hsz];exact h1,h2,h3,by rw[Ai g hne];exact hb,fun k v hk=>?_⟩
   obtain⟨h5,h6⟩:=h4 k v hk
   exact⟨by rw[g7 (w:=w) (Ai g hne)];exact h5,h6⟩
theorem cz.setIter {r:Nat} (hM:M r) {m m':Option Nat} {s s' c c':Nat} {seen seen':Array Nat} (hr:w.heap[r]? =some (.mapIter m s seen c)):cz M w (setBlock w r (.mapIter m' s' seen' c')):=
 ⟨rfl,rfl,rfl,by simp[setBlock],fun k _ ho=>Array.getElem?_setIfInBounds_ne (fun e:r=k=>ho (e▸hM)),fun k _=>nc hr k⟩
end Go.aU
end
section
namespace Go.aU
open Go
open Go.ChangeMaps (setBlock)
variable {P:Program} {M A:Nat→Prop} {ρ:Env} {F:Nat→Prop} {st:St} {a:Act} {w:World}
theorem o4 {c:Code} {x y:Rc} (h:ae P c=some (.seq x y)): ∃cx cy,c= .seq cx cy∧ae P cx=some x∧ae P cy=some y:=by
 cases c with
 |seq cx cy=>
  simp only[ae]at h
  split at h
  · rename_i rx ry hx hy
    simp only[Option.some.injEq,Rc.seq.injEq]at h
    obtain⟨rfl,rfl⟩:=h
    exact⟨cx,cy,rfl,hx,hy⟩
  · simp at h
 |region id ops d=>cases d<;>simp only[ae]at h<;>(repeat' split at h)<;>simp at h
 |_=>simp only[ae]at h<;>(repeat' split at h)<;>simp at h
theorem qp {c:Code} {id:Nat} {x:Rc} (h:ae P c=some (.block id x)): ∃cx,c= .block id cx∧ae P cx=some x:=by
 cases c with
 |block id cx=>
  simp only[ae]at h
  split at h
  · rename_i rx hx
    simp only[Option.some.injEq,Rc.block.injEq]at h
    obtain⟨rfl,rfl⟩:=h
    exact⟨cx,rfl,hx⟩
  · simp at h
 |region id ops d=>cases d<;>simp only[ae]at h<;>(repeat' split at h)<;>simp at h
 |_=>simp only[ae]at h<;>(repeat' split at h)<;>simp at h
theorem z7 {c:Code} {x:Rc} (h:ae P c=some (.loop x)): ∃cx,c= .loop cx∧ae P cx=some x:=by
 cases c with
 |loop cx=>
  simp only[ae]at h
  split at h
  · rename_i rx hx
    simp only[Option.some.injEq,Rc.loop.injEq]at h
    subst h
    exact⟨cx,rfl,hx⟩
  · simp at h
 |region id ops d=>cases d<;>simp only[ae]at h<;>(repeat' split at h)<;>simp at h
 |_=>simp only[ae]at h<;>(repeat' split at h)<;>simp at h
theorem z8 {c:Code} {t:Nat} {x y:Rc} (h:ae P c=some (.cond (.t t) x y)): ∃cx cy,c= .cond (.tmp t) cx cy∧ae P cx=some x∧ae P cy=some y:=by
 cases c with
 |cond o cx cy=>
  simp only[ae]at h
  split at h
  · rename_i rx ry hx hy
    simp only[Option.some.injEq,Rc.cond.injEq]at h
    obtain⟨h0,rfl,rfl⟩:=h
    cases o with
    |tmp t'=>
     simp only[cT,cL.t.injEq]at h0
     subst h0
     exact⟨cx,cy,rfl,hx,hy⟩
    |_=>simp[cT]at h0
  · simp at h
 |region id ops d=>cases d<;>simp only[ae]at h<;>(repeat' split at h)<;>simp at h
 |_=>simp only[ae]at h<;>(repeat' split at h)<;>simp at h
theorem FI {c:Code} (h:ae P c=some .skip):c= .skip:=by
 cases c with
 |skip=>rfl
 |region id ops d=>cases d<;>simp only[ae]at h<;>(repeat' split at h)<;>simp at h
 |_=>simp only[ae]at h<;>(repeat' split at h)<;>simp at h
theorem FJ {c:Code} {id:Nat} (h:ae P c=some (.exit id)):c= .exit id:=by
 cases c with
 |exit id'=>simp only[ae,Option.some.injEq,Rc.exit.injEq]at h;rw[h]
 |region id ops d=>cases d<;>simp only[ae]at h<;>(repeat' split at h)<;>simp at h
 |_=>simp only[ae]at h<;>(repeat' split at h)<;>simp at h
theorem kH {c:Code} {l:List fe} (h:ae P c=some (.region l)): ∃id ops,c= .region id ops false∧aM P ops ops.toList=some l:=by
 cases c with
 |region id ops d=>
  cases d with
  |false=>
   simp only[ae]at h
   split at h
   · rename_i l' hl
     simp only[Option.some.injEq,Rc.region.injEq]at h
     subst h
     exact⟨id,ops,rfl,hl⟩
   · simp at h
  |true=>simp only[ae]at h<;>(repeat' split at h)<;>simp at h
 |_=>simp only[ae]at h<;>(repeat' split at h)<;>simp at h
theorem gV {all:Array Oper} {l:List Oper} {d:Option Nat} {x:Ro} {rs:List fe} (h:aM P all l=some (⟨d,none,x⟩::rs)): ∃o l',l=o::l'∧aV P o=some x∧o.dst=d∧o.guard=none∧aM P all l'=some rs:=by
 cases l with
 |nil=>simp[aM]at h
 |cons o l'=>
  simp only[aM]at h
  split at h
  · rename_i x' l2 hx hl
    split at h
    · rename_i hg
      simp only[Option.some.injEq,List.cons.injEq,fe.mk.injEq]at h
      obtain⟨⟨rfl,_,rfl⟩,rfl⟩:=h
      exact⟨o,l',rfl,hx,rfl,hg,hl⟩
    · split at h
      · simp at h
      · simp at h
  · simp at h
theorem o5 {all:Array Oper} {l:List Oper} (h:aM P all l=some []):l=[]:=by
 cases l with
 |nil=>rfl
 |cons o l'=>
  simp only[aM]at h
  split at h
  · split at h
    · simp at h
    · split at h<;>simp at h
  · simp at h
theorem fG {ops:Array Oper} {i n ctr:Nat} {rest:List Nat} {o:Oper} {tm:TS} {hp hp':HS} {v:V} {Q:Exit→Act→World→Prop} (hi:ops[i]? =some o) (hg:o.guard=none) (hd: ∀d,o.dst=some d→d < n) (hrun:pJ P o n tm hp ctr v hp')
 (hr:Rel M A ρ (aZ ctr) ⟨n,tm,hp⟩ a w) (hk: ∀A' ρ' a' w',Rel M A' ρ' (aZ (ctr+4)) ⟨n,cN tm o.dst v,hp'⟩ a' w'→cz M w w'→cC ρ ρ'→bq A A' w→wpOps P ops Q rest a' w'):wpOps P ops Q (i::rest) a w:=by
 rw[wpOps_cons]
 unfold wpOp
 have hw:Region.wanted o (yielded ops a.tmps)=true:=by simp[Region.wanted,hg]
 simp only[hi,hw,if_true]
 refine .inl ?_
 obtain⟨x,w',A',ρ',Af,r1,r2,r3,r4,r5⟩:=hrun M A ρ a w hr
 have r6:=r1.put (dst:=o.dst) r2 hd
 rw[eB]at r6
 rcases Af with Af|⟨Af,rfl⟩
 · simp only[Oper.wp,Af,Oper.upon]
   exact hk _ _ _ _ r6 r3 r4 r5
 · simp only[Oper.wp,Af,Oper.upon]
   exact hk _ _ _ _ r6 r3 r4 r5
theorem mz {ops:Array Oper} {i:Nat} {rest:List Nat} {o:Oper} {x:Value} {w':World} {Q:Exit→Act→World→Prop} (hi:ops[i]? =some o) (hg:o.guard=none) (hrun:(execOp a.eval o).run P w= .ok (.value x) w')
 (hk:wpOps P ops Q rest (a.put o.dst x) w'):wpOps P ops Q (i::rest) a w:=by
 rw[wpOps_cons]
 unfold wpOp
 have hw:Region.wanted o (yielded ops a.tmps)=true:=by simp[Region.wanted,hg]
 simp only[hi,hw,if_true]
 refine .inl ?_
 simp only[Oper.wp,hrun,Oper.upon]
 exact hk
theorem iW {o:Oper} {x:Ro} {n ctr:Nat} {tm:TS} {hp hp':HS} {v:V} (hx:aV P o=some x) (h:XR x tm hp ctr (fun v2 hp2=>v2=v∧hp2=hp')):pJ P o n tm hp ctr v hp':=by
 obtain⟨_,v',hp2,he,rfl,rfl⟩:=pG (st:=⟨n,tm,hp⟩) hx h
 exact iK he
theorem DO {o:Oper} {op:Op} {ty:TypeId} {n ctr:Nat} {tm:TS} {hp hp':HS} {v:V} (hx:aV P o=some (.raw op ty)) (h:gQ P n op ty tm hp ctr v hp'):pJ P o n tm hp ctr v hp':=by
 obtain⟨rfl,rfl⟩:=dK hx
 exact h o rfl rfl
end Go.aU
end
section
namespace Go.aU
open Go
open Go.ChangeMaps (setBlock)
variable {P:Program} {M A:Nat→Prop} {ρ:Env} {F:Nat→Prop} {st:St} {a:Act} {w:World}
def isM (q:Nat):C→Bool
 | .map id=>id==q
 |_=>false
theorem CI {q:Nat} {c:C}:isM q c=true↔c= .map q:=by
 cases c<;>simp[isM]
def Sn (es:cf) (seen:Array Nat) (q:Nat):Bool:=es.any fun p=>seen.contains p.2.2&&isM q p.2.1
def Sa (es:cf) (q:Nat):Bool:=es.any fun p=>isM q p.2.1
def erB (k:Int):bt→bt
 | .mp e c=> .mp (er k e) c
 |b=>b
def hE (S:Nat→Bool) (k:Int) (hp:HS):HS:=hp.map fun q=>(q.1,if S q.1 then erB k q.2 else q.2)
theorem gY {S:Nat→Bool} {k:Int}: ∀ {hp:HS} (q:Nat),find (hE S k hp) q=(find hp q).map fun b=>if S q then erB k b else b
 | [],q=>rfl
 |(i,b)::r,q=>by
  show find ((i,if S i then erB k b else b)::hE S k r) q=_
  rw[aj,aj]
  split
  · rename_i e
    subst e
    rfl
  · exact gY q
theorem oh {es:cf} {seen:Array Nat} {q:Nat}:Sn es seen q=true↔ ∃p,p∈es∧seen.contains p.2.2=true∧p.2.1= .map q:=by
 simp only[Sn,List.any_eq_true,Bool.and_eq_true,CI]
theorem B3 {es:cf} {q:Nat}:Sa es q=true↔ ∃p,p∈es∧p.2.1= .map q:=by
 simp only[Sa,List.any_eq_true,CI]
structure Ho (es:cf) (ck o:Nat) (hp:HS):Prop where
 out:find hp o=some (.mp es ck)
 CJ: ∀p,p∈es→mW p.1∧p.2.2 < ck∧ ∃id ei ci,p.2.1= .map id∧id≠o∧find hp id=some (.mp ei ci)∧NK ei∧ ∀x,x∈ei→mW x.1
 born:(es.map (·.2.2)).Nodup
 El: ∀ (p q:Value×C×Nat) (id:Nat),p∈es→q∈es→p.2.1= .map id→q.2.1= .map id→p.2.2=q.2.2
abbrev Bp:Rc:= .seq (.region [⟨some 68,none, .raw (.next (.tmp 67) false) 0⟩,⟨some 69,none, .extract (.t 68) 0⟩])
 (.seq (.cond (.t 69) .skip (.exit 8)) (.block 9 (.seq (.region [⟨some 70,none, .raw (.entry (.tmp 67)) 0⟩,⟨some 71,none, .extract (.t 70) 1⟩,⟨some 14,none, .hY (.t 71)⟩])
   (.region [⟨some 72,none, .hY (.t 14)⟩,⟨some 73,none, .hY (.t 10)⟩,⟨none,none, .raw (.call ⟨.builtin .delete, #[(.tmp 72),(.tmp 73)], #[216,3]⟩) 0⟩]))))
abbrev DY (r:Nat):V:= .w (.one (.t (.val (.pointer (some ⟨r,0,none⟩)))))
def QG (es:cf) (seen:Array Nat):Nat:=(es.filter fun p=> !seen.contains p.2.2).length
theorem G2 {es:cf} {seen:Array Nat} {p:Value×C×Nat} (hp:p∈es) (hs:seen.contains p.2.2=false):QG es (seen.push p.2.2) < QG es seen:=
 filter_lt (fun x:Value×C×Nat=> !seen.contains x.2.2) (fun x=> !(seen.push p.2.2).contains x.2.2) (fun x hx=>by
  rw[contains_push]at hx
  cases hc:seen.contains x.2.2 with
  |false=>rfl
  |true=>rw[hc,Bool.true_or]at hx;exact absurd hx (by decide)) p (by rw[hs];rfl) (by rw[contains_push,beq_self_eq_true,Bool.or_true];rfl) es hp
theorem GY {es:cf} {en:Array MapEntry} (hs:en.size=es.length) (h: ∀ (i:Nat) (k:Value) (c:C) (n:Nat),es[i]? =some (k,c,n)→ ∃e,en[i]? =some e∧e.key=k∧e.born=n∧RC w A ρ c e.val∧bC e.val=true)
 {e:MapEntry} (he:e∈en.toList): ∃ (i:Nat) (p:Value×C×Nat),es[i]? =some p∧en[i]? =some e∧e.key=p.1∧e.born=p.2.2∧RC w A ρ p.2.1 e.val∧bC e.val=true:=by
 obtain⟨i,hi,hie⟩:=List.getElem_of_mem he
 have hi':i < en.size:=by simpa using hi
 have yA:i < es.length:=by omega
 have hp:es[i]? =some es[i]:=by simp[yA]
 obtain⟨e',h1,h2,h3,h4,h5⟩:=h i es[i].1 es[i].2.1 es[i].2.2 hp
 have:en[i]? =some e:=by simp[hi'];simpa using hie
 rw[this]at h1
 simp only[Option.some.injEq]at h1
 subst h1
 exact⟨i,es[i],hp,this,h2,h3,h4,h5⟩
theorem Jn {es:cf} {en:Array MapEntry} (hs:en.size=es.length) (h: ∀ (i:Nat) (k:Value) (c:C) (n:Nat),es[i]? =some (k,c,n)→ ∃e,en[i]? =some e∧e.key=k∧e.born=n∧RC w A ρ c e.val∧bC e.val=true):en.toList.map (·.born)=es.map (·.2.2):=by
 apply List.ext_getElem?
 intro i
 simp only[List.getElem?_map,Array.getElem?_toList]
 cases he:es[i]? with
 |none=>
  have:en[i]? =none:=by
   rw[Array.getElem?_eq_none_iff,hs]
   exact List.getElem?_eq_none_iff.1 he
  rw[this]
  rfl
 |some p=>
  obtain⟨e,h1,_,h3,_⟩:=h i p.1 p.2.1 p.2.2 he
  rw[h1]
  simp only[Option.map_some,h3]
theorem wO {α β:Type} {f:α→β}: ∀ {l:List α},(l.map f).Nodup→ ∀ {x y:α},x∈l→y∈l→f x=f y→x=y
 | [],_,x,y,hx,_,_=>by simp at hx
 |z::l,hn,x,y,hx,hy,he=>by
  have hn':=List.nodup_cons.1 hn
  rcases List.mem_cons.1 hx with h1|h1<;>rcases List.mem_cons.1 hy with h2|h2
  · rw[h1,h2]
  · exact absurd (List.mem_map.2 ⟨y,h2,by rw[←he,h1]⟩) hn'.1
  · exact absurd (List.mem_map.2 ⟨x,h1,by rw[he,h2]⟩) hn'.1
  · exact wO hn'.2 h1 h2 he
theorem aR {α:Type} {k:Nat} {v:α} {r:List (Nat×α)} {t:Nat} (h:k≠t):find ((k,v)::r) t=find r t:=by
 rw[aj,if_neg h]
theorem zJ {cb:Code} (hcb:ae P cb=some Bp) {kt et:TypeId} (FR:P.underlying 216=some (.map kt et)) (hK:fP P kt mW) {es:cf} {ck o r b:Nat} {kk:Int} {hp:HS} {tm:TS} (hok:Ho es ck o hp)
 (I0:find tm 10=some (iV .i64 kk)) (hfr: ∀t v,find tm t=some v→t≠14∧(t < 66∨73 < t)) {seen:Array Nat} {last ctr:Nat}
 (bL:Rel (ol M r) A ρ (aZ ctr) ⟨79,(67,DY r)::tm,hE (Sn es seen) kk hp⟩ a w) (hA:A r) (hM:M r) (hit:w.heap[r]? =some (.mapIter (some b) ck seen last)) (vq:ck≤last) (hρ:ρ o=some (.eM b)):
 cb.wp P (fun e a' w'=> ∃A' ρ',cz M w w'∧cC ρ ρ'∧bq A A' w∧
  ((e= .exit 8∧Rel (ol M r) A' ρ' (aZ (ctr+40)) ⟨79,tm,hE (Sa es) kk hp⟩ a' w')∨
   (e= .normal∧ ∃n last',QG es (seen.push n) < QG es seen∧Rel (ol M r) A' ρ' (aZ (ctr+40)) ⟨79,(67,DY r)::tm,hE (Sn es (seen.push n)) kk hp⟩ a' w'∧w'.heap[r]? =some (.mapIter (some b) ck (seen.push n) last')∧ck≤last'))) a w:=by
 obtain⟨c1,cr,rfl,D7,hcr⟩:=o4 hcb
 obtain⟨c2,c9,rfl,Gh,hc9⟩:=o4 hcr
 obtain⟨cs,cx,rfl,hcs,hcx⟩:=z8 Gh
 obtain⟨c10,rfl,arR⟩:=qp hc9
 obtain⟨c3,c4,rfl,Tm,hc4⟩:=o4 arR
 obtain rfl:=FI hcs
 obtain rfl:=FJ hcx
 obtain⟨i1,Fx,rfl,EE⟩:=kH D7
 obtain⟨i2,RK,rfl,Oe⟩:=kH Tm
 obtain⟨i3,RJ,rfl,IJ⟩:=kH hc4
 obtain⟨Ii,l1,e1,x68,d68,g68,EE⟩:=gV EE
 obtain⟨NL,l1',rfl,x69,d69,g69,EE⟩:=gV EE
 obtain rfl:=o5 EE
 obtain⟨P0,l2,e2,x70,d70,g70,Oe⟩:=gV Oe
 obtain⟨p71,l2',rfl,x71,d71,g71,Oe⟩:=gV Oe
 obtain⟨p14,aFL,rfl,x14,d14,g14,Oe⟩:=gV Oe
 obtain rfl:=o5 Oe
 obtain⟨p72,l3,e3,x72,d72,g72,IJ⟩:=gV IJ
 obtain⟨p73,l3',rfl,x73,d73,g73,IJ⟩:=gV IJ
 obtain⟨pd,aFK,rfl,xd,dd,gd,IJ⟩:=gV IJ
 obtain rfl:=o5 IJ
 have F3:Fx= #[Ii,NL]:=by rw[←Array.toArray_toList (xs:=Fx),e1]
 have SL:RK= #[P0,p71,p14]:=by rw[←Array.toArray_toList (xs:=RK),e2]
 have SK:RJ= #[p72,p73,pd]:=by rw[←Array.toArray_toList (xs:=RJ),e3]
 subst F3
 subst SL
 subst SK
 have hSo: ∀seen',Sn es seen' o=false:=by
  intro seen'
  cases hq:Sn es seen' o with
  |false=>rfl
  |true=>
   obtain⟨p,iw,_,hp2⟩:=oh.1 hq
   obtain⟨_,_,id,_,_,h3,h4,_⟩:=hok.CJ p iw
   rw[h3]at hp2
   exact absurd (C.map.inj hp2) h4
 have hfo: ∀seen',find (hE (Sn es seen') kk hp) o=some (.mp es ck):=fun seen'=>by rw[gY,hok.out,hSo seen'];rfl
 obtain⟨b',en,q1,q2,q3,q4,q5,q6⟩:=bL.heap o (.mp es ck) (hfo seen)
 rw[hρ]at q1
 simp only[Option.some.injEq,Loc.eM.injEq]at q1
 subst q1
 have hold: ∀x∈en.toList,x.born < ck:=by
  intro x hx
  obtain⟨i,p,h1,_,_,h4,_⟩:=GY q5 q6 hx
  rw[h4]
  exact(hok.CJ p (List.mem_of_getElem? h1)).2.1
 have apV:a.eval (.tmp 67)= .pointer (some ⟨r,0,none⟩):=by
  have:=bL.tmps 67 (DY r) (by rw[aj,if_pos rfl])
  exact V.bg (u:=DY r) rfl this
 obtain⟨SN,Kf⟩:=dK x68
 obtain⟨SM,Ke⟩:=dK x70
 have Ku:(execOp a.eval Ii).run P w=(Bind.bind (Instr.next (.pointer (some ⟨r,0,none⟩)) false 0) fun v=>Pure.pure (Next.value v):Sem Next).run P w:=by
  obtain⟨ds,op,ty,ps,af,gu⟩:=Ii
  simp only at SN Kf
  subst SN
  subst Kf
  simp only[execOp,apV]
 have hlt:r < w.heap.size:=bL.bound r hA
 rcases run_next_at (P:=P) w 0 r b ck last seen en ck hit q4 hold vq with⟨hz,hrun⟩|⟨e,he,w1,zg,hrun⟩
 ·
  have ef: ∀p,p∈es→seen.contains p.2.2=true:=by
   intro p hp
   obtain⟨i,hi,hip⟩:=List.getElem_of_mem hp
   have hpi:es[i]? =some p:=by simp[hi,hip]
   obtain⟨e,h1,_,h3,_⟩:=q6 i p.1 p.2.1 p.2.2 hpi
   have:=all_seen en seen hz e (by rw[Array.mem_toList_iff];exact Array.mem_of_getElem? h1)
   rw[h3]at this
   exact this
  refine wp_seq (wp_region ?_)
  show wpOps P #[Ii,NL] _ [0,1] a w
  refine mz (i:=0) (o:=Ii) rfl g68 (x:= .tuple #[.bool false]) (w':=w) (by rw[Ku,Sem.run_bind,hrun];rfl) ?_
  rw[d68]
  have r1:=bL.put (dst:=Ii.dst) (v:= .dn [.one (.t (.val (.bool false)))]) (x:= .tuple #[.bool false]) ⟨#[.bool false],rfl,rfl,fun k u x hu hx=>by
   cases k with
   |zero=>
    simp only[List.getElem?_cons_zero,Option.some.injEq]at hu
    simp at hx
    subst hu
    subst hx
    exact⟨RT.val rfl,rfl⟩
   |succ k=>simp at hu⟩ (fun d hd=>by rw[d68]at hd;simp only[Option.some.injEq]at hd;subst hd;exact(by decide:(68:Nat) < 79))
  rw[eB,d68]at r1
  have h69:pJ P NL 79 (cN ((67,DY r)::tm) (some 68) (.dn [.one (.t (.val (.bool false)))])) (hE (Sn es seen) kk hp) ctr (bV false) (hE (Sn es seen) kk hp):=iW x69 ⟨rfl,rfl⟩
  refine fG (i:=1) (o:=NL) rfl g69 (fun d hd=>by rw[d69]at hd;simp only[Option.some.injEq]at hd;subst hd;exact(by decide:(69:Nat) < 79)) h69 r1 ?_
  intro A1 ρ1 a1 w1 r2 v2 x2 gr2
  rw[d69]at r2
  show Exit.then _ _ .normal a1 w1
  refine wp_seq ?_
  refine wp_cond_false ?_ ?_
  · exact V.gM (v:=bV false) rfl (r2.tmps 69 (bV false) (by simp[cN,aj]))
  · refine wp_exit ?_
    show ∃A' ρ',_
    refine⟨A1,ρ1,v2.weaken (fun i _ h=>h.1),x2,gr2, .inl ⟨rfl,Rel.sub (F:=aZ (ctr+4)) (Rel.forget (st':=⟨79,tm,hE (Sa es) kk hp⟩) r2 rfl (fun t v hv=>?_) (fun q bl hq=>?_)) (fun id h=>Nat.le_trans (by omega:ctr+4≤ctr+40) h)⟩⟩
    · obtain⟨n1,n2⟩:=hfr t v hv
      simp only[cN]
      rw[aR (by omega),aR (by omega),aR (by omega)]
      exact hv
    · rw[gY]at hq⊢
      have:Sn es seen q=Sa es q:=by
       rw[Bool.eq_iff_iff,oh,B3]
       exact⟨fun⟨p,h1,_,h3⟩=>⟨p,h1,h3⟩,fun⟨p,h1,h3⟩=>⟨p,h1,ef p h1,h3⟩⟩
      rw[this]
      exact hq
 ·
  obtain⟨he1,Qv⟩:=mem_left he
  obtain⟨i,pe,hpi,Th,hkey,wU,hval,hcell⟩:=GY q5 q6 he1
  have F2:=List.mem_of_getElem? hpi
  obtain⟨nt,aqJ,id,ei,ci,yx,S4,Ov,hnk,aqR⟩:=hok.CJ pe F2
  have IK:w1.heap[r]? =some (.mapIter (some b) ck seen last):=by rcases zg with rfl|rfl<;>exact hit
  have SF:Rel (ol M r) A ρ (aZ ctr) ⟨79,(67,DY r)::tm,hE (Sn es seen) kk hp⟩ a w1:=by rcases zg with rfl|rfl;exact bL;exact bL.drew
  have arE:cz M w w1:=by rcases zg with rfl|rfl;exact cz.refl _ _;exact cz.drew M w
  have Sv:w1.heap.size=w.heap.size:=by rcases zg with rfl|rfl<;>rfl
  have Kj:=SF.setIter (m':=some b) (s':=ck) (c':=ck) (seen':=seen.push e.born) hA IK
  have Td:cz M w1 (setBlock w1 r (.mapIter (some b) ck (seen.push e.born) ck)):=cz.setIter hM IK
  have S0:(setBlock w1 r (.mapIter (some b) ck (seen.push e.born) ck)).heap[r]? =some (.mapIter (some b) ck (seen.push e.born) ck):=by
   have:r < w1.heap.size:=by rw[Sv];exact hlt
   simp[setBlock,this]
  have yq:(setBlock w1 r (.mapIter (some b) ck (seen.push e.born) ck)).heap.size=w.heap.size:=by simp[setBlock,Sv]
  generalize Sj:setBlock w1 r (.mapIter (some b) ck (seen.push e.born) ck)=w2 at hrun Kj Td S0 yq
  refine wp_seq (wp_region ?_)
  show wpOps P #[Ii,NL] _ [0,1] a w
  refine mz (i:=0) (o:=Ii) rfl g68 (x:= .tuple #[.bool true,e.key,e.val]) (w':=w2) (by rw[Ku,Sem.run_bind,hrun];rfl) ?_
  rw[d68]
  have hkc:bC e.key=true:=by
   obtain⟨n,hn⟩:=nt
   rw[hkey,hn]
   rfl
  have r1:=Kj.put (dst:=Ii.dst) (v:= .dn [.one (.t (.val (.bool true))), .one .any, .one .any]) (x:= .tuple #[.bool true,e.key,e.val]) ⟨#[.bool true,e.key,e.val],rfl,rfl,fun k u x hu hx=>by
   match k with
   |0=>
    simp at hu hx
    subst hu
    subst hx
    exact⟨RT.val rfl,rfl⟩
   |1=>
    simp at hu hx
    subst hu
    subst hx
    exact⟨trivial,hkc⟩
   |2=>
    simp at hu hx
    subst hu
    subst hx
    exact⟨trivial,hcell⟩
   |k+3=>simp at hu⟩ (fun d hd=>by rw[d68]at hd;simp only[Option.some.injEq]at hd;subst hd;exact(by decide:(68:Nat) < 79))
  rw[eB,d68]at r1
  have h69:pJ P NL 79 (cN ((67,DY r)::tm) (some 68) (.dn [.one (.t (.val (.bool true))), .one .any, .one .any])) (hE (Sn es seen) kk hp) ctr (bV true) (hE (Sn es seen) kk hp):=iW x69 ⟨rfl,rfl⟩
  refine fG (i:=1) (o:=NL) rfl g69 (fun d hd=>by rw[d69]at hd;simp only[Option.some.injEq]at hd;subst hd;exact(by decide:(69:Nat) < 79)) h69 r1 ?_
  intro A3 ρ3 a3 w3 r3 v3 x3 gr3
  rw[d69]at r3
  show Exit.then _ _ .normal a3 w3
  refine wp_seq (wp_cond_true ?_ (wp_skip ?_))
  · exact V.gM (v:=bV true) rfl (r3.tmps 69 (bV true) (by simp[cN,aj]))
  show Exit.then _ _ .normal a3 w3
  refine wp_block (wp_seq (wp_region ?_))
  show wpOps P #[P0,p71,p14] _ [0,1,2] a3 w3
  have SZ:w3.heap[r]? =some (.mapIter (some b) ck (seen.push e.born) ck):=by
   rw[v3.block r (by rw[yq];exact hlt) (fun h=>h.2 rfl)]
   exact S0
  obtain⟨b3,en3,z1,z2,z3,z4,z5,z6⟩:=r3.heap o (.mp es ck) (hfo seen)
  rw[x3 o _ hρ]at z1
  simp only[Option.some.injEq,Loc.eM.injEq]at z1
  subst z1
  obtain⟨e4,y1,y2,y3,y4,y5⟩:=z6 i pe.1 pe.2.1 pe.2.2 hpi
  have SH:a3.eval (.tmp 67)= .pointer (some ⟨r,0,none⟩):=by
   have:=r3.tmps 67 (DY r) (by simp[cN,aj])
   exact V.bg (u:=DY r) rfl this
  have SC:=run_entry_at (P:=P) w3 r b ck seen en3 ck e4 (by rw[SZ,wU,y3]) z4 (by rw[Array.mem_toList_iff];exact Array.mem_of_getElem? y1) (by rw[Jn z5 z6];exact hok.born)
  have Tb:(execOp a3.eval P0).run P w3= .ok (.value (.tuple #[e4.key,e4.val])) w3:=by
   obtain⟨ds,op,ty,ps,af,gu⟩:=P0
   simp only at SM Ke
   subst SM
   subst Ke
   simp only[execOp,SH,Sem.run_bind,SC]
   rfl
  refine mz (i:=0) (o:=P0) rfl g70 Tb ?_
  rw[d70]
  have aqS:bC e4.key=true:=by
   obtain⟨n,hn⟩:=nt
   rw[y2,hn]
   rfl
  rw[yx]at y4
  have r4:=r3.put (dst:=P0.dst) (v:= .dn [.one .any, .one (.map id)]) (x:= .tuple #[e4.key,e4.val]) ⟨#[e4.key,e4.val],rfl,rfl,fun k u x hu hx=>by
   match k with
   |0=>
    simp at hu hx
    subst hu
    subst hx
    exact⟨trivial,aqS⟩
   |1=>
    simp at hu hx
    subst hu
    subst hx
    exact⟨y4,y5⟩
   |k+2=>simp at hu⟩ (fun d hd=>by rw[d70]at hd;simp only[Option.some.injEq]at hd;subst hd;exact(by decide:(70:Nat) < 79))
  rw[eB,d70]at r4
  refine fG (i:=1) (o:=p71) rfl g71 (fun d hd=>by rw[d71]at hd;simp only[Option.some.injEq]at hd;subst hd;exact(by decide:(71:Nat) < 79)) (iW (v:= .w (.one (.map id))) (hp':=hE (Sn es seen) kk hp) x71 (by exact⟨rfl,rfl⟩)) r4 ?_
  intro A5 ρ5 a5 w5 r5 v5 x5 gr5
  rw[d71]at r5
  refine fG (i:=2) (o:=p14) rfl g14 (fun d hd=>by rw[d14]at hd;simp only[Option.some.injEq]at hd;subst hd;exact(by decide:(14:Nat) < 79)) (iW (v:= .w (.one (.map id))) (hp':=hE (Sn es seen) kk hp) x14 (by exact⟨rfl,rfl⟩)) r5 ?_
  intro A6 ρ6 a6 w6 r6 v6 x6 gr6
  rw[d14]at r6
  show Exit.then _ _ .normal a6 w6
  refine wp_region ?_
  show wpOps P #[p72,p73,pd] _ [0,1,2] a6 w6
  refine fG (i:=0) (o:=p72) rfl g72 (fun d hd=>by rw[d72]at hd;simp only[Option.some.injEq]at hd;subst hd;exact(by decide:(72:Nat) < 79)) (iW (v:= .w (.one (.map id))) (hp':=hE (Sn es seen) kk hp) x72 (by exact⟨rfl,rfl⟩)) r6 ?_
  intro A7 ρ7 a7 w7 r7 v7 x7 gr7
  rw[d72]at r7
  refine fG (i:=1) (o:=p73) rfl g73 (fun d hd=>by rw[d73]at hd;simp only[Option.some.injEq]at hd;subst hd;exact(by decide:(73:Nat) < 79)) (iW (v:=iV .i64 kk) (hp':=hE (Sn es seen) kk hp) x73 (by
   simp only[XR,cl]
   exact⟨by simp[cL.get,cN,aj,I0],trivial⟩)) r7 ?_
  intro A8 ρ8 a8 w8 r8 v8 x8 gr8
  rw[d73]at r8
  have Tq:Sn es seen id=false:=by
   cases hq:Sn es seen id with
   |false=>rfl
   |true=>
    obtain⟨p2,h1,h2,h3⟩:=oh.1 hq
    have:=hok.El p2 pe id h1 F2 h3 yx
    rw[this, ←wU,Qv]at h2
    simp at h2
  have HC:find (hE (Sn es seen) kk hp) id=some (.mp ei ci):=by rw[gY,Ov,Tq];rfl
  refine fG (i:=2) (o:=pd) rfl gd (fun d hd=>by rw[dd]at hd;simp at hd) (DO xd (CA (id:=id) (es:=ei) (clock:=ci) (kk:=kk) rfl HC rfl FR hK aqR hnk)) r8 ?_
  intro A9 ρ9 a9 w9 r9 v9 x9 gr9
  rw[dd]at r9
  show ∃A' ρ',_
  have s2:w.heap.size≤w2.heap.size:=by rw[yq];exact Nat.le_refl _
  have s3:=Nat.le_trans s2 v3.size
  have s5:=Nat.le_trans s3 v5.size
  have s6:=Nat.le_trans s5 v6.size
  have s7:=Nat.le_trans s6 v7.size
  have s8:=Nat.le_trans s7 v8.size
  have evL:cz (ol M r) w3 w9:=v5.trans (v6.trans (v7.trans (v8.trans v9)))
  have wk: ∀ {x y:World},cz (ol M r) x y→cz M x y:=fun h=>h.weaken (fun i _ h=>h.1)
  refine⟨A9,ρ9,arE.trans (Td.trans ((wk v3).trans (wk evL))),x3.trans (x5.trans (x6.trans (x7.trans (x8.trans x9)))),?_, .inr ⟨rfl,e.born,ck,?_,?_,?_,Nat.le_refl _⟩⟩
  · have g3:bq A A3 w:=⟨gr3.1,fun b hb=>gr3.2 b (by rw[yq];exact hb)⟩
    exact((((g3.trans gr5 s3).trans gr6 s5).trans gr7 s6).trans gr8 s7).trans gr9 s8
  · rw[wU]
    exact G2 F2 (by rw[←wU];exact Qv)
  · refine Rel.sub (F:=aZ (ctr+4+4+4+4+4+4)) (Rel.forget (st':=⟨79,(67,DY r)::tm,hE (Sn es (seen.push e.born)) kk hp⟩) r9 rfl (fun t v hv=>?_) (fun q bl hq=>?_)) (fun id h=>Nat.le_trans (by omega:ctr+4+4+4+4+4+4≤ctr+40) h)
    · simp only[cN]
      rw[aj]at hv
      split at hv
      · rename_i e
        subst e
        simpa[aj]using hv
      · obtain⟨n1,n2⟩:=hfr t v hv
        rw[aR (by omega),aR (by omega),aR (by omega),aR (by omega),aR (by omega),aR (by omega),aR (by omega),aR (by omega)]
        exact hv
    · rw[gY]at hq
      simp only[bp,gY]
      have hSn: ∀q,q≠id→Sn es (seen.push e.born) q=Sn es seen q:=by
       intro q hne
       rw[Bool.eq_iff_iff,oh,oh]
       constructor
       · rintro⟨p2,h1,h2,h3⟩
         rw[contains_push,Bool.or_eq_true]at h2
         rcases h2 with h2|h2
         · exact⟨p2,h1,h2,h3⟩
         · exfalso
           have pP:p2.2.2=pe.2.2:=by rw[beq_iff_eq]at h2;rw[h2,wU]
           have hpp:=wO hok.born h1 F2 pP
           subst hpp
           rw[yx]at h3
           exact hne (C.map.inj h3).symm
       · rintro⟨p2,h1,h2,h3⟩
         exact⟨p2,h1,by rw[contains_push,h2,Bool.true_or],h3⟩
      by_cases hqi:q=id
      · subst hqi
        have:Sn es (seen.push e.born) q=true:=oh.2 ⟨pe,F2,by rw[contains_push,wU,beq_self_eq_true,Bool.or_true],yx⟩
        rw[this,Ov]at hq
        rw[if_pos rfl,Ov,Tq]
        exact hq
      · rw[if_neg hqi, ←hSn q hqi]
        exact hq
  · rw[evL.block r (Nat.lt_of_lt_of_le hlt s3) (fun h=>h.2 rfl)]
    exact SZ
end Go.aU
end
section
namespace Go.aU
open Go
open Go.ChangeMaps (setBlock)
variable {P:Program} {M A:Nat→Prop} {ρ:Env} {F:Nat→Prop} {st:St} {a:Act} {w:World}
theorem Bq {cb:Code} (hcb:ae P cb=some Bp) {kt et:TypeId} (FR:P.underlying 216=some (.map kt et)) (hK:fP P kt mW) {es:cf} {ck o r b:Nat} {kk:Int} {hp:HS} {tm:TS} (hok:Ho es ck o hp)
 (I0:find tm 10=some (iV .i64 kk)) (hfr: ∀t v,find tm t=some v→t≠14∧(t < 66∨73 < t)) (hM:M r): ∀ (m:Nat) (seen:Array Nat) (last ctr:Nat) (A:Nat→Prop) (ρ:Env) (a:Act) (w:World),QG es seen=m→
 Rel (ol M r) A ρ (aZ ctr) ⟨79,(67,DY r)::tm,hE (Sn es seen) kk hp⟩ a w→A r→w.heap[r]? =some (.mapIter (some b) ck seen last)→ck≤last→ρ o=some (.eM b)→ ∀ (bf:Frame) (k:List Item) (cs:List Frame),
 ∃a' w' A' ρ',cz M w w'∧cC ρ ρ'∧bq A A' w∧Rel (ol M r) A' ρ' (aZ (ctr+40 * (m+1))) ⟨79,tm,hE (Sa es) kk hp⟩ a' w'∧Arrives P (lone (bf.at a (.code cb:: .inLoop cb::k)) cs w) bf k cs (.exit 8) a' w':=by
 intro m
 induction m using Nat.strongRecOn with
 |_ m ih=>
  intro seen last ctr A ρ a w hm bL hA hit vq hρ bf k cs
  obtain⟨e,a1,w1,⟨A1,ρ1,v1,x1,g1,h1⟩,eG⟩:=zJ hcb FR hK hok I0 hfr bL hA hM hit vq hρ bf (.inLoop cb::k) cs
  rcases h1 with⟨rfl,r1⟩|⟨rfl,n,last',hlt,r1,IK,arN⟩
  · exact⟨a1,w1,A1,ρ1,v1,x1,g1,r1.sub (fun id h=>Nat.le_trans (by omega:ctr+40≤ctr+40 * (m+1)) h), .pass (x:= .inLoop cb) rfl (fun _ _=> .inl (by simp)) eG⟩
  · rw[hm]at hlt
    obtain⟨a2,w2,A2,ρ2,v2,x2,g2,r2,o8⟩:=ih _ hlt (seen.push n) last' (ctr+40) A1 ρ1 a1 w1 rfl r1 (g1.1 r hA) IK arN (x1 _ _ hρ) bf k cs
    refine⟨a2,w2,A2,ρ2,v1.trans v2,x1.trans x2,g1.trans g2 v1.size,r2.sub (fun id h=>Nat.le_trans (?_ :_≤ctr+40 * (m+1)) h), .of_steps (Steps.trans eG (.one step_inLoop)) o8⟩
    omega
theorem HB.more {id:Nat} {blk:bt} {r:Nat} (h:HB w (ol M r) A ρ id blk):HB w M A ρ id blk:=by
 cases blk with
 |row sz xs=>
  obtain⟨h1,h2⟩:=h
  refine⟨h1,?_⟩
  rcases h2 with⟨b,c,e,k1,k2,k3⟩|h2
  · exact .inl ⟨b,c,e,k1,k2.1,k3⟩
  · exact .inr h2
 |mp es clock=>
  obtain⟨b,en,k1,k2,k3⟩:=h
  exact⟨b,en,k1,k2.1,k3⟩
theorem Rel.more {r:Nat} (h:Rel (ol M r) A ρ F st a w) (hA:A r):Rel M A ρ F st a w:=by
 refine⟨h.size,h.defers,h.tmps,fun id blk hf=>(h.heap id blk hf).more,h.inj,h.fresh,h.bound,fun b hb=>(h.may b hb).1,fun g vs hg=>?_⟩
 obtain⟨h1,h2,h3,h4⟩:=h.dm g vs hg
 exact⟨h1,fun hm=>h2 ⟨hm,fun e=>h3 (e▸hA)⟩,h3,h4⟩
abbrev J3:Rc:= .seq (.region [⟨some 66,none, .hY (.t 4)⟩,⟨some 67,none, .raw (.range 215 (.tmp 66)) 0⟩]) (.block 8 (.loop Bp))
theorem EV {c:Code} (hc:ae P c=some J3) {kt et kt1 et1:TypeId} (oo:P.underlying 215=some (.map kt1 et1)) (FR:P.underlying 216=some (.map kt et)) (hK:fP P kt mW) {es:cf} {ck o ctr:Nat} {kk:Int} {hp:HS} {tm:TS} (hok:Ho es ck o hp)
 (h4:find tm 4=some (.w (.one (.map o)))) (I0:find tm 10=some (iV .i64 kk)) (hfr: ∀t v,find tm t=some v→t≠14∧(t < 66∨73 < t)):
 Wp P c (fun e s c'=>e= .normal∧Is ⟨79,tm,hE (Sa es) kk hp⟩ (ctr+4+40 * (es.length+1)) s c') ⟨79,tm,hp⟩ ctr:=by
 obtain⟨c1,c2,rfl,D7,Gh⟩:=o4 hc
 obtain⟨c3,rfl,Tm⟩:=qp Gh
 obtain⟨cb,rfl,hcb⟩:=z7 Tm
 obtain⟨i1,Fx,rfl,EE⟩:=kH D7
 obtain⟨p66,l1,e1,x66,d66,g66,EE⟩:=gV EE
 obtain⟨RD,l1',rfl,x67,d67,g67,EE⟩:=gV EE
 obtain rfl:=o5 EE
 have F3:Fx= #[p66,RD]:=by rw[←Array.toArray_toList (xs:=Fx),e1]
 subst F3
 intro M A ρ a w hr
 obtain⟨SO,Kg⟩:=dK x67
 refine wp_seq (wp_region ?_)
 show wpOps P #[p66,RD] _ [0,1] a w
 have h66:pJ P p66 79 tm hp ctr (.w (.one (.map o))) hp:=iW x66 (by
  simp only[XR,cl]
  exact⟨by simp[cL.get,h4],trivial⟩)
 refine fG (i:=0) (o:=p66) rfl g66 (fun d hd=>by rw[d66]at hd;simp only[Option.some.injEq]at hd;subst hd;exact(by decide:(66:Nat) < 79)) h66 hr ?_
 intro A1 ρ1 a1 w1 r1 v1 x1 g1
 rw[d66]at r1
 have ho:=r1.heap o _ hok.out
 have vm:=r1.tmps 66 (.w (.one (.map o))) (by simp[cN,aj])
 obtain⟨b,en,q1,q2,q3,q4,q5⟩:=fa r1 hok.out vm
 have Tc:(execOp a1.eval RD).run P w1= .ok (.value (.pointer (some ⟨w1.heap.size,0,none⟩))) (w1.alloc (.mapIter (some b) ck #[] ck)):=by
  obtain⟨ds,op,ty,ps,af,gu⟩:=RD
  simp only at SO Kg
  subst SO
  subst Kg
  have e66:a1.eval (.tmp 66)= .map (some b):=q2
  have:=run_range_map (P:=P) w1 215 kt1 et1 b en ck oo q3
  simp only[execOp,e66,Sem.run_bind,this]
  rfl
 refine mz (i:=1) (o:=RD) rfl g67 Tc ?_
 rw[d67]
 have r2:=r1.iter (.mapIter (some b) ck #[] ck)
 have r3:=r2.put (dst:=some 67) (v:=DY w1.heap.size) (x:= .pointer (some ⟨w1.heap.size,0,none⟩)) ⟨RT.val rfl,rfl⟩ (fun d hd=>by simp only[Option.some.injEq]at hd;subst hd;exact(by decide:(67:Nat) < 79))
 rw[eB]at r3
 show Exit.then _ _ .normal _ _
 refine wp_block ?_
 intro bf k cs
 have hit:(w1.alloc (.mapIter (some b) ck #[] ck)).heap[w1.heap.size]? =some (.mapIter (some b) ck #[] ck):=heap_alloc_new w1 _
 have hS: ∀q,Sn es #[] q=false:=by
  intro q
  cases hq:Sn es #[] q with
  |false=>rfl
  |true=>
   obtain⟨p,_,h2,_⟩:=oh.1 hq
   simp at h2
 have r4:Rel (ol M w1.heap.size) (fun b=>A1 b∨b=w1.heap.size) ρ1 (aZ (ctr+4)) ⟨79,(67,DY w1.heap.size)::tm,hE (Sn es #[]) kk hp⟩ (a1.put (some 67) (.pointer (some ⟨w1.heap.size,0,none⟩))) (w1.alloc (.mapIter (some b) ck #[] ck)):=by
  refine r3.forget rfl (fun t v hv=>?_) (fun q bl hq=>?_)
  · simp only[cN]
    rw[aj]at hv
    split at hv
    · rename_i e
      subst e
      simpa[aj]using hv
    · rename_i hne
      obtain⟨n1,n2⟩:=hfr t v hv
      rw[aR hne,aR (by omega)]
      exact hv
  · rw[gY,hS q]at hq
    simpa using hq
 obtain⟨a2,w2,A2,ρ2,v2,x2,g2,r5,eG⟩:=Bq (r:=w1.heap.size) (M:=M) hcb FR hK hok I0 hfr (r1.may _ (Nat.le_refl _)) _ #[] ck (ctr+4) _ ρ1 _ _ rfl r4 (Or.inr rfl) hit (Nat.le_refl _) q1 bf k cs
 refine⟨.exit 8,a2,w2,?_, .of_steps (.one step_loop) eG⟩
 have BI:QG es #[]≤es.length:=List.length_filter_le _ _
 have hsz:(w1.alloc (.mapIter (some b) ck #[] ck)).heap.size=w1.heap.size+1:=by simp only[World.alloc,Array.size_push]
 simp only[Exit.inBlock,if_true]
 refine⟨_,_,A2,ρ2,⟨trivial,rfl,rfl⟩,(r5.more (g2.1 _ (.inr rfl))).sub (fun id h=>Nat.le_trans (?_ :_≤ctr+4+40 * (es.length+1)) h),v1.trans ((cz.alloc M w1 _).trans v2),(x1.trans x2).HU,?_⟩
 · omega
 · refine bq.m ⟨fun b hb=>g2.1 b (.inl (g1.1 b hb)),fun b hb h2=>?_⟩
   have hlt:b < w1.heap.size:=Nat.lt_of_lt_of_le hb v1.size
   have:=g2.2 b (by rw[hsz];omega) h2
   rcases this with h|h
   · exact g1.2 b hb h
   · omega
end Go.aU
end
section
namespace Go.aU
open Go
variable {P:Program}
inductive DX (P:Program) (n:Nat) (r:Rc) (Q:Exit→TS→HS→Nat→Prop) (tm:TS) (hp:HS) (ctr:Nat):Prop
 |mk (h: ∀c,ae P c=some r→ ∃e st' c',lS n (Q e) st' c'∧Wp P c (fun e2 s k=>e2=e∧Is st' c' s k) ⟨n,tm,hp⟩ ctr)
theorem DX.get {n:Nat} {r:Rc} {Q:Exit→TS→HS→Nat→Prop} {tm:TS} {hp:HS} {ctr:Nat} (h:DX P n r Q tm hp ctr): ∀c,ae P c=some r→ ∃e st' c',lS n (Q e) st' c'∧Wp P c (fun e2 s k=>e2=e∧Is st' c' s k) ⟨n,tm,hp⟩ ctr:=by
 cases h with
 |mk h=>exact h
variable {n:Nat} {Q:Exit→TS→HS→Nat→Prop} {tm:TS} {hp:HS} {ctr:Nat}
theorem Jc {r:Rc} (h:X P n r Q tm hp ctr):DX P n r Q tm hp ctr:= .mk fun _ hc=>X.Jj hc h
theorem bj {l:List fe} (h:gP P n l tm hp ctr (Q .normal)):DX P n (.region l) Q tm hp ctr:=Jc h
theorem kP (h:Q .normal tm hp ctr):DX P n .skip Q tm hp ctr:=Jc h
theorem BV (h:Q .ret tm hp ctr):DX P n .ret Q tm hp ctr:=Jc h
theorem pu {id:Nat} (h:Q (.exit id) tm hp ctr):DX P n (.exit id) Q tm hp ctr:=Jc h
theorem bY {x y:Rc} (h:DX P n x (ff (DX P n y Q) Q) tm hp ctr):DX P n (.seq x y) Q tm hp ctr:=by
 refine .mk fun c hc=>?_
 obtain⟨cx,cy,rfl,hx,hy⟩:=o4 hc
 obtain⟨e1,Dy,c1,⟨mE,h1⟩,w1⟩:=h.get _ hx
 obtain⟨n1,kr,iw⟩:=Dy
 simp only at mE h1
 subst mE
 by_cases jN:e1= .normal
 · subst jN
   obtain⟨e2,Cu,c2,h2,w2⟩:=(h1:DX P n1 y Q kr iw c1).get _ hy
   refine⟨e2,Cu,c2,h2,Wp.seq (w1.mono ?_)⟩
   rintro e s c ⟨rfl,rfl,rfl⟩
   exact w2
 · rw[oq jN]at h1
   refine⟨e1,⟨n1,kr,iw⟩,c1,⟨rfl,h1⟩,Wp.seq (w1.mono ?_)⟩
   rintro e s c ⟨rfl,rfl,rfl⟩
   rw[zw jN]
   exact⟨rfl,rfl,rfl⟩
theorem kQ {t:Nat} {x y:Rc} {b:Bool} (hb:find tm t=some (bV b)) (h1:b=true→DX P n x Q tm hp ctr) (h2:b=false→DX P n y Q tm hp ctr):DX P n (.cond (.t t) x y) Q tm hp ctr:=by
 refine .mk fun c hc=>?_
 obtain⟨cx,cy,rfl,hx,hy⟩:=z8 hc
 have hb':((⟨n,tm,hp⟩:St).get (.tmp t)).fq =some b:=by simp only[St.get,hb];rfl
 cases b with
 |true=>
  obtain⟨e,s,c',h1,h2⟩:=(h1 rfl).get _ hx
  exact⟨e,s,c',h1,Wp.cond hb' h2⟩
 |false=>
  obtain⟨e,s,c',h1,h2⟩:=(h2 rfl).get _ hy
  exact⟨e,s,c',h1,Wp.cond hb' h2⟩
theorem ij {id:Nat} {x:Rc} (h:DX P n x (pU id Q) tm hp ctr):DX P n (.block id x) Q tm hp ctr:=by
 refine .mk fun c hc=>?_
 obtain⟨cx,rfl,hx⟩:=qp hc
 obtain⟨e1,Dy,c1,⟨mE,h1⟩,w1⟩:=h.get _ hx
 cases e1 with
 |exit id'=>
  simp only[pU]at h1
  split at h1
  · rename_i bG
    refine⟨_,_,_,⟨mE,h1⟩,Wp.block (w1.mono ?_)⟩
    rintro e s c ⟨rfl,rfl,rfl⟩
    simp only[mu,bG,if_true]
    exact⟨trivial,rfl,rfl⟩
  · rename_i bG
    refine⟨_,_,_,⟨mE,h1⟩,Wp.block (w1.mono ?_)⟩
    rintro e s c ⟨rfl,rfl,rfl⟩
    simp only[mu,bG,if_false]
    exact⟨trivial,rfl,rfl⟩
 |_=>
  rw[wm (by simp)]at h1
  refine⟨_,Dy,c1,⟨mE,h1⟩,Wp.block (w1.mono ?_)⟩
  rintro e s c ⟨rfl,rfl,rfl⟩
  rw[xl (by simp)]
  exact⟨rfl,rfl,rfl⟩
theorem OY {r:Rc} {aW:TS} {hp':HS} {c':Nat} (hw:iA tm hp ctr aW hp' c') (h:DX P n r Q aW hp' c'):DX P n r Q tm hp ctr:=by
 refine .mk fun c hc=>?_
 obtain⟨e,s,c2,h1,h2⟩:=h.get c hc
 exact⟨e,s,c2,h1,Wp.Bg (st:=⟨n,tm,hp⟩) hw h2⟩
theorem iA.forget {aW:TS} {hp':HS} {c':Nat} (hc:ctr≤c') (ht: ∀t v,find aW t=some v→find tm t=some v) (hh: ∀id b,find hp' id=some b→find hp id=some b):iA tm hp ctr aW hp' c':=
 fun M A ρ _ _ w hr=>⟨A,ρ,(Rel.forget (st':=⟨_,aW,hp'⟩) hr rfl ht hh).sub (fun _ h=>Nat.le_trans hc h),gR.refl _,eY.refl M A w⟩
def oY (ks:List Nat) (tm:TS):TS:=ks.filterMap fun t=>(find tm t).map fun v=>(t,v)
theorem BT {tm:TS}: ∀ {ks:List Nat} {t:Nat} {v:V},find (oY ks tm) t=some v→find tm t=some v:=by
 intro ks t v h
 have hm:=dL h
 simp only[oY,List.mem_filterMap,Option.map_eq_some_iff,Prod.mk.injEq]at hm
 obtain⟨t',_,u,hu,rfl,rfl⟩:=hm
 exact hu
theorem iA.keep (ks:List Nat):iA tm hp ctr (oY ks tm) hp ctr:=iA.forget (Nat.le_refl _) (fun _ _ h=>BT h) (fun _ _ h=>h)
theorem C5 {r:Rc} (ks:List Nat) (h:DX P n r Q (oY ks tm) hp ctr):DX P n r Q tm hp ctr:=OY (iA.keep ks) h
def Nxt (I:Nat→TS→HS→Nat→Prop) (ks:List Nat) (m:Nat) (tm:TS) (hp:HS) (c:Nat):Prop:= ∃m',m' < m∧I m' (oY ks tm) hp c
theorem sJ {b:Rc} (ks:List Nat) (I:Nat→TS→HS→Nat→Prop) (m:Nat) (h0:I m (oY ks tm) hp ctr) (tQ: ∀m tm hp c,I m tm hp c→DX P n b (ff (Nxt I ks m) Q) tm hp c):DX P n (.loop b) Q tm hp ctr:=by
 refine .mk fun c hc=>?_
 obtain⟨cb,rfl,hb⟩:=z7 hc
 have key: ∀ (m:Nat) (tm:TS) (hp:HS) (c:Nat),I m tm hp c→ ∃e st' c',lS n (Q e) st' c'∧ ∀ (M A:Nat→Prop) (ρ:Env) (a:Act) (w:World) (b':Frame) (kk:List _) (cs:List _),Rel M A ρ (aZ c) ⟨n,tm,hp⟩ a w→
  ∃a' w',Post M A ρ w (Is st' c') a' w'∧Arrives P (lone (b'.at a (.code cb:: .inLoop cb::kk)) cs w) b' kk cs e a' w':=by
  intro m
  induction m using Nat.strongRecOn with
  |_ m ihm=>
   intro tm hp c hI
   obtain⟨e1,Dy,c1,⟨mE,h1⟩,w1⟩:=(tQ m tm hp c hI).get _ hb
   obtain⟨n1,kr,iw⟩:=Dy
   simp only at mE h1
   subst mE
   by_cases jN:e1= .normal
   · subst jN
     obtain⟨m',hm',OB⟩:=(h1:Nxt I ks m kr iw c1)
     obtain⟨e2,Cu,c2,h2,pO⟩:=ihm m' hm' _ _ _ OB
     refine⟨e2,Cu,c2,h2,fun M A ρ a w b' kk cs hr=>?_⟩
     obtain⟨e,a1,xB,⟨rfl,st',c',A',ρ',⟨rfl,rfl⟩,r2,r3,r4,r5⟩,eG⟩:=(by
      obtain⟨e,a1,xB,iw,eG⟩:=w1 M A ρ a w hr b' (.inLoop cb::kk) cs
      obtain⟨st',c',A',ρ',⟨he,hs⟩,r⟩:=iw
      exact⟨e,a1,xB,⟨he,st',c',A',ρ',hs,r⟩,eG⟩: ∃e a1 xB,(e=Exit.normal∧ ∃st' c' A' ρ',Is ⟨n1,kr,iw⟩ c1 st' c'∧Rel M A' ρ' (aZ c') st' a1 xB∧cz M w xB∧gR ρ ρ'∧eY M A A' w)∧Arrives P (lone (b'.at a (.code cb:: .inLoop cb::kk)) cs w) b' (.inLoop cb::kk) cs e a1 xB)
     obtain⟨A2,ρ2,rR,Qv,yC⟩:=iA.keep ks _ _ _ _ _ _ r2
     obtain⟨a2,w2,hp2,o8⟩:=pO M A2 ρ2 a1 xB b' kk cs rR
     exact⟨a2,w2,hp2.trans r3 (r4.trans Qv) (r5.trans yC r3.size), .of_steps (Steps.trans eG (.one step_inLoop)) o8⟩
   · rw[oq jN]at h1
     refine⟨e1,⟨n1,kr,iw⟩,c1,⟨rfl,h1⟩,fun M A ρ a w b' kk cs hr=>?_⟩
     obtain⟨e,a1,xB,Ob,eG⟩:=w1 M A ρ a w hr b' (.inLoop cb::kk) cs
     obtain⟨st',c',A',ρ',⟨rfl,hs⟩,r⟩:=Ob
     refine⟨a1,xB,⟨st',c',A',ρ',hs,r⟩,?_⟩
     cases e with
     |normal=>exact absurd rfl jN
     |_=>exact .pass (x:= .inLoop cb) rfl (fun _ _=> .inl (by simp)) eG
 obtain⟨e,st',c',h1,h2⟩:=key m _ _ _ h0
 refine⟨e,st',c',h1,Wp.Bg (st:=⟨n,tm,hp⟩) (iA.keep ks) ?_⟩
 intro M A ρ a w hr b' kk cs
 obtain⟨a',w',hp',eG⟩:=h2 M A ρ a w b' kk cs hr
 obtain⟨s1,s2,s3,s4,s5,s6⟩:=hp'
 exact⟨e,a',w',⟨s1,s2,s3,s4,⟨rfl,s5⟩,s6⟩, .of_steps (.one step_loop) eG⟩
theorem G0 {kt et kt1 et1:TypeId} (oo:P.underlying 215=some (.map kt1 et1)) (FR:P.underlying 216=some (.map kt et)) (hK:fP P kt mW) {es:cf} {ck o:Nat} {kk:Int} (hok:Ho es ck o hp)
 (h4:find tm 4=some (.w (.one (.map o)))) (I0:find tm 10=some (iV .i64 kk)) (hfr: ∀t v,find tm t=some v→t≠14∧(t < 66∨73 < t)) (h:Q .normal tm (hE (Sa es) kk hp) (ctr+4+40 * (es.length+1))):DX P 79 J3 Q tm hp ctr:=by
 refine .mk fun c hc=>?_
 refine⟨.normal,⟨79,tm,hE (Sa es) kk hp⟩,ctr+4+40 * (es.length+1),⟨rfl,h⟩,?_⟩
 exact EV hc oo FR hK hok h4 I0 hfr
theorem GH {f:FuncId} {fn:Func} {c:Code} {r:Rc} {args:List W} {n:Nat} {rs:List ResultVar} {Good:List W→Prop} (hf:P.funcs[f]? =some fn) (hb:fn.body=some c) (hr:ae P c=some r)
 (hn:fn.ntmps=n) (dV:fn.results.toList=rs) (hl:args.length≤n) (h:DX P n r (M0 P rs Good) (cE 0 args) [] 4): ∃ts,Fn P f args [] (aO ts) []∧(aO ts).bJ=true∧Good ts:=by
 subst hn
 subst dV
 obtain⟨e,st',c',⟨hn',hq⟩,hw⟩:=h.get _ hr
 obtain⟨n',aW,hp'⟩:=st'
 simp only at hn' hq
 subst hn'
 have main: ∀us ts,oZ e→aE P hp' aW fn.results.toList=some us→bB (bH hp') us=some ts→Good ts→ ∃ts,Fn P f args [] (aO ts) []∧(aO ts).bJ=true∧Good ts:=by
  intro vs ts he eU hts hg
  refine⟨ts,?_,oE ?_,hg⟩
  · intro w A ρ xs hH hxs
    refine calls_of_wp hf hb ?_
    have hl':args.length=xs.size:=by simpa using hxs.1
    have bL:Rel (fun b=>nE ρ [] b∨w.heap.size≤b) A ρ (aZ 4) ⟨fn.ntmps,cE 0 args,[]⟩ {tmps:=xs++Array.replicate (fn.ntmps - xs.size) undef,defers:=[]} w:=by
     refine⟨by simp;omega,rfl,fun t v hv=>?_,hH.heap,hH.inj,hH.fresh,hH.bound,hH.may,hH.dm⟩
     obtain⟨_,u,hu,rfl⟩:=dA _ _ _ _ hv
     simp only[Nat.sub_zero]at hu
     have ht:t < xs.size:=by rw[←hl'];exact(List.getElem?_eq_some_iff.1 hu).1
     have yo:xs.toList[t]? =some xs[t]:=by simp[ht]
     have:=hxs.2 t u _ hu yo
     have e:(xs++Array.replicate (fn.ntmps - xs.size) undef).getD t undef=xs[t]:=by simp[Array.getD_eq_getD_getElem?,Array.getElem?_append_left ht,ht]
     rw[e]
     exact this
    refine wp_mono (hw _ A ρ _ w bL) ?_
    rintro e2 a' w' ⟨Cu,c2,A',ρ',⟨rfl,rfl,rfl⟩,cO,dl,ca,Kr⟩
    have iE:=qt hH.bound Kr
    obtain⟨ws,hvs,hR⟩:=dh cO eU
    have hm:(fn.results.mapM fun(r:ResultVar)=>match r with
     | .tmp t=>(pure (a'.tmps.getD t undef):Sem Value)
     | .cell b t=>do loadVar t (←asAddr (a'.tmps.getD b undef))).run P w'= .ok ws.toArray w':=by
     rw[Array.mapM_eq_mapM_toList]
     simp only[Sem.run_map]
     exact(congrArg (fun r:Result (List Value)=>Result.andThen r fun a w'=>Result.ok a.toArray w') hvs).trans rfl
    have hrun:(results fn a'.tmps).run P w'= .ok (if h:ws.toArray.size=1 then ws.toArray[0]else .tuple ws.toArray) w':=by
     show(Bind.bind (fn.results.mapM fun(r:ResultVar)=>match r with
      | .tmp t=>(pure (a'.tmps.getD t undef):Sem Value)
      | .cell b t=>do loadVar t (←asAddr (a'.tmps.getD b undef))) fun vs=>Pure.pure (if h:vs.size=1 then vs[0]else .tuple vs)).run P w'=_
     rw[Sem.run_bind,hm]
     rfl
    have hB: ∀id blk b,find hp' id=some blk→ρ' id=some (.eM b)→¬A b:=by
     intro id blk b hf hρ hA
     have hM:=(Rel.own cO hf hρ).1
     rcases hM with⟨id',eX,j8,_⟩|hM
     · simp[find]at j8
     · have:=hH.bound b hA
       omega
    have hlen:=fh hts
    have one: ∀ (k:Nat) (u:W) (y:Value),ts[k]? =some u→(∀v,vs[k]? =some v→RW w' A' ρ' v y)→RW w' A ρ u y:=by
     intro k u y hu hv
     obtain⟨v,iv,Al⟩:=dk hts k u hu
     exact fE cO (fun b hb=>iE.1 b hb) hB Al (hv v iv) ρ
    have fin:a'.defers=[]∧ ∃v,(results fn a'.tmps).run P w'= .ok v w'∧ ∃x A' ρ' F',Ending.returned v= .returned x∧RV w' A' ρ' (aO ts) x∧HR (fun b=>nE ρ [] b∨w.heap.size≤b) A' ρ' F' [] w'∧
     cz (fun b=>nE ρ [] b∨w.heap.size≤b) w w'∧gR ρ ρ'∧bq A A' w:=by
     refine⟨cO.defers,_,hrun,_,A,ρ,aZ 4,rfl,?_,⟨rfl,rfl,fun t v hv=>by simp[find]at hv,fun id blk hb=>by simp[find]at hb,fun id id' b b' q hb=>by simp[find]at hb,hH.fresh,fun b hb=>Nat.lt_of_lt_of_le (hH.bound b hb) dl.size,fun b hb=> .inr (Nat.le_trans dl.size hb),hH.dm.CZ dl (fun _ _ h=>h)⟩,dl,gR.refl _,bq.refl _ _⟩
     match vs,ws,ts,hR,hlen,one with
     | [],[],[],_,_,_=>exact⟨#[],by simp,rfl,by simp⟩
     | [u],[v],[t],hR,_,one=>exact one 0 t v rfl (fun v' iv=>by simp only[List.getElem?_cons_zero,Option.some.injEq]at iv;subst iv;exact hR.2 0 u v rfl rfl)
     |u::u2::r,v::v2::s,t::t2::q,hR,hlen,one=>
      have hne:¬ (v::v2::s).toArray.size=1:=by simp
      simp only[hne,dite_false]
      refine⟨_,rfl,?_,fun k x y hx hy=>one k x y hx (fun v' iv=>hR.2 k v' y iv (by simpa using hy))⟩
      have:=hR.1
      simp at this hlen⊢
      omega
     | [],_::_,_,hR,_,_=>exact absurd hR.1 (by simp)
     |_::_,[],_,hR,_,_=>exact absurd hR.1 (by simp)
     | [_],_::_::_,_,hR,_,_=>exact absurd hR.1 (by simp)
     |_::_::_,[_],_,hR,_,_=>exact absurd hR.1 (by simp)
     | [],[],_::_,_,hlen,_=>simp at hlen
     | [_],[_],[],_,hlen,_=>simp at hlen
     | [_],[_],_::_::_,_,hlen,_=>simp at hlen
     |_::_::_,_::_::_,[],_,hlen,_=>simp at hlen
     |_::_::_,_::_::_,[_],_,hlen,_=>simp at hlen
    rcases he with rfl|rfl
    · exact fin
    · exact fin
  · rw[List.all_eq_true]
    intro u hu
    obtain⟨k',hk',Ok⟩:=List.getElem_of_mem hu
    obtain⟨v,_,Al⟩:=dk hts k' u (by rw[←Ok];simp[hk'])
    exact eV Al
 cases e with
 |normal=>obtain⟨us,ts,h1,h2,h3⟩:=hq;exact main us ts (.inl rfl) h1 h2 h3
 |ret=>obtain⟨us,ts,h1,h2,h3⟩:=hq;exact main us ts (.inr rfl) h1 h2 h3
 |_=>exact hq.elim
end Go.aU
end
section
namespace Go.aU
open Go
variable {P:Program}
structure Ms (n:Nat) (es:cf) (ck o:Nat) (hp:HS) (c:Nat):Prop where
 rg:Ho es ck o hp
 nk:NK es
 keys: ∀p,p∈es→ ∃j:Nat,j < n∧p.1= .int .i64 (j:Int)
 lo:o < c
 li: ∀ (p:Value×C×Nat) (id:Nat),p∈es→p.2.1= .map id→id < c
theorem Ms.new {o c n:Nat} {hp:HS} (h:find hp o=some (.mp [] 0)) (hc:o < c):Ms n [] 0 o hp c:=
 ⟨⟨h,fun p hp=>by simp at hp,by simp,fun p q id hp=>by simp at hp⟩,NK.nil,fun p hp=>by simp at hp,hc,fun p id hp=>by simp at hp⟩
theorem Ms.mono {n n':Nat} {es:cf} {ck o c c':Nat} {hp:HS} (h:Ms n es ck o hp c) (hn:n≤n') (hc:c≤c'):Ms n' es ck o hp c':=
 ⟨h.rg,h.nk,fun p hp=>by obtain⟨j,h1,h2⟩:=h.keys p hp;exact⟨j,by omega,h2⟩,Nat.lt_of_lt_of_le h.lo hc,fun p id h1 h2=>Nat.lt_of_lt_of_le (h.li p id h1 h2) hc⟩
theorem Ms.heap {n:Nat} {es:cf} {ck o c:Nat} {hp hp':HS} (h:Ms n es ck o hp c) (he: ∀q QE c2,q < c→find hp q=some (.mp QE c2)→find hp' q=some (.mp QE c2)):Ms n es ck o hp' c:=by
 refine⟨⟨he _ _ _ h.lo h.rg.out,fun p hp=>?_,h.rg.born,h.rg.El⟩,h.nk,h.keys,h.lo,h.li⟩
 obtain⟨h1,h2,id,ei,ci,h3,h4,h5,h6⟩:=h.rg.CJ p hp
 exact⟨h1,h2,id,ei,ci,h3,h4,he _ _ _ (h.li p id hp h3) h5,h6⟩
theorem Ms.Iq {n:Nat} {es:cf} {ck o c:Nat} {hp:HS} (h:Ms n es ck o hp c): ∀p,p∈es→mW p.1:=fun p hp=>(h.rg.CJ p hp).1
theorem Ms.inner {n:Nat} {es QF:cf} {ck o c id ci':Nat} {hp:HS} {p:Value×C×Nat} (h:Ms n es ck o hp c) (iw:p∈es) (bG:p.2.1= .map id) (hn:NK QF) (hk: ∀x,x∈QF→mW x.1):Ms n es ck o (iC hp id (.mp QF ci')) c:=by
 obtain⟨_,_,id0,ei0,ci0,k3,k4,k5,_⟩:=h.rg.CJ p iw
 rw[bG]at k3
 have k3:=C.map.inj k3
 subst k3
 refine⟨⟨?_,fun q hq=>?_,h.rg.born,h.rg.El⟩,h.nk,h.keys,h.lo,h.li⟩
 · rw[bp,if_neg (fun e=>k4 e.symm)]
   exact h.rg.out
 · obtain⟨h1,h2,D1,e2,c2,h3,h4,h5,h6,h7⟩:=h.rg.CJ q hq
   by_cases he:D1=id
   · subst he
     exact⟨h1,h2,D1,QF,ci',h3,h4,by rw[bp,if_pos rfl,k5];rfl,hn,hk⟩
   · exact⟨h1,h2,D1,e2,c2,h3,h4,by rw[bp,if_neg he];exact h5,h6,h7⟩
theorem Ms.add {i:Nat} {es:cf} {ck o c cm c':Nat} {hp hq:HS} (h:Ms i es ck o hp c) (hc:c≤cm) (BJ:cm < c') (hm:find hq cm=some (.mp [] 0)) (he: ∀q,q < c→find hq q=find hp q):
 Ms (i+1) (es++[(.int .i64 (i:Int), .map cm,ck)]) (ck+1) o (iC hq o (.mp (es++[(.int .i64 (i:Int), .map cm,ck)]) (ck+1))) c':=by
 have hlo:=h.lo
 refine⟨⟨?_,fun p hp=>?_,?_,fun p q id hp hq h1 h2=>?_⟩,?_,fun p hp=>?_,by omega,fun p id hp h1=>?_⟩
 · rw[bp,if_pos rfl,he o hlo,h.rg.out]
   rfl
 · rcases List.mem_append.1 hp with hp|hp
   · obtain⟨h1,h2,id,ei,ci,h3,h4,h5,h6⟩:=h.rg.CJ p hp
     exact⟨h1,by omega,id,ei,ci,h3,h4,by rw[bp,if_neg h4,he id (h.li p id hp h3)];exact h5,h6⟩
   · rw[List.mem_singleton]at hp
     subst hp
     exact⟨⟨_,rfl⟩,by simp,cm,[],0,rfl,by omega,by rw[bp,if_neg (by omega)];exact hm,NK.nil,fun x hx=>by simp at hx⟩
 · rw[List.map_append,List.nodup_append]
   refine⟨h.rg.born,by simp,?_⟩
   intro x hx y hy
   simp only[List.mem_map]at hx
   obtain⟨p,hp,rfl⟩:=hx
   simp only[List.map_cons,List.map_nil,List.mem_singleton]at hy
   subst hy
   have:=(h.rg.CJ p hp).2.1
   omega
 · rcases List.mem_append.1 hp with hp|hp<;>rcases List.mem_append.1 hq with hq|hq
   · exact h.rg.El p q id hp hq h1 h2
   · rw[List.mem_singleton]at hq
     subst hq
     have:=h.li p id hp h1
     have e:=C.map.inj h2
     omega
   · rw[List.mem_singleton]at hp
     subst hp
     have:=h.li q id hq h2
     have e:=C.map.inj h1
     omega
   · rw[List.mem_singleton]at hp hq
     rw[hp,hq]
 · unfold NK
   rw[List.map_append,List.nodup_append]
   refine⟨h.nk,by simp,?_⟩
   intro x hx y hy
   simp only[List.mem_map]at hx
   obtain⟨p,hp,rfl⟩:=hx
   simp only[List.map_cons,List.map_nil,List.mem_singleton]at hy
   subst hy
   obtain⟨j,h1,h2⟩:=h.keys p hp
   rw[h2]
   intro e
   simp only[Value.int.injEq,true_and]at e
   omega
 · rcases List.mem_append.1 hp with hp|hp
   · obtain⟨j,h1,h2⟩:=h.keys p hp
     exact⟨j,by omega,h2⟩
   · rw[List.mem_singleton]at hp
     subst hp
     exact⟨i,by omega,rfl⟩
 · rcases List.mem_append.1 hp with hp|hp
   · have:=h.li p id hp h1
     omega
   · rw[List.mem_singleton]at hp
     subst hp
     have e:=C.map.inj h1
     omega
theorem Ms.del {n:Nat} {es:cf} {ck o c:Nat} {hp:HS} (h:Ms n es ck o hp c) (k:Int):Ms n (er k es) ck o (iC hp o (.mp (er k es) ck)) c:=by
 refine⟨⟨?_,fun p hp=>?_,List.Nodup.sublist (List.filter_sublist.map _) h.rg.born,fun p q id hp hq h1 h2=>h.rg.El p q id (qE hp).1 (qE hq).1 h1 h2⟩,h.nk.er k,fun p hp=>h.keys p (qE hp).1,h.lo,fun p id hp h1=>h.li p id (qE hp).1 h1⟩
 · rw[bp,if_pos rfl,h.rg.out]
   rfl
 · obtain⟨h1,h2,id,ei,ci,h3,h4,h5,h6⟩:=h.rg.CJ p (qE hp).1
   exact⟨h1,h2,id,ei,ci,h3,h4,by rw[bp,if_neg h4];exact h5,h6⟩
theorem Ms.erase {n:Nat} {es:cf} {ck o c:Nat} {hp:HS} (h:Ms n es ck o hp c) (k:Int):Ms n es ck o (hE (Sa es) k hp) c:=by
 have hSo:Sa es o=false:=by
  cases hq:Sa es o with
  |false=>rfl
  |true=>
   obtain⟨p,iw,hp2⟩:=B3.1 hq
   obtain⟨_,_,id,_,_,h3,h4,_⟩:=h.rg.CJ p iw
   rw[h3]at hp2
   exact absurd (C.map.inj hp2) h4
 refine⟨⟨?_,fun p hp=>?_,h.rg.born,h.rg.El⟩,h.nk,h.keys,h.lo,h.li⟩
 · rw[gY,h.rg.out,hSo]
   rfl
 · obtain⟨h1,h2,id,ei,ci,h3,h4,h5,h6,h7⟩:=h.rg.CJ p hp
   have hS:Sa es id=true:=B3.2 ⟨p,hp,h3⟩
   exact⟨h1,h2,id,er k ei,ci,h3,h4,by rw[gY,h5,hS];rfl,h6.er k,fun x hx=>h7 x (qE hx).1⟩
theorem V7 {es:cf} {k:Int} {p:Value×C×Nat} (hp:p∈es) (hk:p.1= .int .i64 k):(er k es).length < es.length:=by
 have:=filter_lt (fun _:Value×C×Nat=>true) (fun x=> !isKey k x) (fun _ _=>rfl) p rfl (by rw[j5.2 hk];rfl) es hp
 have e:List.filter (fun _:Value×C×Nat=>true) es=es:=by simp
 rw[e]at this
 exact this
theorem AB {S:Nat→Bool} {k:Int} {hp:HS} {q sz:Nat} {xs:List (List C)} (h:find hp q=some (.row sz xs)):find (hE S k hp) q=some (.row sz xs):=by
 rw[gY,h]
 simp only[Option.map_some]
 split<;>rfl
def Ro.isP:Ro→Bool
 | .call _ _| .fp _ _| .raw _ _=>false
 |_=>true
variable {n ctr:Nat} {tm:TS} {hp:HS} {K:TS→HS→Nat→Prop}
theorem pT {d:Nat} {r:Ro} {rest:List fe} (hd:d < n) (hr:r.isP=true) (h:XR r tm hp ctr fun v hp'=>gP P n rest ((d,v)::tm) hp' (ctr+4) K):gP P n (⟨some d,none,r⟩::rest) tm hp ctr K:=by
 have e:eI n (some d)=true:=by simp[eI,hd]
 unfold gP Hi
 simp only[e]
 cases r<;>first|(simp only[Ro.isP]at hr;exact absurd hr (by decide))|(simp only[sy,cl,ga,eW,cN];exact h)
theorem alH {r:Ro} {rest:List fe} (hr:r.isP=true) (h:XR r tm hp ctr fun _ hp'=>gP P n rest tm hp' (ctr+4) K):gP P n (⟨none,none,r⟩::rest) tm hp ctr K:=by
 unfold gP Hi
 simp only[eI]
 cases r<;>first|(simp only[Ro.isP]at hr;exact absurd hr (by decide))|(simp only[sy,cl,ga,eW,cN];exact h)
end Go.aU
end
section
namespace Go.aU.Cd
open Go Go.Proofs
set_option maxRecDepth 100000
set_option maxHeartbeats 1000000
def c91:Rc:=Sq (Rg [Mn 2,Mb 3 false]) (Sq (Rg [p 15 (.raw (.makeMap 215 none) 215),Mv 4 15]) (Sq (Sq (Rg [Mv 16 0,Le 17 16,Mk 18 0]) (Bk 0 (Lp (Sq (Rg [Bt 19 .lss 18 17]) (Sq (Cn 19 Sk (Ex 0)) (Sq (Bk 1 (Sq (Rg [Mv 20 18,Ia 21 5 16 18,Lo 5 22 21,p 6 (.alloc [.t (.val (.string ⟨#[]⟩)),zi,zi,zn,zn]),Mv 5 20,So 5 6 22]) (Sq (Rg [Mv 23 4,Mv 24 5,p 25 (.raw (.makeMap 216 none) 216),q (.raw (.mapUpdate 215 (.tmp 23) (.tmp 24) (.tmp 25)) 0)]) (Sq (Rg [Fa 26 3 6,Ld 27 26,Le 28 27,Mk 29 0]) (Bk 2 (Lp (Sq (Rg [Bt 30 .lss 29 28]) (Sq (Cn 30 Sk (Ex 2)) (Sq (Bk 3 (Sq (Rg [Ia 31 1 27 29,Ld 32 31,Mv 8 32]) (Rg [Mv 33 4,Mv 34 5,p 35 (.raw (.lookup 215 (.tmp 33) (.tmp 34) false) 216),Mv 36 8,q (.raw (.mapUpdate 216 (.tmp 35) (.tmp 36) (.const (.bool true))) 0)]))) (Rg [Bi 37 .add 29 1,Mv 29 37])))))))))) (Rg [Bi 38 .add 18 1,Mv 18 38]))))))) (Sq (Rg [Mn 9]) (Sq (Bk 4 (Lp (Sq (Sq (Rg [Mv 39 4,p 40 (.raw (.call ⟨.builtin .len,#[(.tmp 39)],#[215]⟩) 3),Bi 41 .gtr 40 0]) (Cn 41 Sk (Ex 4))) (Bk 5 (Sq (Rg [Mk 10 0]) (Sq (Bk 6 (Lp (Sq (Sq (Rg [Mv 42 10,Mv 43 0,Le 44 43,Bt 45 .lss 42 44]) (Cn 45 Sk (Ex 6))) (Bk 7 (Sq (Sq (Rg [Mv 47 4,Mv 48 10,p 49 (.raw (.lookup 215 (.tmp 47) (.tmp 48) true) 217),Mv 46 49,Et 50 46 0,Et 51 46 1,Mv 11 50,Mv 12 51]) (Sq (Rg [Mv 52 12,Mv 53 52,Gb 53 (Mv 54 11),⟨some 55,some (53,true),.raw (.call ⟨.builtin .len,#[(.tmp 54)],#[216]⟩) 3⟩,Gb 53 (Bi 56 .eql 55 0),Pf 57 53 56]) (Cn 57 (Ex 6) Sk))) (Rg [Mv 58 10,Bi 59 .add 58 1,Mv 10 59])))))) (Sq (Sq (Rg [Mv 60 10,Mv 61 0,Le 62 61,Bt 63 .eql 60 62]) (Cn 63 (Sq (Rg [Mn 2,Mb 3 false]) Rt) Sk)) (Sq (Rg [Mv 64 4,Mv 65 10,q (.raw (.call ⟨.builtin .delete,#[(.tmp 64),(.tmp 65)],#[215,3]⟩) 0)]) (Sq (Sq (Rg [Mv 66 4,p 67 (.raw (.range 215 (.tmp 66)) 0)]) (Bk 8 (Lp (Sq (Rg [p 68 (.raw (.next (.tmp 67) false) 0),Et 69 68 0]) (Sq (Cn 69 Sk (Ex 8)) (Bk 9 (Sq (Rg [p 70 (.raw (.entry (.tmp 67)) 0),Et 71 70 1,Mv 14 71]) (Rg [Mv 72 14,Mv 73 10,q (.raw (.call ⟨.builtin .delete,#[(.tmp 72),(.tmp 73)],#[216,3]⟩) 0)])))))))) (Rg [Mv 74 9,Mv 75 10,p 76 (.aT [zi] 1 [(0,t 75)]),p 77 (.append 1 8 (t 74) (t 76)),Mv 9 77])))))))))) (Sq (Rg [Mv 78 9,Mv 2 78,Mb 3 true]) Rt)))))
theorem auR:ae Tryz.prog (Tryz.f91.body.getD .skip)=some c91:=by kernel_rfl
theorem awX:Tryz.f91.body=some (Tryz.f91.body.getD .skip):=rfl
theorem PW:Tryz.prog.underlying 215=some (.map 3 216):=by kernel_rfl
theorem zMp:jS Tryz.prog 216=some (.map none):=by kernel_rfl
abbrev mV (o:Nat):V:= .w (.one (.map o))
theorem Q4 {P:Program} {tm:TS} {hp:HS} {ctr:Nat} {K:TS→HS→Nat→Prop} {z:List C} {cs:List T} {v:V} (h21:find tm 21=some (.w (.one (.pM cs 0)))) (h20:find tm 20=some v) (hz:z.length=5) (hc:cs.length=5)
 (h:K ((5,v)::(6, .w (.one (.ptr (ctr+4) 5 0 0)))::(22, .w (.agg (cs.map .t)))::tm) ((ctr+4, .row 5 [cs.map .t])::hp) (ctr+16)):
 gP P 79 (p 22 (.load (some 5) (t 21))::p 6 (.alloc z)::p 5 (.hY (t 20))::q (.store 5 (t 6) (t 22))::[]) tm hp ctr K:=by
 match cs,hc with
 | [a0,a1,a2,a3,a4],_=>
 match z,hz with
 | [z0,z1,z2,z3,z4],_=>
 refine pT (by decide) rfl ?_
 simp only[XR,cL.get,h21,Option.getD_some]
 show gP P 79 _ ((22, .w (.agg [.t a0, .t a1, .t a2, .t a3, .t a4]))::tm) hp (ctr+4) K
 refine pT (by decide) rfl ?_
 show gP P 79 _ ((6, .w (.one (.ptr (ctr+4) 5 0 0)))::(22, .w (.agg [.t a0, .t a1, .t a2, .t a3, .t a4]))::tm) ((ctr+4, .row 5 [[z0,z1,z2,z3,z4]])::hp) (ctr+8) K
 refine pT (by decide) rfl ?_
 simp only[XR,cl]
 have e:(cL.t 20).get ((6, .w (.one (.ptr (ctr+4) 5 0 0)))::(22, .w (.agg [.t a0, .t a1, .t a2, .t a3, .t a4]))::tm)=v:=by simp[cL.get,aj,h20]
 rw[e]
 refine alH rfl ?_
 have f: ∀b:bt,find ((ctr+4,b)::hp) (ctr+4)=some b:=fun b=>by simp[aj]
 have g: ∀b b':bt,iC ((ctr+4,b)::hp) (ctr+4) b'=(ctr+4,b')::hp:=fun b b'=>by simp[iC]
 have e1:(cL.t 6).get ((5,v)::(6, .w (.one (.ptr (ctr+4) 5 0 0)))::(22, .w (.agg [.t a0, .t a1, .t a2, .t a3, .t a4]))::tm)= .w (.one (.ptr (ctr+4) 5 0 0)):=rfl
 have e2:(cL.t 22).get ((5,v)::(6, .w (.one (.ptr (ctr+4) 5 0 0)))::(22, .w (.agg [.t a0, .t a1, .t a2, .t a3, .t a4]))::tm)= .w (.agg [.t a0, .t a1, .t a2, .t a3, .t a4]):=rfl
 simp only[XR,e1,e2,f,oD,bP,g]
 exact h
theorem Q6 {P:Program} {tm:TS} {hp:HS} {ctr id:Nat} {K:TS→HS→Nat→Prop} {cs:List T} {xs:Lz} (h6:find tm 6=some (.w (.one (.ptr id 5 0 0)))) (hf:find hp id=some (.row 5 [cs.map .t])) (hc:cs[3]? =some (.ao 1 xs))
 (h:K ((29,iV .i64 0)::(28,iV .i64 (xs.length:Int))::(27, .w (oL 1 xs))::(26, .w (.one (.ptr id 5 0 3)))::tm) hp (ctr+16)):
 gP P 79 (p 26 (.uy 3 (t 6))::p 27 (.load none (t 26))::p 28 (.len (t 27))::p 29 (.hY (k 0))::[]) tm hp ctr K:=by
 refine pT (by decide) rfl ?_
 simp only[XR,cL.get,h6,Option.getD_some]
 refine pT (by decide) rfl ?_
 have e1:(cL.t 26).get ((26, .w (.one (.ptr id 5 0 (0+3))))::tm)= .w (.one (.ptr id 5 0 3)):=rfl
 simp only[XR,e1,hf,oD,List.getElem?_cons_zero,if_true,oK,List.getElem?_map,hc,Option.map_some]
 show gP P 79 [p 28 (.len (t 27)),p 29 (.hY (k 0))] ((27, .w (oL 1 xs))::(26, .w (.one (.ptr id 5 0 3)))::tm) hp (ctr+8) K
 refine pT (by decide) rfl ?_
 show gP P 79 [p 29 (.hY (k 0))] ((28,iV .i64 (xs.length:Int))::(27, .w (oL 1 xs))::(26, .w (.one (.ptr id 5 0 3)))::tm) hp (ctr+12) K
 refine pT (by decide) rfl ?_
 exact h
def vc (v:V) (hp:HS) (c:Nat) (xs:Lz):Prop:=
 (v= .w (.one (.t (.val (.slice none 0 0))))∧xs=[])∨ ∃CC,CC < c∧v= .w (.one (.own CC 1 0 xs.length))∧find hp CC=some (.row 1 (tr xs))
theorem QY {P:Program} {tm:TS} {hp:HS} {ctr:Nat} {K:TS→HS→Nat→Prop} {xs:Lz} {v:V} {kk:Int} (h9:find tm 9=some v) (I0:find tm 10=some (iV .i64 kk)) (ho:vc v hp ctr xs) (hl:xs.length≤1000000)
 (h: ∀hp' v',vc v' hp' (ctr+20) (xs++[[tI kk]])→(∀q e c,q < ctr→find hp q=some (.mp e c)→find hp' q=some (.mp e c))→K ((9,v')::(77,v')::(76, .w (.one (.own (ctr+8) 1 0 1)))::(75,iV .i64 kk)::(74,v)::tm) hp' (ctr+20)):
 gP P 79 (p 74 (.hY (t 9))::p 75 (.hY (t 10))::p 76 (.aT [.t (.val (.int .i64 0))] 1 [(0,t 75)])::p 77 (.append 1 8 (t 74) (t 76))::p 9 (.hY (t 77))::[]) tm hp ctr K:=by
 refine pT (by decide) rfl ?_
 simp only[XR,cl]
 have e9:(cL.t 9).get tm=v:=by simp[cL.get,h9]
 rw[e9]
 refine pT (by decide) rfl ?_
 simp only[XR,cl]
 have e10:(cL.t 10).get ((74,v)::tm)=iV .i64 kk:=by simp[cL.get,aj,I0]
 rw[e10]
 refine pT (by decide) rfl ?_
 show gP P 79 _ ((76, .w (.one (.own (ctr+8) 1 0 1)))::(75,iV .i64 kk)::(74,v)::tm) ((ctr+8, .row 1 [[.t (tI kk)]])::hp) (ctr+12) K
 refine pT (by decide) rfl ?_
 have e1:(cL.t 74).get ((76, .w (.one (.own (ctr+8) 1 0 1)))::(75,iV .i64 kk)::(74,v)::tm)=v:=rfl
 have e2:(cL.t 76).get ((76, .w (.one (.own (ctr+8) 1 0 1)))::(75,iV .i64 kk)::(74,v)::tm)= .w (.one (.own (ctr+8) 1 0 1)):=rfl
 have e3:qF ((ctr+8, .row 1 [[.t (tI kk)]])::hp) (.own (ctr+8) 1 0 1)=some (1,[[.t (tI kk)]]):=by simp[qF,elems,aj]
 simp only[XR,e1,e2,e3]
 rcases ho with⟨rfl,rfl⟩|⟨CC,hr,rfl,hf⟩
 · simp only[e3,if_true,List.length_nil]
   refine⟨⟨by decide,by decide⟩,?_⟩
   refine pT (by decide) rfl ?_
   simp only[XR,cl]
   refine h ((ctr+12, .row 1 [[.t (tI kk)]])::(ctr+8, .row 1 [[.t (tI kk)]])::hp) (.w (.one (.own (ctr+12) 1 0 1))) (.inr ⟨ctr+12,by omega,rfl,by rw[aj,if_pos rfl];rfl⟩) ?_
   intro q e c hq S8
   rw[aR (by omega),aR (by omega)]
   exact S8
 · have D6:find ((ctr+8,bt.row 1 [[.t (tI kk)]])::hp) CC=some (.row 1 (tr xs)):=by rw[aR (by omega)];exact hf
   have hlen:(tr xs).length=xs.length:=by simp[tr]
   simp only[e3,D6,and_self,if_true,hlen,true_and,List.length_nil,bP]
   refine⟨⟨by simp only[bR];omega,by simp only[maxLen];omega⟩,?_⟩
   refine pT (by decide) rfl ?_
   simp only[XR,cl]
   refine h _ (.w (.one (.own (ctr+12) 1 0 (xs.length+1)))) (.inr ⟨ctr+12,by omega,by simp,by rw[aj,if_pos rfl];simp[tr]⟩) ?_
   intro q e c hq S8
   rw[aR (by omega),dI]
   have hne:q≠CC:=by
    rintro rfl
    rw[hf]at S8
    simp at S8
   rw[if_neg hne,aR (by omega)]
   exact S8
end Go.aU.Cd
end
section
namespace Go.aU
open Go
theorem DX.mono {P:Program} {n:Nat} {r:Rc} {Q Q':Exit→TS→HS→Nat→Prop} {tm:TS} {hp:HS} {ctr:Nat} (h:DX P n r Q tm hp ctr) (hq: ∀e tm hp c,Q e tm hp c→Q' e tm hp c):DX P n r Q' tm hp ctr:=by
 refine .mk fun c hc=>?_
 obtain⟨e,st',c',⟨h1,h2⟩,h3⟩:=h.get c hc
 exact⟨e,st',c',⟨h1,hq _ _ _ _ h2⟩,h3⟩
theorem Jd {P:Program} {n:Nat} {x y:Rc} {Q:Exit→TS→HS→Nat→Prop} {tm:TS} {hp:HS} {ctr:Nat} (Mid:TS→HS→Nat→Prop) (h:DX P n x (ff Mid Q) tm hp ctr) (h2: ∀tm hp c,Mid tm hp c→DX P n y Q tm hp c):DX P n (.seq x y) Q tm hp ctr:=by
 refine bY (h.mono fun e tm hp c hq=>?_)
 cases e with
 |normal=>exact h2 _ _ _ hq
 |_=>exact hq
theorem uv {tm:TS} {ks:List Nat} {t:Nat} {v:V} (h:find (oY ks tm) t=some v):t∈ks:=by
 have hm:=dL h
 simp only[oY,List.mem_filterMap,Option.map_eq_some_iff,Prod.mk.injEq]at hm
 obtain⟨t',h1,u,hu,rfl,rfl⟩:=hm
 exact h1
end Go.aU
namespace Go.aU.Cd
open Go Go.Proofs
set_option maxRecDepth 100000
set_option maxHeartbeats 1000000
theorem vc.of {v:V} {hp hp':HS} {c c':Nat} {xs:Lz} (h:vc v hp c xs) (hc:c≤c') (hh: ∀q sz xs,find hp q=some (.row sz xs)→find hp' q=some (.row sz xs)):vc v hp' c' xs:=by
 rcases h with h|⟨CC,h1,h2,h3⟩
 · exact .inl h
 · exact .inr ⟨CC,Nat.lt_of_lt_of_le h1 hc,h2,hh _ _ _ h3⟩
def ahA (ts:List W):Prop:= ∃ord b,ts=[oL 1 ord,oB b]∧Is ord
def IA (l:Lz) (m:Nat) (tm:TS) (hp:HS) (c:Nat):Prop:=
 ∃ (i o:Nat) (es:cf) (ck:Nat),i≤l.length∧Ms i es ck o hp c∧es.length=i∧m=l.length - i∧tm=[(0, .w (oL 5 l)),(4,mV o),(16, .w (oL 5 l)),(17,iV .i64 (l.length:Int)),(18,iV .i64 (i:Int))]
def IB (l:Lz) (i:Nat) (af:Lz) (m:Nat) (tm:TS) (hp:HS) (c:Nat):Prop:=
 ∃ (j o:Nat) (es:cf) (ck:Nat),j≤af.length∧Ms (i+1) es ck o hp c∧es.length=i+1∧(∃p,p∈es∧p.1= .int .i64 (i:Int))∧m=af.length - j∧
  tm=[(0, .w (oL 5 l)),(4,mV o),(5,iV .i64 (i:Int)),(16, .w (oL 5 l)),(17,iV .i64 (l.length:Int)),(18,iV .i64 (i:Int)),(27, .w (oL 1 af)),(28,iV .i64 (af.length:Int)),(29,iV .i64 (j:Int))]
def IC (l:Lz) (m:Nat) (tm:TS) (hp:HS) (c:Nat):Prop:=
 ∃ (o:Nat) (es:cf) (ck:Nat) (v:V) (xs:Lz),Ms l.length es ck o hp c∧vc v hp c xs∧Is xs∧xs.length+es.length≤l.length∧m=es.length∧tm=[(0, .w (oL 5 l)),(4,mV o),(9,v)]
def ID (l:Lz) (o:Nat) (v:V) (lX:HS) (c0:Nat) (m:Nat) (tm:TS) (hp:HS) (c:Nat):Prop:=
 ∃k:Nat,k≤l.length∧hp=lX∧c0≤c∧m=l.length - k∧tm=[(0, .w (oL 5 l)),(4,mV o),(9,v),(10,iV .i64 (k:Int))]
def MD (l:Lz) (es:cf) (o:Nat) (v:V) (lX:HS) (c0:Nat) (tm:TS) (hp:HS) (c:Nat):Prop:=
 ∃k:Nat,k≤l.length∧(k < l.length→ ∃p,p∈es∧p.1= .int .i64 (k:Int))∧hp=lX∧c0≤c∧oY [0,4,9,10] tm=[(0, .w (oL 5 l)),(4,mV o),(9,v),(10,iV .i64 (k:Int))]
theorem nY (l:Lz) (hop: ∀e,e∈l→Cb e) (hl:l.length≤1000000):Tg 91 [oL 5 l] (Wk ahA):=by
 refine GH (n:=79) (rs:=[.tmp 2, .tmp 3]) Tryz.func91 awX auR rfl rfl (by simp) ?_
 refine bY (bj ?_)
 conv=>whnf
 refine bY (bj ?_)
 conv=>whnf
 refine jT ?_
 conv=>whnf
 refine bY ?_
 refine bY (bj ?_)
 conv=>whnf
 refine ij (sJ [0,4,16,17,18] (IA l) l.length ⟨0,_,[],0,by omega,Ms.new rfl (by decide),rfl,rfl,rfl⟩ ?_)
 rintro m tm hp c ⟨i,o,es,ck,hi,hM,Th,rfl,rfl⟩
 refine bY (bj ?_)
 conv=>whnf
 refine bY (kQ (b:=decide ((i:Int) < (l.length:Int))) rfl (fun h=>kP ?_) (fun h=>pu ?_))
 · conv=>whnf
   have hlt:i < l.length:=by simpa using h
   have hlo:=hM.lo
   refine bY (ij (bY (bj ?_)))
   conv=>whnf
   refine ap (xs:=l) hop (by omega) (by omega) ?_
   rintro _ ⟨nm,a,b,af,us,rfl,hnm,⟨Qx,IW⟩,eU,Iz⟩ hs
   rw[ga,eW]
   refine Q4 (tm:=(21, .w (.one (.pM [.val (.string nm),tI a,tI b, .ao 1 af, .ao 1 us] 0)))::(20,iV .i64 (i:Int))::(19,bV (decide ((i:Int) < (l.length:Int))))::[(0, .w (oL 5 l)),(4,mV o),(16, .w (oL 5 l)),(17,iV .i64 (l.length:Int)),(18,iV .i64 (i:Int))])
    (cs:=[.val (.string nm),tI a,tI b, .ao 1 af, .ao 1 us]) (v:=iV .i64 (i:Int)) rfl rfl (by exact rfl) rfl ?_
   conv=>whnf
   refine bY (bj ?_)
   conv=>whnf
   refine jT ?_
   conv=>whnf
   refine EO (id:=o) rfl (by rw[aR (by omega),aR (by omega)];exact hM.rg.out) rfl rfl PW Kb ⟨_,rfl⟩ hM.Iq ?_
   rintro es' ck' (⟨i',p,h1,h2,_,_⟩|⟨_,rfl,rfl⟩)
   · exfalso
     obtain⟨j,h3,h4⟩:=hM.keys p (List.mem_of_getElem? h1)
     rw[h2]at h4
     simp only[Value.int.injEq,true_and]at h4
     omega
   conv=>whnf
   have HF:=Ms.add (hq:=((c+35).succ, .mp [] 0)::((c+7).succ+4+4, .row 5 [List.map C.t [.val (.string nm),tI a,tI b, .ao 1 af, .ao 1 us]])::hp) (cm:=(c+35).succ) (c':=(c+36).succ) hM (by omega) (by omega) (by rw[aj,if_pos rfl]) (fun q hq=>by rw[aR (by omega),aR (by omega)])
   refine bY (bj ?_)
   refine Q6 (id:=(c+7).succ+4+4) (cs:=[.val (.string nm),tI a,tI b, .ao 1 af, .ao 1 us]) rfl (by rw[bp,if_neg (by omega),aR (by omega),aj,if_pos rfl]) rfl ?_
   conv=>whnf
   refine ij (sJ [0,4,5,16,17,18,27,28,29] (IB l i af) af.length ⟨0,o,_,_,by omega,HF.mono (Nat.le_refl _) (by omega),by simp[Th],⟨_,List.mem_append_right _ (List.mem_singleton.2 rfl),rfl⟩,rfl,rfl⟩ ?_)
   rintro m tm hp c ⟨j,o,es,ck,hj,hM,Th,⟨pe,hpe,hpk⟩,rfl,rfl⟩
   refine bY (bj ?_)
   conv=>whnf
   refine bY (kQ (b:=decide ((j:Int) < (af.length:Int))) rfl (fun h=>kP ?_) (fun h=>pu ?_))
   · conv=>whnf
     have aqJ:j < af.length:=by simpa using h
     refine bY (ij (bY (bj ?_)))
     conv=>whnf
     refine ap (xs:=af) Qx (by omega) (by omega) ?_
     rintro _ ⟨x,rfl⟩ hs
     conv=>whnf
     refine bj ?_
     conv=>whnf
     refine ES (id:=o) rfl hM.rg.out rfl PW zMp Kb ⟨_,rfl⟩ hM.Iq (fun i2 p hp2 F8=>?_) (fun hne=>absurd hpk (hne pe hpe))
     have F2:=List.mem_of_getElem? hp2
     obtain⟨_,_,id,ei,ci,yx,S4,HC,hnk,hkk⟩:=hM.rg.CJ p F2
     rw[yx]
     conv=>whnf
     refine EO (id:=id) rfl HC rfl rfl Q8 Kb ⟨_,rfl⟩ hkk ?_
     rintro QF ci' hput
     conv=>whnf
     refine bj ?_
     conv=>whnf
     have hw:IntKind.i64.wrap ((j:Int)+1)=((j+1:Nat):Int):=by
      simp only[maxLen]at IW
      rw[bO (by omega) (by omega)]
      rfl
     have aqP: ∀x,x∈QF→mW x.1:=by
      intro x hx
      rcases hput with⟨i3,p3,h3,h4,rfl,_⟩|⟨_,rfl,_⟩
      · rcases List.mem_or_eq_of_mem_set hx with hx|rfl
        · exact hkk x hx
        · exact⟨_,rfl⟩
      · rcases List.mem_append.1 hx with hx|hx
        · exact hkk x hx
        · rw[List.mem_singleton]at hx
          rw[hx]
          exact⟨_,rfl⟩
     exact⟨af.length - (j+1),by omega,j+1,o,es,ck,by omega,(hM.inner F2 yx (hnk.put hput) aqP).mono (Nat.le_refl _) (by omega),Th,⟨pe,hpe,hpk⟩,rfl,congrArg (fun z=>[(0,V.w (oL 5 l)),(4,mV o),(5,iV .i64 (i:Int)),(16, .w (oL 5 l)),(17,iV .i64 (l.length:Int)),(18,iV .i64 (i:Int)),(27, .w (oL 1 af)),(28,iV .i64 (af.length:Int)),(29,iV .i64 z)]) hw⟩
   · conv=>whnf
     refine bj ?_
     conv=>whnf
     have hw:IntKind.i64.wrap ((i:Int)+1)=((i+1:Nat):Int):=by
      rw[bO (by omega) (by omega)]
      rfl
     exact⟨l.length - (i+1),by omega,i+1,o,es,ck,by omega,hM.mono (Nat.le_refl _) (by omega),Th,rfl,congrArg (fun z=>[(0,V.w (oL 5 l)),(4,mV o),(16, .w (oL 5 l)),(17,iV .i64 (l.length:Int)),(18,iV .i64 z)]) hw⟩
 · conv=>whnf
   have yA:i=l.length:=by
    have:¬ ((i:Int) < (l.length:Int)):=by simpa using h
    omega
   refine bY (bj ?_)
   conv=>whnf
   refine bY (ij (sJ [0,4,9] (IC l) es.length ⟨o,es,ck,_,[],hM.mono (by omega) (by omega), .inl ⟨rfl,rfl⟩,fun e he=>by simp at he,by simp only[List.length_nil];omega,rfl,rfl⟩ ?_))
   rintro m tm hp c ⟨o,es,ck,v,xs,hM,Oc,hxs,hlen,rfl,rfl⟩
   refine bY (bY (bj ?_))
   conv=>whnf
   refine EP (id:=o) rfl hM.rg.out PW ?_
   conv=>whnf
   refine kQ (b:=decide ((es.length:Int) > 0)) rfl (fun h=>kP ?_) (fun h=>pu ?_)
   · conv=>whnf
     refine ij (bY (bj ?_))
     conv=>whnf
     refine Jd (MD l es o v hp c) (ij (sJ [0,4,9,10] (ID l o v hp c) l.length ⟨0,by omega,rfl,by omega,rfl,rfl⟩ ?_)) ?_
     · rintro m tm hp' c' ⟨k,hk,rfl,hc,rfl,rfl⟩
       refine bY (bY (bj ?_))
       conv=>whnf
       refine kQ (b:=decide ((k:Int) < (l.length:Int))) rfl (fun h=>kP ?_) (fun h=>pu ?_)
       · have F7:k < l.length:=by simpa using h
         conv=>whnf
         refine ij (bY (bY (bj ?_)))
         conv=>whnf
         refine Ch (id:=o) rfl hM.rg.out rfl PW zMp Kb ⟨_,rfl⟩ hM.Iq (fun i2 p hp2 F8=>?_) (fun hne=>?_)
         · have F2:=List.mem_of_getElem? hp2
           obtain⟨_,_,id,ei,ci,yx,S4,HC,hnk,hkk⟩:=hM.rg.CJ p F2
           rw[yx]
           conv=>whnf
           refine bY (bj ?_)
           conv=>whnf
           refine EP (id:=id) rfl HC Q8 ?_
           conv=>whnf
           refine kQ (b:=((ei.length:Int)==0)) rfl (fun h=>pu ?_) (fun h=>kP ?_)
           · conv=>whnf
             exact⟨k,hk,fun _=>⟨p,F2,F8⟩,rfl,by omega,rfl⟩
           · conv=>whnf
             refine bj ?_
             conv=>whnf
             have hw:IntKind.i64.wrap ((k:Int)+1)=((k+1:Nat):Int):=by
              rw[bO (by omega) (by omega)]
              rfl
             exact⟨l.length - (k+1),by omega,k+1,by omega,rfl,by omega,rfl,congrArg (fun z=>[(0,V.w (oL 5 l)),(4,mV o),(9,v),(10,iV .i64 z)]) hw⟩
         · conv=>whnf
           refine bY (bj ?_)
           conv=>whnf
           refine kQ (b:=false) rfl (fun h=>absurd h (by decide)) (fun h=>kP ?_)
           conv=>whnf
           refine bj ?_
           conv=>whnf
           have hw:IntKind.i64.wrap ((k:Int)+1)=((k+1:Nat):Int):=by
            rw[bO (by omega) (by omega)]
            rfl
           exact⟨l.length - (k+1),by omega,k+1,by omega,rfl,by omega,rfl,congrArg (fun z=>[(0,V.w (oL 5 l)),(4,mV o),(9,v),(10,iV .i64 z)]) hw⟩
       · conv=>whnf
         exact⟨k,hk,fun h2=>by simp at h;omega,rfl,by omega,rfl⟩
     · rintro tm hp' c' ⟨k,hk,hkey,rfl,hc,hkeep⟩
       refine C5 [0,4,9,10] ?_
       rw[hkeep]
       clear hkeep
       refine bY (bY (bj ?_))
       conv=>whnf
       refine kQ (b:=((k:Int)== (l.length:Int))) rfl (fun h=>bY (bj ?_)) (fun h=>kP ?_)
       · conv=>whnf
         refine BV ?_
         conv=>whnf
         exact⟨[.one (.t (.val (.slice none 0 0))),oB false],[.one (.t (.val (.slice none 0 0))),oB false],rfl,rfl,[oL 1 [],oB false], .cons (.one (.nil 1)) (.cons (.one (.refl _)) .nil),rfl,[],false,rfl,fun e he=>by simp at he⟩
       · have F7:k < l.length:=by
          have:(k:Int)≠ (l.length:Int):=by simpa using h
          omega
         obtain⟨pk,hpk,apW⟩:=hkey F7
         conv=>whnf
         refine bY (bj ?_)
         conv=>whnf
         refine Q3 (id:=o) rfl hM.rg.out rfl PW Kb hM.Iq hM.nk ?_
         conv=>whnf
         have HF:=hM.del (k:Int)
         have hM3:=HF.erase (k:Int)
         refine bY (C5 [0,4,9,10] ?_)
         refine G0 (es:=er (k:Int) es) (ck:=ck) (o:=o) (kk:=(k:Int)) PW Q8 Kb HF.rg rfl rfl (fun t v hv=>?_) ?_
         · have:=uv hv
           simp only[List.mem_cons,List.not_mem_nil,or_false]at this
           omega
         · have hel:=V7 hpk apW
           have Kl:vc v (hE (Sa (er (k:Int) es)) (k:Int) (iC hp' o (.mp (er (k:Int) es) ck))) c xs:=by
            refine Oc.of (Nat.le_refl _) (fun q sz ys hq=>AB ?_)
            rw[bp,if_neg]
            · exact hq
            · rintro rfl
              rw[hM.rg.out]at hq
              simp at hq
           generalize hE (Sa (er (k:Int) es)) (k:Int) (iC hp' o (.mp (er (k:Int) es) ck))=hq at hM3 Kl⊢
           conv=>whnf
           refine bj ?_
           refine QY (v:=v) (kk:=(k:Int)) rfl rfl (Kl.of ?_ (fun _ _ _ h=>h)) (by omega) ?_
           · omega
           · intro P7 v3 IJ hm3
             conv=>whnf
             refine⟨(er (k:Int) es).length,hel,o,er (k:Int) es,ck,v3,xs++[[tI (k:Int)]],?_,IJ,?_,?_,rfl,rfl⟩
             · exact(hM3.mono (Nat.le_refl _) (by omega)).heap hm3 |>.mono (Nat.le_refl _) (by omega)
             · intro e he
               rcases List.mem_append.1 he with he|he
               · exact hxs e he
               · rw[List.mem_singleton]at he
                 exact⟨_,he⟩
             · simp only[List.length_append,List.length_singleton]
               omega
   · conv=>whnf
     refine bY (bj ?_)
     rcases Oc with⟨rfl,rfl⟩|⟨CC,h1,rfl,h3⟩
     · conv=>whnf
       refine BV ?_
       conv=>whnf
       exact⟨[.one (.t (.val (.slice none 0 0))),oB true],[.one (.t (.val (.slice none 0 0))),oB true],rfl,rfl,[oL 1 [],oB true], .cons (.one (.nil 1)) (.cons (.one (.refl _)) .nil),rfl,[],true,rfl,fun e he=>by simp at he⟩
     · conv=>whnf
       refine BV ?_
       conv=>whnf
       refine⟨[.one (.own CC 1 0 xs.length),oB true],[oL 1 xs,oB true],rfl,?_,[oL 1 xs,oB true],iB.refl _,rfl,xs,true,rfl,hxs⟩
       have hfr:=kK (i:=0) (len:=xs.length) h3 rfl (by omega)
       have e:((xs.drop 0).take xs.length)=xs:=by simp
       rw[e]at hfr
       simp only[bB,hfr]
       rfl
theorem oN (l:Lz) (hop: ∀e,e∈l→Cb e) (hl:l.length≤1000000):Tg 91 [oL 5 l] ahA:=aG (nY l hop hl)
end Go.aU.Cd
end
section
namespace Go.aU.Cd
open Go Go.Proofs
set_option maxRecDepth 100000
set_option maxHeartbeats 1000000
def c56:Rc:=Sq (Rg [Mn 4,Mk 5 0]) (Sq (Sq (Rg [Mv 10 0,Le 11 10,Bi 12 .gtr 11 16]) (Cn 12 (Sq (Rg [Mn 4,Mk 5 5]) Rt) Sk)) (Sq (Sq (Rg [Mv 13 0,Le 14 13,Mk 15 0]) (Bk 0 (Lp (Sq (Rg [Bt 16 .lss 15 14]) (Sq (Cn 16 Sk (Ex 0)) (Sq (Bk 1 (Sq (Rg [Mv 17 15,Mv 6 17]) (Sq (Rg [Mv 18 0,Mv 19 6,Mv 20 1,p 21 (.call 90 [t 18,t 19,t 20]),Mv 7 21]) (Sq (Rg [Mv 22 7,Bi 23 .neq 22 0]) (Cn 23 (Sq (Rg [Mv 24 7,Mn 4,Mv 5 24]) Rt) Sk))))) (Rg [Bi 25 .add 15 1,Mv 15 25]))))))) (Sq (Rg [Mv 27 0,p 28 (.call 91 [t 27]),Mv 26 28,Et 29 26 0,Et 30 26 1,Mv 8 29,Mv 9 30]) (Sq (Sq (Rg [Mv 31 9,Nt 32 31]) (Cn 32 (Sq (Rg [Mn 4,Mk 5 9]) Rt) Sk)) (Sq (Rg [Mv 33 8,Mv 4 33,Mk 5 0]) Rt)))))
theorem avE:ae Tryz.prog (Tryz.f56.body.getD .skip)=some c56:=by kernel_rfl
theorem axK:Tryz.f56.body=some (Tryz.f56.body.getD .skip):=rfl
def c39:Rc:=Sq (Rg [Bx 1 0,Mk 2 0]) (Sq (Sq (Rg [Lo 7 13 1,p 14 (.call 55 [t 13]),Mv 3 14]) (Sq (Rg [Mv 15 3,Bi 16 .neq 15 0]) (Cn 16 (Sq (Rg [Mv 17 3,Mv 2 17]) Rt) Sk))) (Sq (Sq (Rg [Fa 19 6 1,Ld 20 19,Fa 21 4 1,Ld 22 21,Le 23 22,p 24 (.call 56 [t 20,t 23]),Mv 18 24,Et 25 18 0,Et 26 18 1,Mv 4 25,Mv 5 26]) (Sq (Rg [Mv 27 5,Bi 28 .neq 27 0]) (Cn 28 (Sq (Rg [Mv 29 5,Mv 2 29]) Rt) Sk))) (Sq (Rg [Fa 30 4 1,Ld 31 30,Le 32 31,p 33 (.make [zb] 1 (t 32) (t 32)),Mv 6 33]) (Sq (Sq (Rg [Fa 34 6 1,Ld 35 34,Le 36 35,Mk 37 0]) (Bk 0 (Lp (Sq (Rg [Bt 38 .lss 37 36]) (Sq (Cn 38 Sk (Ex 0)) (Sq (Bk 1 (Sq (Rg [Ia 39 5 35 37,Lo 5 40 39,p 8 (.alloc [.t (.val (.string ⟨#[]⟩)),zi,zi,zn,zn]),So 5 8 40]) (Sq (Rg [Fa 41 4 8,Ld 42 41,Le 43 42,Mk 44 0]) (Bk 2 (Lp (Sq (Rg [Bt 45 .lss 44 43]) (Sq (Cn 45 Sk (Ex 2)) (Sq (Bk 3 (Sq (Rg [Ia 46 1 42 44,Ld 47 46,Mv 10 47]) (Rg [Mv 48 6,Mv 49 10,Ia 50 1 48 49,q (.store 1 (t 50) (kb true))]))) (Rg [Bi 51 .add 44 1,Mv 44 51]))))))))) (Rg [Bi 52 .add 37 1,Mv 37 52]))))))) (Sq (Sq (Rg [Mv 53 6,Le 54 53,Mk 55 0]) (Bk 4 (Lp (Sq (Rg [Bt 56 .lss 55 54]) (Sq (Cn 56 Sk (Ex 4)) (Sq (Bk 5 (Sq (Rg [Ia 57 1 53 55,Ld 58 57,Mv 12 58]) (Sq (Rg [Mv 59 12,Nt 60 59]) (Cn 60 (Sq (Rg [Mk 2 20]) Rt) Sk)))) (Rg [Bi 61 .add 55 1,Mv 55 61]))))))) (Sq (Rg [Mk 2 0]) Rt))))))
theorem avK:ae Tryz.prog (Tryz.f39.body.getD .skip)=some c39:=by kernel_rfl
theorem axQ:Tryz.f39.body=some (Tryz.f39.body.getD .skip):=rfl
theorem RQ.RZ {Q:List T→Prop} {xs:Lz} {i:Nat} (hi:(i:Int) < (xs.length:Int)) (hl:xs.length≤maxLen) (h:Pre Q xs i) (hq: ∀e,xs[((i:Int)).toNat]? =some e→Q e):RQ Q xs (xs.length - (i+1)) [iV .i64 (IntKind.i64.wrap ((i:Int)+1))]:=by
 have hlt:i < xs.length:=by omega
 have hs:xs[((i:Int)).toNat]? =some xs[i]:=by simp[hlt]
 exact RQ.next hi hl h hs (hq _ hs)
theorem mM (l:Lz) (vv:Int) (hop: ∀e,e∈l→Cb e) (hl:l.length≤maxLen):Tg 56 [oL 5 l,oI vv] (JM 1 (fun _=>0≤vv→ ∀e,e∈l→Jr vv e)):=by
 refine aG ?_
 refine ah (n:=34) (rs:=[.tmp 4, .tmp 5]) Tryz.func56 axK avE rfl rfl (by simp) ?_
 repeat' (conv=>whnf
          first
  |(refine az (fun h=>?_) (fun h=>?_))
  |(refine cv (fun h=>?_) (fun h=>?_))
  |(refine aB (fun h=>?_) (fun h=>?_))
  |(refine ai rfl (nX l _ vv hop hl (by omega) (by omega)) ?_;rintro _ ⟨e,rfl,hc⟩)
  |(refine ai rfl (oN l hop (by omega)) ?_;rintro _ ⟨ord,b,rfl,Oc⟩)
  |exact iy rfl (dR 1 rfl) (dw rfl) ⟨_,_,rfl,fun h0=>absurd h0 (by omega)⟩
  |exact iy rfl (dw rfl) (dw rfl) ⟨_,_,rfl,fun _ hu e he=>hp.all (by omega) e he hu⟩
  |(apply aK [0,1,14,15] [] [15] (RQ (fun e=>0≤vv→Jr vv e) l) (l.length) [iV .i64 0];(conv=>whnf);exact⟨rfl,rfl,rfl,rfl⟩;exact rfl;exact rfl;exact RQ.zero;rintro _ _ ⟨i,hi,hp,rfl,rfl⟩)
  |(refine aq [0,1,14,15] [] ?_;(conv=>whnf);exact⟨rfl,_,[_],RQ.RZ (by omega) hl hp (fun e he hu=>hc (by omega) hu e he),rfl,rfl,rfl,by omega⟩))
 all_goals (conv=>whnf)
def QK (N:Nat) (xs:Lz) (m:Nat) (vs:List V) (xss:List (Lz)):Prop:= ∃ (i:Nat) (zs:Lz),i≤xs.length∧m=xs.length - i∧vs=[iV .i64 (i:Int)]∧xss=[zs]∧zs.length=N∧Bs zs
theorem QK.next {N:Nat} {xs zs:Lz} {i:Nat} (hi:(i:Int) < (xs.length:Int)) (hl:xs.length≤maxLen) (hz:zs.length=N) (hZ:Bs zs):QK N xs (xs.length - (i+1)) [iV .i64 (IntKind.i64.wrap ((i:Int)+1))] [zs]:=
 ⟨i+1,zs,by omega,rfl,by simp only[maxLen]at hl;rw[bO (by omega) (by omega)];rfl,rfl,hz,hZ⟩
def RTk (zs:Lz) (m:Nat) (vs:List V) (xss:List (Lz)):Prop:= ∃i:Nat,i≤zs.length∧m=zs.length - i∧vs=[iV .i64 (i:Int)]∧xss=[zs]
theorem RTk.next {zs:Lz} {i:Nat} (hi:(i:Int) < (zs.length:Int)) (hl:zs.length≤maxLen):RTk zs (zs.length - (i+1)) [iV .i64 (IntKind.i64.wrap ((i:Int)+1))] [zs]:=
 ⟨i+1,by omega,rfl,by simp only[maxLen]at hl;rw[bO (by omega) (by omega)];rfl,rfl⟩
theorem rK (sn:ByteArray) (bM ms ps us ss os:Lz) (hS:jE sn bM ms ps us ss os):Tg 39 [g8 sn bM ms ps us ss os] (nF (fun n=>n=0→ahG bM ms ps us ss os)):=by
 have II:=hS.II
 have hxl:=hS.BC
 refine ah (n:=62) (rs:=[.tmp 2]) Tryz.func39 axQ avK rfl rfl (by simp) ?_
 repeat' (conv=>whnf
          first
  |(refine az (fun h=>?_) (fun h=>?_))
  |(refine cv (fun h=>?_) (fun h=>?_))
  |(refine aB (fun h=>?_) (fun h=>?_))
  |(refine And.intro ⟨by omega,by omega,by have:=(hC (by omega)).1.2.1;omega,by have:=(hC (by omega)).1.2.1;omega⟩ ?_)
  |(refine ap (xs:=ul) huu (by omega) (by omega) ?_;rintro _ ⟨x,rfl,je,pN⟩ lj)
  |(refine ap (xs:=os) (fun e he=>(⟨hS.hos e he,hU (by omega) (by omega) e he⟩:Cb e∧Jr us.length e)) (by omega) (by omega) ?_;rintro _ ⟨_,nm,om,ot,af,ul,rfl,BC,huu⟩ hs)
  |(refine And.intro ⟨by omega,by omega⟩ ?_)
  |(refine ai rfl (jn sn bM ms ps us ss os hS) ?_;rintro _ ⟨e,rfl,hC⟩)
  |(refine ai rfl (mM os us.length hS.hos hS.II) ?_;rintro _ ⟨ord,e2,rfl,hU⟩)
  |(refine cg (xs:=Dq) rfl hZ2 (by omega) ?_;rintro _ ⟨b,rfl⟩ hs5)
  |(refine cg (xs:=zs) rfl hZ (by omega) ?_;rintro _ ⟨b,rfl⟩ hs5)
  |(refine pQ rfl rfl (fun h0=>?_);first|(exfalso;omega)|exact hC (by omega))
  |(apply bc [53,54,55] [] [55] [(4,1)] (RTk zs) (zs.length) [iV .i64 0];(conv=>whnf);exact⟨rfl,rfl,rfl,rfl⟩;exact rfl;exact rfl;exact .cons (aL.aF (xs:=zs) rfl _) .nil;exact⟨0,by omega,rfl,rfl,rfl⟩;rintro _ _ _ ⟨q,hq,rfl,rfl,rfl⟩)
  |(refine aq [53,54,55] [] ?_;(conv=>whnf);exact⟨rfl,_,[_],_, .cons (aL.aF (xs:=zs) rfl _) .nil,RTk.next (by omega) (by omega),rfl,rfl,by omega⟩)
  |(apply bc [6,35,36,37,42,43,44] [] [44] [(4,1)] (QK us.length ul) (ul.length) [iV .i64 0];(conv=>whnf);exact⟨rfl,rfl,rfl,rfl⟩;exact rfl;exact rfl;exact .cons (aL.aF (xs:=zs) rfl _) .nil;exact⟨0,zs,by omega,rfl,rfl,rfl,hz,hZ⟩;rintro _ _ _ ⟨j,Dq,hj,rfl,rfl,rfl,vj,hZ2⟩)
  |(refine aq [6,35,36,37,42,43,44] [] ?_;(conv=>whnf);exact⟨rfl,_,[_],_, .cons (aL.aF (aL.set (xs:=Dq) rfl _ [tB _]) _) .nil,QK.next (by omega) BC (by simp[vj]) (hZ2.set _ _),rfl,rfl,by omega⟩)
  |(apply bc [6,35,36,37] [] [37] [(4,1)] (QK us.length os) (os.length) [iV .i64 0];(conv=>whnf);exact⟨rfl,rfl,rfl,rfl⟩;exact rfl;exact rfl;exact .cons (aL.aF (aL.replicate _ [tB false]) _) .nil;exact⟨0,_,by omega,rfl,rfl,rfl,by simp,Bs.Fl _ _⟩;rintro _ _ _ ⟨i,zs,hi,rfl,rfl,rfl,hz,hZ⟩)
  |(refine aq [6,35,36,37] [] ?_;(conv=>whnf);exact⟨rfl,_,[_],_, .cons (aL.aF (xs:=Dq) rfl _) .nil,QK.next (by omega) II vj hZ2,rfl,rfl,by omega⟩))
 all_goals (conv=>whnf)
end Go.aU.Cd
end
section
namespace Go.aU.Cd
open Go Go.Proofs
set_option maxRecDepth 100000
set_option maxHeartbeats 1000000
def c28:Rc:=Sq (Rg [Bx 4 0,Bx 5 1,Mk 8 0]) (Sq (Sq (Rg [Lo 7 14 4,p 15 (.call 39 [t 14]),Mv 9 15]) (Sq (Rg [Mv 16 9,Bi 17 .neq 16 0]) (Cn 17 (Sq (Rg [Mv 18 9,Mv 8 18]) Rt) Sk))) (Sq (Sq (Rg [Lo 7 19 4,Fa 20 0 5,Lo 6 21 20,p 22 (.call 40 [t 19,t 21]),Mv 10 22]) (Sq (Rg [Mv 23 10,Bi 24 .neq 23 0]) (Cn 24 (Sq (Rg [Mv 25 10,Mv 8 25]) Rt) Sk))) (Sq (Sq (Rg [Fa 26 6 5,Ld 27 26,Le 28 27,Bi 29 .gtr 28 40]) (Cn 29 (Sq (Rg [Mk 8 5]) Rt) Sk)) (Sq (Sq (Rg [Lo 7 30 5,Mv 31 2,p 32 (.call 41 [t 30,t 31]),Mv 11 32]) (Sq (Rg [Mv 33 11,Bi 34 .neq 33 0]) (Cn 34 (Sq (Rg [Mv 35 11,Mv 8 35]) Rt) Sk))) (Sq (Sq (Rg [Mv 36 3,Le 37 36,Bi 38 .gtr 37 2400]) (Cn 38 (Sq (Rg [Mk 8 5]) Rt) Sk)) (Sq (Sq (Rg [Mv 39 3,Le 40 39,Mk 41 0]) (Bk 0 (Lp (Sq (Rg [Bt 42 .lss 41 40]) (Sq (Cn 42 Sk (Ex 0)) (Sq (Bk 1 (Sq (Rg [Ia 43 6 39 41,Lo 6 44 43,p 13 (.alloc [zi,zi,zi,zi,zn,zb]),So 6 13 44]) (Sq (Rg [Fa 45 0 13,Ld 46 45,Bi 47 .lss 46 0,Mv 48 47,Ga 48 (Fa 49 0 13),Ga 48 (Ld 50 49),Ga 48 (Fa 51 6 5),Ga 48 (Ld 52 51),Ga 48 (Le 53 52),Ga 48 (Bt 54 .geq 50 53),Pt 55 48 54,Mv 56 55,Ga 56 (Fa 57 1 13),Ga 56 (Ld 58 57),Ga 56 (Bi 59 .lss 58 0),Pt 60 56 59,Mv 61 60,Ga 61 (Fa 62 1 13),Ga 61 (Ld 63 62),Ga 61 (Fa 64 0 5),Ga 61 (Fa 65 5 64),Ga 61 (Ld 66 65),Ga 61 (Le 67 66),Ga 61 (Bt 68 .geq 63 67),Pt 69 61 68]) (Cn 69 (Sq (Rg [Mk 8 3]) Rt) Sk)))) (Rg [Bi 70 .add 41 1,Mv 41 70]))))))) (Sq (Rg [Mk 8 0]) Rt)))))))
theorem avO:ae Tryz.prog (Tryz.f28.body.getD .skip)=some c28:=by kernel_rfl
theorem axU:Tryz.f28.body=some (Tryz.f28.body.getD .skip):=rfl
def agW (e:List T):Prop:= ∃p q l s rs d,e=[tI p,tI q,tI l,tI s, .ao 1 rs,tB d]
abbrev Eu (xs:Lz):Prop:= ∀e,e∈xs→agW e
def EJ (np nq:Nat) (e:List T):Prop:=0≤nI 0 e∧nI 0 e < (np:Int)∧0≤nI 1 e∧nI 1 e < (nq:Int)
instance (np nq:Nat) (e:List T):Decidable (EJ np nq e):=by unfold EJ;exact inferInstance
def zh (e1 e2 e3:Int) (np:Nat):Int:=if e1≠0 then e1 else if e2≠0 then e2 else if 40 < np then 5 else e3
def uK (e0:Int) (np nq:Nat) (cuts:Lz):Int:=if e0≠0 then e0 else if 2400 < cuts.length then 5 else if cuts.all (fun c=>decide (EJ np nq c))=true then 0 else 3
section
variable {e1 e2 e3:Int} {np nq:Nat} {cuts:Lz}
theorem auQ (h:e1≠0):e1=uK (zh e1 e2 e3 np) np nq cuts:=by simp[uK,zh,h]
theorem auP (h:e1=0) (h2:e2≠0):e2=uK (zh e1 e2 e3 np) np nq cuts:=by simp[uK,zh,h,h2]
theorem auO (h:e1=0) (h2:e2=0) (h3:40 < np):5=uK (zh e1 e2 e3 np) np nq cuts:=by simp[uK,zh,h,h2,h3]
theorem auN (h:e1=0) (h2:e2=0) (h3:np≤40) (h4:e3≠0):e3=uK (zh e1 e2 e3 np) np nq cuts:=by
 have A4:¬40 < np:=by omega
 simp[uK,zh,h,h2,A4,h4]
theorem auM (h:e1=0) (h2:e2=0) (h3:np≤40) (h4:e3=0) (h5:2400 < cuts.length):5=uK (zh e1 e2 e3 np) np nq cuts:=by
 have A4:¬40 < np:=by omega
 simp[uK,zh,h,h2,A4,h4,h5]
theorem auL (h:e1=0) (h2:e2=0) (h3:np≤40) (h4:e3=0) (h5:cuts.length≤2400) {i:Nat} {e:List T} (hs:cuts[i]? =some e) (hn:¬EJ np nq e):3=uK (zh e1 e2 e3 np) np nq cuts:=by
 have A4:¬40 < np:=by omega
 have Ty:¬2400 < cuts.length:=by omega
 have h6:¬ (cuts.all (fun c=>decide (EJ np nq c))=true):=by
  intro ha
  have:=List.all_eq_true.1 ha e (List.mem_of_getElem? hs)
  exact hn (by simpa using this)
 simp only[uK,zh,h,h2,A4,h4,Ty,h6,ne_eq,not_true_eq_false,if_false,Bool.false_eq_true]
theorem auK (h:e1=0) (h2:e2=0) (h3:np≤40) (h4:e3=0) (h5:cuts.length≤2400) (ha: ∀e,e∈cuts→EJ np nq e):0=uK (zh e1 e2 e3 np) np nq cuts:=by
 have A4:¬40 < np:=by omega
 have Ty:¬2400 < cuts.length:=by omega
 have h6:cuts.all (fun c=>decide (EJ np nq c))=true:=List.all_eq_true.2 (fun e he=>by simpa using ha e he)
 simp only[uK,zh,h,h2,A4,h4,Ty,h6,ne_eq,not_true_eq_false,if_false,if_true]
end
theorem YA {e1 e2 e3:Int} {np:Nat} (h:zh e1 e2 e3 np=0):e1=0∧e2=0∧np≤40∧e3=0:=by
 unfold zh at h
 split at h
 · omega
 · split at h
   · omega
   · split at h
     · omega
     · refine⟨by omega,by omega,by omega,h⟩
theorem Da {e0:Int} {np nq:Nat} {cuts:Lz} (h:uK e0 np nq cuts=0):e0=0∧cuts.length≤2400∧ ∀e,e∈cuts→EJ np nq e:=by
 unfold uK at h
 split at h
 · omega
 · split at h
   · omega
   · split at h
     · rename_i h1 h2 h3
       exact⟨by omega,by omega,fun e he=>by simpa using List.all_eq_true.1 h3 e he⟩
     · omega
theorem sr (sn:ByteArray) (bM ms ps us ss os:Lz) (ln wd rx ry:Int) (sizes places ag bs cuts:Lz) (e1 e2 e3:Int) (h1:Te 39 [g8 sn bM ms ps us ss os] [oI e1]) (h2:Te 40 [g8 sn bM ms ps us ss os,oMk ln wd rx ry sizes places] [oI e2]) (h3:Te 41 [kF ln wd rx ry sizes places ag,oL 6 bs] [oI e3]) (hc:Eu cuts) (ee:cuts.length≤maxLen):Tg 28 [g8 sn bM ms ps us ss os,kF ln wd rx ry sizes places ag,oL 6 bs,oL 6 cuts] (nF (fun n=>n=uK (zh e1 e2 e3 ag.length) ag.length places.length cuts)):=by
 refine ah (n:=71) (rs:=[.tmp 8]) Tryz.func28 axU avO rfl rfl (by simp) ?_
 repeat' (conv=>whnf
          first
  |(refine az (fun h=>?_) (fun h=>?_))
  |(refine cv (fun h=>?_) (fun h=>?_))
  |(refine ap (xs:=cuts) hc (by omega) (by omega) ?_;rintro _ ⟨p,q,lo,sz,rs,d,rfl⟩ hs)
  |(refine ai rfl (h1) ?_;rintro _ rfl)
  |(refine ai rfl (h2) ?_;rintro _ rfl)
  |(refine ai rfl (h3) ?_;rintro _ rfl)
  |(refine pQ rfl rfl ?_;first|exact auQ (by omega)|exact auP (by omega) (by omega)|exact auO (by omega) (by omega) (by omega)|exact auN (by omega) (by omega) (by omega) (by omega)|exact auM (by omega) (by omega) (by omega) (by omega) (by omega)|exact auK (by omega) (by omega) (by omega) (by omega) (by omega) (hp.all (by omega))|exact auL (by omega) (by omega) (by omega) (by omega) (by omega) hs (fun hc=>by have c1:(0:Int)≤p:=hc.1;have c2:p < (ag.length:Int):=hc.2.1;have c3:(0:Int)≤q:=hc.2.2.1;have c4:q < (places.length:Int):=hc.2.2.2;omega))
  |(apply aK [5,39,40,41] [] [41] (RQ (EJ ag.length places.length) cuts) (cuts.length) [iV .i64 0];(conv=>whnf);exact⟨rfl,rfl,rfl,rfl⟩;exact rfl;exact rfl;exact RQ.zero;rintro _ _ ⟨i,hi,hp,rfl,rfl⟩)
  |(refine aq [5,39,40,41] [] ?_;(conv=>whnf);exact⟨rfl,_,[_],RQ.next (by omega) ee hp hs ⟨show(0:Int)≤p by omega,show p < (ag.length:Int) by omega,show(0:Int)≤q by omega,show q < (places.length:Int) by omega⟩,rfl,rfl,rfl,by omega⟩))
 all_goals (conv=>whnf)
end Go.aU.Cd
end
section
namespace Go.aU.Cd
open Go Go.Proofs
set_option maxRecDepth 100000
set_option maxHeartbeats 1000000
def c29:Rc:=Sq (Rg [Bx 4 0,Mn 8,Mb 9 false]) (Sq (Dr [Fa 18 6 4,Ld 19 18,Mv 20 3,Ia 21 2 19 20,Fa 22 0 21,Ld 23 22,Fa 24 0 4,Fa 25 4 24,Ld 26 25,Mv 27 2,Ia 28 1 26 27,Ld 29 28,Mv 10 23,Mv 11 29] [[],[0],[],[1,2],[3],[4],[],[6],[7],[],[8,9],[10],[5,0,1,2,3,4,5],[11,12,0,1,2,3,4,5,6,7,8,9,10,11,12]]) (Sq (Rg [Mn 12]) (Sq (Sq (Rg [Fa 30 0 4,Fa 31 5 30,Ld 32 31,Le 33 32,Mk 34 0]) (Bk 0 (Lp (Sq (Rg [Bt 35 .lss 34 33]) (Sq (Cn 35 Sk (Ex 0)) (Sq (Bk 1 (Sq (Rg [Mv 36 34,Ia 37 7 32 34,Lo 7 38 37,p 14 (.alloc [zi,zi,zi,zb,zi,zi,zi]),Mv 13 36,So 7 14 38]) (Sq (Sq (Rg [Fa 39 0 14,Ld 40 39,Mv 41 2,Bt 42 .neq 40 41]) (Cn 42 (Ex 1) Sk)) (Sq (Rg [p 15 (.hY (k (-1)))]) (Sq (Sq (Rg [Mv 43 1,Le 44 43,Mk 45 0]) (Bk 2 (Lp (Sq (Rg [Bt 46 .lss 45 44]) (Sq (Cn 46 Sk (Ex 2)) (Sq (Bk 3 (Sq (Rg [Mv 47 45,Ia 48 6 43 45,Lo 6 49 48,p 17 (.alloc [zi,zi,zi,zi,zn,zb]),Mv 16 47,So 6 17 49]) (Sq (Rg [Fa 50 1 17,Ld 51 50,Mv 52 13,Bt 53 .eql 51 52,Mv 54 53,Gb 54 (Fa 55 0 17),Gb 54 (Ld 56 55),Gb 54 (Mv 57 3),Gb 54 (Bt 58 .eql 56 57),Pf 59 54 58,Mv 60 59,Gb 60 (Fa 61 5 17),Gb 60 (Ld 62 61),Gb 60 (Nt 63 62),Pf 64 60 63,Mv 65 64,Gb 65 (Fa 66 2 17),Gb 65 (Ld 67 66),Gb 65 (Mv 68 10),Gb 65 (Bt 69 .eql 67 68),Pf 70 65 69,Mv 71 70,Gb 71 (Fa 72 3 17),Gb 71 (Ld 73 72),Gb 71 (Mv 74 11),Gb 71 (Bt 75 .eql 73 74),Pf 76 71 75]) (Cn 76 (Sq (Rg [Mv 77 16,Mv 15 77]) (Ex 2)) Sk)))) (Rg [Bi 78 .add 45 1,Mv 45 78]))))))) (Sq (Sq (Rg [Mv 79 15,Bi 80 .lss 79 0]) (Cn 80 (Sq (Rg [Mn 8,Mb 9 false]) Rt) Sk)) (Rg [Mv 81 12,Mv 82 15,p 83 (.aT [zi] 1 [(0,t 82)]),p 84 (.append 1 8 (t 81) (t 83)),Mv 12 84]))))))) (Rg [Bi 85 .add 34 1,Mv 34 85]))))))) (Sq (Rg [Mv 86 12,Mv 8 86,Mb 9 true]) Rt))))
theorem avN:ae Tryz.prog (Tryz.f29.body.getD .skip)=some c29:=by kernel_rfl
theorem axT:Tryz.f29.body=some (Tryz.f29.body.getD .skip):=rfl
def c32:Rc:=Sq (Rg [p 4 (.alloc [zi,zi,zi,zi,zi,zi]),Mb 5 false]) (Sq (Sq (Rg [Mv 8 0,Le 9 8,Mk 10 0]) (Bk 0 (Lp (Sq (Rg [Bt 11 .lss 10 9]) (Sq (Cn 11 Sk (Ex 0)) (Sq (Bk 1 (Sq (Rg [Ia 12 6 8 10,Lo 6 13 12,p 7 (.alloc [zi,zi,zi,zi,zi,zi]),So 6 7 13]) (Sq (Rg [Fa 14 0 7,Ld 15 14,Mv 16 1,Bt 17 .eql 15 16]) (Cn 17 (Sq (Rg [Lo 6 18 7,So 6 4 18,Mb 5 true]) Rt) Sk)))) (Rg [Bi 19 .add 10 1,Mv 10 19]))))))) (Sq (Rg [p 20 (.build [zi,zi,zi,zi,zi,zi] []),So 6 4 20,Mb 5 false]) Rt))
theorem avM:ae Tryz.prog (Tryz.f32.body.getD .skip)=some c32:=by kernel_rfl
theorem axS:Tryz.f32.body=some (Tryz.f32.body.getD .skip):=rfl
structure rB (sizes places ag:Lz):Prop where
 hz:Is sizes
 sG:sizes.length≤1000000
 hp:QO places
 ED:places.length≤1000000
 hy:QN ag
 vl:ag.length≤1000000
theorem uR (sn:ByteArray) (bM ms ps us ss os:Lz) (hS:jE sn bM ms ps us ss os) (ln wd rx ry:Int) (sizes places ag:Lz) (hL:rB sizes places ag) (bs:Lz) (hb:JQ bs) (BK:bs.length≤maxLen):
 ∃e0:Int,(e0=0→ag.length≤40∧xA sizes ag bs bs.length)∧ ∀cuts,Eu cuts→cuts.length≤maxLen→
  Te 28 [g8 sn bM ms ps us ss os,kF ln wd rx ry sizes places ag,oL 6 bs,oL 6 cuts] [oI (uK e0 ag.length places.length cuts)]:=by
 have h1:=hL.sG
 have h2:=hL.vl
 obtain⟨ts1,f1,i1,e1,rfl,_⟩:=rK sn bM ms ps us ss os hS
 obtain⟨ts2,f2,i2,e2,rfl⟩:=yl sn bM ms ps us ss os hS ln wd rx ry sizes places hL.hz (by simp only[maxLen];omega) hL.hp hL.ED
 obtain⟨ts3,f3,i3,e3,rfl,hb3⟩:=yW ln wd rx ry sizes places ag bs hL.hz hL.sG hL.hy (by simp only[maxLen];omega) hb BK
 refine⟨zh e1 e2 e3 ag.length,fun h0=>?_,fun cuts hc ee=>?_⟩
 · obtain⟨_,_,h3,h4⟩:=YA h0
   exact⟨h3,hb3 h4⟩
 · obtain⟨ts,f,i,n,rfl,rfl⟩:=sr sn bM ms ps us ss os ln wd rx ry sizes places ag bs cuts e1 e2 e3 ⟨_,f1,i1,rfl⟩ ⟨_,f2,i2,rfl⟩ ⟨_,f3,i3,rfl⟩ hc ee
   exact⟨_,f,i,rfl⟩
def Ak (place jk sE size:Int) (c:List T):Bool:=decide (nI 1 c=place)&&decide (nI 0 c=jk)&& !nB 5 c&&decide (nI 2 c=sE)&&decide (nI 3 c=size)
def Mr (cuts:Lz) (jk sE size:Int) (j:Nat):Option Nat:=cuts.findIdx? (Ak (j:Int) jk sE size)
def fJ (g:Int) (fi:Nat→Option Nat) (places:Lz):Nat→Option (Lz)
 |0=>some []
 |j+1=>match fJ g fi places j with
  |none=>none
  |some zs=>match places[j]? with
   |none=>some zs
   |some p=>if nI 0 p=g then match fi j with
     |none=>none
     |some i=>some (zs++[[tI (i:Int)]])
    else some zs
theorem tA {g:Int} {fi:Nat→Option Nat} {places:Lz} {j:Nat} (h:fJ g fi places j=none): ∀d,fJ g fi places (j+d)=none
 |0=>h
 |d+1=>by
  have:=tA h d
  rw[←Nat.add_assoc]
  simp only[fJ,this]
def anS (o:Option (Lz)):List W:=match o with
 |none=>[oL 1 [],oB false]
 |some zs=>[oL 1 zs,oB true]
def PJ (g:Int) (fi:Nat→Option Nat) (places:Lz) (m:Nat) (vs:List V) (xss:List (Lz)):Prop:=
 ∃ (j:Nat) (zs:Lz),j≤places.length∧m=places.length - j∧vs=[bK 4 1 zs.length,iV .i64 (j:Int)]∧xss=[zs]∧zs.length≤j∧fJ g fi places j=some zs
theorem PJ.skip {g:Int} {fi:Nat→Option Nat} {places zs:Lz} {j:Nat} {p:List T} (hj:(j:Int) < (places.length:Int)) (hl:places.length≤1000000) (sG:zs.length≤j) (hz:fJ g fi places j=some zs) (hs:places[((j:Int)).toNat]? =some p) (hg:nI 0 p≠g):
 PJ g fi places (places.length - (j+1)) [bK 4 1 zs.length,iV .i64 (IntKind.i64.wrap ((j:Int)+1))] [zs]:=by
 refine⟨j+1,zs,by omega,rfl,by rw[bO (by omega) (by omega)];rfl,rfl,by omega,?_⟩
 have hs':places[j]? =some p:=by simpa using hs
 simp only[fJ,hz,hs',if_neg hg]
theorem PJ.hit {g:Int} {fi:Nat→Option Nat} {places zs:Lz} {j i:Nat} {p:List T} (hj:(j:Int) < (places.length:Int)) (hl:places.length≤1000000) (sG:zs.length≤j) (hz:fJ g fi places j=some zs) (hs:places[((j:Int)).toNat]? =some p) (hg:nI 0 p=g) (hf:fi j=some i) {n:Nat} (hn:n=zs.length+1):
 PJ g fi places (places.length - (j+1)) [bK 4 1 n,iV .i64 (IntKind.i64.wrap ((j:Int)+1))] [zs++[[tI (i:Int)]]]:=by
 refine⟨j+1,zs++[[tI (i:Int)]],by omega,rfl,by rw[bO (by omega) (by omega)];subst hn;simp,rfl,by simp;omega,?_⟩
 have hs':places[j]? =some p:=by simpa using hs
 simp only[fJ,hz,hs',if_pos hg,hf]
theorem I9 {cuts:Lz} {jk sE size:Int} {j i:Nat} {e:List T} (hp:Pre (fun e=>¬ (Ak (j:Int) jk sE size e=true)) cuts i) (hs:cuts[((i:Int)).toNat]? =some e) (he:Ak (j:Int) jk sE size e=true):Mr cuts jk sE size j=some i:=by
 have hs':cuts[i]? =some e:=by simpa using hs
 unfold Mr
 rw[List.findIdx?_eq_some_iff_getElem]
 obtain⟨hlt,hge⟩:=List.getElem?_eq_some_iff.1 hs'
 refine⟨hlt,by rw[hge];exact he,fun k hk=>?_⟩
 have:=hp k cuts[k] hk (by simp[Nat.lt_trans hk hlt])
 simpa using this
theorem Ja {cuts:Lz} {jk sE size:Int} {j:Nat} (hp: ∀e,e∈cuts→¬ (Ak (j:Int) jk sE size e=true)):Mr cuts jk sE size j=none:=by
 unfold Mr
 rw[List.findIdx?_eq_none_iff]
 intro e he
 simpa using hp e he
theorem Fv {g:Int} {fi:Nat→Option Nat} {places zs:Lz} {j:Nat} {p:List T} (hj:(j:Int) < (places.length:Int)) (hz:fJ g fi places j=some zs) (hs:places[((j:Int)).toNat]? =some p) (hg:nI 0 p=g) (hf:fi j=none):fJ g fi places places.length=none:=by
 have hs':places[j]? =some p:=by simpa using hs
 have h1:fJ g fi places (j+1)=none:=by simp only[fJ,hz,hs',if_pos hg,hf]
 have:=tA h1 (places.length - (j+1))
 rwa [show j+1+(places.length - (j+1))=places.length by omega]at this
theorem On {place jk sE size p q l s:Int} {rs:Lz} {d:Bool} (h1:q=place) (h2:p=jk) (h3:(!d)=true) (h4:l=sE) (h5:s=size):Ak place jk sE size [tI p,tI q,tI l,tI s, .ao 1 rs,tB d]=true:=by
 subst h1 h2 h4 h5
 simp[Ak,nI,nB]
 simpa using h3
def RCu (Q:List T→Prop) (cuts zs:Lz) (m:Nat) (vs:List V) (xss:List (Lz)):Prop:= ∃i:Nat,i≤cuts.length∧Pre Q cuts i∧m=cuts.length - i∧vs=[iV .i64 (-1),iV .i64 (i:Int)]∧xss=[zs]
theorem RCu.next {Q:List T→Prop} {cuts zs:Lz} {i:Nat} {e:List T} (hi:(i:Int) < (cuts.length:Int)) (hl:cuts.length≤maxLen) (h:Pre Q cuts i) (hs:cuts[((i:Int)).toNat]? =some e) (hq:Q e):RCu Q cuts zs (cuts.length - (i+1)) [iV .i64 (-1),iV .i64 (IntKind.i64.wrap ((i:Int)+1))] [zs]:=
 ⟨i+1,by omega,h.succ (by simpa using hs) hq,rfl,by simp only[maxLen]at hl;rw[bO (by omega) (by omega)];rfl,rfl⟩
theorem so (ln wd rx ry:Int) (sizes places ag cuts:Lz) (hp:QO places) (ED:places.length≤1000000) (hc:Eu cuts) (ee:cuts.length≤maxLen) (g jk sE size:Int) (qq:T) (yD:0≤g) (lf:0≤jk) (Oi:ag[jk.toNat]? =some [tI sE,qq]) (hsize:sizes[g.toNat]? =some [tI size]): ∃ts,Fn Tryz.prog 29 [kF ln wd rx ry sizes places ag,oL 6 cuts,oI g,oI jk] [] (aO ts) []∧(aO ts).bJ=true∧(fun ts=>ts=anS (fJ g (Mr cuts jk sE size) places places.length)) ts:=by
 refine aG ?_
 refine ah (n:=87) (rs:=[.tmp 8, .tmp 9]) Tryz.func29 axT avN rfl rfl (by simp) ?_
 repeat' (conv=>whnf
          first
  |(refine az (fun h=>?_) (fun h=>?_))
  |(refine cv (fun h=>?_) (fun h=>?_))
  |(refine aB (fun h=>?_) (fun h=>?_))
  |(refine And.intro lf (Exists.intro _ (And.intro Oi ?_)))
  |(refine And.intro yD (Exists.intro _ (And.intro hsize ?_)))
  |(refine ap (xs:=places) hp (by omega) (by omega) ?_;rintro _ ⟨g2,u2,k2,f2,q2,x2,y2,rfl⟩ hs)
  |(refine ap (xs:=cuts) hc (by omega) (by omega) ?_;rintro _ ⟨p3,q3,l3,s3,r3,d3,rfl⟩ lj)
  |(refine And.intro ⟨by simp[tr],by simp[tr,bR];omega,by simp[tr,maxLen];omega⟩ ?_)
  |(refine And.intro (by kernel_rfl) ?_)
  |exact iy rfl (dR 1 rfl) (dw rfl) (by rw[Fv (by omega) hz hs (show g2=g by omega) (Ja (hpre.all (by omega)))];rfl)
  |exact iy rfl (fg rfl rfl (xs:=zs) rfl (by omega)) (dw rfl) (by rw[iS rfl,show places.length=j by omega,hz];rfl)
  |(apply bc [1,2,3,10,11,12,13,15,32,33,34,43,44,45] [] [15,45] [(4,1)] (RCu (fun e=>¬ (Ak (j:Int) jk sE size e=true)) cuts zs) (cuts.length) [iV .i64 (-1),iV .i64 0];(conv=>whnf);exact⟨rfl,rfl,rfl,rfl⟩;exact rfl;exact rfl;exact .cons (aL.aF (xs:=zs) rfl _) .nil;exact⟨0,by omega,Pre.zero,rfl,rfl,rfl⟩;rintro _ _ _ ⟨i,hi,hpre,rfl,rfl,rfl⟩)
  |(refine aq [1,2,3,10,11,12,13,15,32,33,34,43,44,45] [] ?_;(conv=>whnf);exact⟨rfl,_,[_,_],_, .cons (aL.aF (xs:=zs) rfl _) .nil,RCu.next (by omega) ee hpre lj (by simp[Ak,nI,nB];first|omega|simp_all),rfl,rfl,by omega⟩)
  |(apply eN [1,2,3,10,11,12,32,33,34] [] [12,34] [(4,1)] (PJ g (Mr cuts jk sE size) places) (places.length) [bK 4 1 0,iV .i64 0] (iA.jh 12 1 rfl);(conv=>whnf);exact⟨rfl,rfl,rfl,rfl⟩;exact rfl;exact rfl;exact .cons (aL.aF aL.nil _) .nil;exact⟨0,[],by omega,rfl,rfl,rfl,by simp,rfl⟩;rintro _ _ _ ⟨j,zs,hj,rfl,rfl,rfl,sG,hz⟩)
  |(refine aq [1,2,3,10,11,12,32,33,34] [] ?_;(conv=>whnf);first|exact⟨rfl,_,[_,_],_, .cons (aL.aF (xs:=zs) rfl _) .nil,PJ.skip (by omega) ED sG hz hs (by assumption),rfl,rfl,by omega⟩|exact⟨rfl,_,[_,_],_, .cons (aL.aF (aL.snoc (xs:=zs) rfl [tI _]) _) .nil,PJ.hit (by omega) ED sG hz hs (show g2=g by omega) (I9 hpre lj (On (by omega) (by omega) (by first|assumption|simp_all) (by omega) (by omega))) (by simp[tr]),rfl,rfl,by omega⟩))
 all_goals (conv=>whnf)
end Go.aU.Cd
end
section
namespace Go.aU.Cd
open Go Go.Proofs
set_option maxRecDepth 100000
set_option maxHeartbeats 1000000
theorem aBd:iN Tryz.prog 56=some true:=by kernel_rfl
theorem zBd:cD Tryz.prog 56=some 6:=by kernel_rfl
def Ed (bs:Lz) (ew:Int):Option (List T):=bs.find? (fun e=>decide (nI 0 e=ew))
def GFd (bs:Lz) (ew:Int) (ts:List W):Prop:= ∃t g s l f o b,ts=[oBd t g s l f o,oB b]∧(b=true→Ed bs ew=some (jg t g s l f o))∧(b=false→Ed bs ew=none)
def RCv (Q:List T→Prop) (cuts zs:Lz) (m:Nat) (vs:List V) (xss:List (Lz)):Prop:= ∃i:Nat,i≤cuts.length∧Pre Q cuts i∧m=cuts.length - i∧vs=[iV .i64 (i:Int)]∧xss=[zs]
theorem RCv.next {Q:List T→Prop} {cuts zs:Lz} {i:Nat} {e:List T} (hi:(i:Int) < (cuts.length:Int)) (hl:cuts.length≤maxLen) (h:Pre Q cuts i) (hs:cuts[((i:Int)).toNat]? =some e) (hq:Q e):RCv Q cuts zs (cuts.length - (i+1)) [iV .i64 (IntKind.i64.wrap ((i:Int)+1))] [zs]:=
 ⟨i+1,by omega,h.succ (by simpa using hs) hq,rfl,by simp only[maxLen]at hl;rw[bO (by omega) (by omega)];rfl,rfl⟩
theorem I7 {bs:Lz} {ew:Int} {i:Nat} {e:List T} (hp:Pre (fun e=>¬ (nI 0 e=ew)) bs i) (hs:bs[((i:Int)).toNat]? =some e) (he:nI 0 e=ew):Ed bs ew=some e:=by
 have hs':bs[i]? =some e:=by simpa using hs
 unfold Ed
 rw[List.find?_eq_some_iff_getElem]
 obtain⟨hlt,hge⟩:=List.getElem?_eq_some_iff.1 hs'
 refine⟨by simpa using he,i,hlt,hge,fun j hj=>?_⟩
 have:=hp j bs[j] hj (by simp[Nat.lt_trans hj hlt])
 simpa using this
theorem GG {bs:Lz} {ew:Int} (hp: ∀e,e∈bs→¬ (nI 0 e=ew)):Ed bs ew=none:=by
 unfold Ed
 rw[List.find?_eq_none]
 intro e he
 simpa using hp e he
theorem wg (bs:Lz) (ew:Int) (hb:JQ bs) (BK:bs.length≤maxLen):Tg 32 [oL 6 bs,oI ew] (GFd bs ew):=by
 refine aG ?_
 refine ah (n:=21) (rs:=[.cell 4 56, .tmp 5]) Tryz.func32 axS avM rfl rfl (by simp) ?_
 repeat' (conv=>whnf
          first
  |(refine az (fun h=>?_) (fun h=>?_))
  |(refine ap (xs:=bs) hb (by omega) (by omega) ?_;rintro _ ⟨t2,g2,s2,l2,f2,o2,rfl⟩ hs)
  |exact iy rfl (bE aBd zBd rfl rfl (Nat.le_refl _) rfl (cG.refl _)) (dw rfl) ⟨_,_,_,_,_,_,_,rfl,fun _=>I7 hp hs (show t2=ew by omega),fun h=>by simp at h⟩
  |exact iy rfl (bE aBd zBd rfl rfl (Nat.le_refl _) rfl (cG.refl _)) (dw rfl) ⟨0,0,0,0,0,0,false,rfl,fun h=>by simp at h,fun _=>GG (hp.all (by omega))⟩
  |(apply bc [1,4,8,9,10] [] [10] [(4,6)] (RCv (fun e=>¬ (nI 0 e=ew)) bs [jg 0 0 0 0 0 0]) (bs.length) [iV .i64 0];(conv=>whnf);exact⟨rfl,rfl,rfl,rfl⟩;exact rfl;exact rfl;exact .cons (aL.aF (xs:=[jg 0 0 0 0 0 0]) rfl _) .nil;exact⟨0,by omega,Pre.zero,rfl,rfl,rfl⟩;rintro _ _ _ ⟨i,hi,hp,rfl,rfl,rfl⟩)
  |(refine aq [1,4,8,9,10] [] ?_;(conv=>whnf);exact⟨rfl,_,[_],_, .cons (aL.aF (xs:=[jg 0 0 0 0 0 0]) rfl _) .nil,RCv.next (by omega) BK hp hs (show ¬ (t2=ew) by omega),rfl,rfl,by omega⟩))
 all_goals (conv=>whnf)
end Go.aU.Cd
end
section
namespace Go.aU.Cd
open Go Go.Proofs
set_option maxRecDepth 100000
set_option maxHeartbeats 1000000
def c14:Rc:=Sq (Rg [Bx 4 0,Bx 5 1,Mn 8,Mk 9 0]) (Sq (Sq (Rg [Lo 7 17 4,Lo 7 18 5,Mv 19 2,Mv 20 3,p 21 (.call 28 [t 17,t 18,t 19,t 20]),Mv 10 21]) (Sq (Rg [Mv 22 10,Bi 23 .neq 22 0]) (Cn 23 (Sq (Rg [Mv 24 10,Mn 8,Mv 9 24]) Rt) Sk))) (Sq (Rg [Mn 11]) (Sq (Sq (Rg [Mv 25 2,Le 26 25,Mk 27 0]) (Bk 0 (Lp (Sq (Rg [Bt 28 .lss 27 26]) (Sq (Cn 28 Sk (Ex 0)) (Sq (Bk 1 (Sq (Rg [Ia 29 6 25 27,Lo 6 30 29,p 13 (.alloc [zi,zi,zi,zi,zi,zi]),So 6 13 30]) (Sq (Rg [Fa 31 4 13,Ld 32 31,Mv 14 32]) (Bk 2 (Lp (Sq (Sq (Rg [Mv 33 14,Fa 34 5 13,Ld 35 34,Bt 36 .lss 33 35]) (Cn 36 Sk (Ex 2))) (Sq (Bk 3 (Sq (Rg [Lo 7 40 5,Mv 41 3,Fa 42 1 13,Ld 43 42,Mv 44 14,p 45 (.call 29 [t 40,t 41,t 43,t 44]),Mv 39 45,Et 46 39 0,Et 47 39 1,Mv 15 46,Mv 16 47]) (Sq (Sq (Rg [Mv 48 16,Nt 49 48]) (Cn 49 (Ex 3) Sk)) (Dr [Mv 50 11,Fa 51 0 13,Ld 52 51,Mv 53 14,Fa 54 2 13,Ld 55 54,Fa 56 6 5,Ld 57 56,Mv 58 14,Ia 59 2 57 58,Fa 60 0 59,Ld 61 60,Mv 62 15,p 63 (.build [zi,zi,zi,zi,zn] [(0,1,t 52),(1,1,t 53),(2,1,t 55),(3,1,t 61),(4,1,t 62)]),p 64 (.aT [zi,zi,zi,zi,zn] 1 [(0,t 63)]),p 65 (.append 5 56 (t 50) (t 64)),Mv 11 65] [[],[],[1],[],[],[4],[],[6],[],[7,8],[9],[10],[],[2,3,5,11,12],[13],[0,14],[15,15,0,1,2,3,4,5,6,7,8,9,10,11,12,13,14,15]])))) (Rg [Mv 37 14,Bi 38 .add 37 1,Mv 14 38])))))))) (Rg [Bi 66 .add 27 1,Mv 27 66]))))))) (Sq (Rg [Mv 67 11,Mv 8 67,Mk 9 0]) Rt))))
theorem avV:ae Tryz.prog (Tryz.f14.body.getD .skip)=some c14:=by kernel_rfl
theorem ayB:Tryz.f14.body=some (Tryz.f14.body.getD .skip):=rfl
def fK (ag:Lz) (jk:Int):Int:=nI 0 ((ag[jk.toNat]?).getD [])
def E3 (sizes:Lz) (g:Int):Int:=nI 0 ((sizes[g.toNat]?).getD [])
def Ih (sizes places ag cuts:Lz) (g jk:Int):Option (Lz):=fJ g (Mr cuts jk (fK ag jk) (E3 sizes g)) places places.length
def GPc (o:Option (Lz)) (ts:List W):Prop:= ∃zs b,ts=[oL 1 zs,oB b]∧(b=true→o=some zs)∧(b=false→o=none)
theorem wG (ln wd rx ry:Int) (sizes places ag:Lz) (hL:rB sizes places ag) (cuts:Lz) (hc:Eu cuts) (ee:cuts.length≤maxLen) (g jk:Int) (yD:0≤g) (hg1:g < (sizes.length:Int)) (lf:0≤jk) (vR:jk < (ag.length:Int)):
 Tg 29 [kF ln wd rx ry sizes places ag,oL 6 cuts,oI g,oI jk] (GPc (Ih sizes places ag cuts g jk)):=by
 have hp:ag[jk.toNat]? =some ag[jk.toNat]:=by simp[show jk.toNat < ag.length by omega]
 have hs:sizes[g.toNat]? =some sizes[g.toNat]:=by simp[show g.toNat < sizes.length by omega]
 obtain⟨sE,qq,Oi⟩:=hL.hy ag[jk.toNat] (List.getElem_mem _)
 obtain⟨size,hsize⟩:=hL.hz sizes[g.toNat] (List.getElem_mem _)
 rw[Oi]at hp
 rw[hsize]at hs
 have e1:fK ag jk=sE:=by simp only[fK,hp,Option.getD_some];rfl
 have e2:E3 sizes g=size:=by simp only[E3,hs,Option.getD_some];rfl
 obtain⟨ts,f,i,rfl⟩:=so ln wd rx ry sizes places ag cuts hL.hp hL.ED hc ee g jk sE size _ yD lf hp hs
 refine⟨_,f,i,?_⟩
 unfold Ih
 rw[e1,e2]
 cases fJ g (Mr cuts jk sE size) places places.length with
 |none=>exact⟨[],false,rfl,fun h=>by simp at h,fun _=>rfl⟩
 |some zs=>exact⟨zs,true,rfl,fun _=>rfl,fun h=>by simp at h⟩
abbrev ko (t p s l:Int) (cU:Lz):List T:=[tI t,tI p,tI s,tI l, .ao 1 cU]
def lI (sizes places ag cuts:Lz) (e:List T):Nat→Lz
 |0=>[]
 |n+1=>lI sizes places ag cuts e n++(match Ih sizes places ag cuts (nI 1 e) (nI 4 e+(n:Int))with
  |none=>[]
  |some cU=>[ko (nI 0 e) (nI 4 e+(n:Int)) (nI 2 e) (fK ag (nI 4 e+(n:Int))) cU])
def jV (sizes places ag cuts bs:Lz):Nat→Lz
 |0=>[]
 |k+1=>jV sizes places ag cuts bs k++(match bs[k]? with
  |none=>[]
  |some e=>lI sizes places ag cuts e (nI 5 e - nI 4 e).toNat)
theorem s0 (sizes places ag cuts:Lz) (e:List T): ∀n,(lI sizes places ag cuts e n).length≤n
 |0=>by simp[lI]
 |n+1=>by
  have:=s0 sizes places ag cuts e n
  simp only[lI,List.length_append]
  split<;>simp<;>omega
def M9 (sizes ag:Lz) (e:List T):Prop:= ∃t g s l f o,e=jg t g s l f o∧(0≤g∧g < (sizes.length:Int))∧0≤f∧f < o∧o≤(ag.length:Int)
theorem O7 {sizes ag bs:Lz} (hb:JQ bs) (h:xA sizes ag bs bs.length): ∀e,e∈bs→M9 sizes ag e:=by
 intro e he
 obtain⟨j,hj,hje⟩:=List.getElem_of_mem he
 obtain⟨t,g,s,l,f,o,rfl⟩:=hb e he
 have:=h j (jg t g s l f o) hj (by rw[List.getElem?_eq_getElem hj,hje])
 exact⟨t,g,s,l,f,o,rfl,this.g,this.f.1,this.f.2.1,this.f.2.2⟩
theorem zC {sizes places ag cuts bs:Lz} (hp:ag.length≤40) (h: ∀e,e∈bs→M9 sizes ag e): ∀k,(jV sizes places ag cuts bs k).length≤40 * k
 |0=>by simp[jV]
 |k+1=>by
  have ih:=zC hp h k (places:=places) (cuts:=cuts)
  simp only[jV,List.length_append]
  cases hk:bs[k]? with
  |none=>simp;omega
  |some e=>
   obtain⟨t,g,s,l,f,o,rfl,hg,h1,h2,h3⟩:=h e (List.mem_of_getElem? hk)
   have:=s0 sizes places ag cuts (jg t g s l f o) (nI 5 (jg t g s l f o) - nI 4 (jg t g s l f o)).toNat
   have e1:nI 5 (jg t g s l f o)=o:=rfl
   have e2:nI 4 (jg t g s l f o)=f:=rfl
   simp only[e1,e2]at this⊢
   omega
def Jw (lay:List T) (sizes places ag cuts bs:Lz) (m:Nat) (vs:List V) (xss:List (Lz)):Prop:=
 ∃ (k:Nat) (zs:Lz),k≤bs.length∧m=bs.length - k∧vs=[bK 8 5 zs.length,iV .i64 (k:Int)]∧xss=[[lay],zs]∧zs=jV sizes places ag cuts bs k∧zs.length≤40 * k
def B5 (lay:List T) (sizes places ag cuts bs:Lz) (k:Nat) (e:List T) (f o:Int) (m:Nat) (vs:List V) (xss:List (Lz)):Prop:=
 ∃ (n:Nat) (zs:Lz),(n:Int)≤o - f∧m=(o - f).toNat - n∧vs=[bK 8 5 zs.length,iV .i64 (f+(n:Int))]∧xss=[[lay],zs,[e]]∧zs=jV sizes places ag cuts bs k++lI sizes places ag cuts e n∧zs.length≤40 * k+n
theorem Jw.next {lay:List T} {sizes places ag cuts bs zs:Lz} {k n:Nat} {t g s l f o:Int} (hk:(k:Int) < (bs.length:Int)) (BK:bs.length≤1000000) (hp:ag.length≤40) (hR: ∀e,e∈bs→M9 sizes ag e) (hs:bs[((k:Int)).toNat]? =some (jg t g s l f o)) (hn:(n:Int)=o - f)
 (hz:zs=jV sizes places ag cuts bs k++lI sizes places ag cuts (jg t g s l f o) n):Jw lay sizes places ag cuts bs (bs.length - (k+1)) [bK 8 5 zs.length,iV .i64 (IntKind.i64.wrap ((k:Int)+1))] [[lay],zs]:=by
 have hs':bs[k]? =some (jg t g s l f o):=by simpa using hs
 have e:zs=jV sizes places ag cuts bs (k+1):=by
  rw[hz]
  simp only[jV,hs']
  have e1:nI 5 (jg t g s l f o)=o:=rfl
  have e2:nI 4 (jg t g s l f o)=f:=rfl
  rw[e1,e2,show(o - f).toNat=n by omega]
 refine⟨k+1,zs,by omega,rfl,by rw[bO (by omega) (by omega)];rfl,rfl,e,?_⟩
 rw[e]
 exact zC hp hR (k+1)
theorem B5.skip {lay:List T} {sizes places ag cuts bs zs:Lz} {k n:Nat} {t g s l f o:Int} (hn:f+(n:Int) < o) (hf:0≤f) (ho:o≤40) (hz:zs=jV sizes places ag cuts bs k++lI sizes places ag cuts (jg t g s l f o) n) (sG:zs.length≤40 * k+n)
 (hp:Ih sizes places ag cuts g (f+(n:Int))=none):B5 lay sizes places ag cuts bs k (jg t g s l f o) f o ((o - f).toNat - (n+1)) [bK 8 5 zs.length,iV .i64 (IntKind.i64.wrap (f+(n:Int)+1))] [[lay],zs,[jg t g s l f o]]:=by
 refine⟨n+1,zs,by omega,rfl,by rw[bO (by omega) (by omega),show f+((n+1:Nat):Int)=f+(n:Int)+1 by omega],rfl,?_,by omega⟩
 rw[hz]
 have e:lI sizes places ag cuts (jg t g s l f o) (n+1)=lI sizes places ag cuts (jg t g s l f o) n++(match Ih sizes places ag cuts g (f+(n:Int))with
  |none=>[]
  |some cU=>[ko t (f+(n:Int)) s (fK ag (f+(n:Int))) cU]):=rfl
 rw[e,hp]
 simp
theorem B5.G9 {lay:List T} {sizes places ag cuts bs zs pz:Lz} {k n q:Nat} {t g s l f o lo:Int} {qq:T} (hn:f+(n:Int) < o) (hf:0≤f) (ho:o≤40) (hz:zs=jV sizes places ag cuts bs k++lI sizes places ag cuts (jg t g s l f o) n) (sG:zs.length≤40 * k+n)
 (hp:Ih sizes places ag cuts g (f+(n:Int))=some pz) (hl:ag[(f+(n:Int)).toNat]? =some [tI lo,qq]) (hq:q=zs.length+1):
 B5 lay sizes places ag cuts bs k (jg t g s l f o) f o ((o - f).toNat - (n+1)) [bK 8 5 q,iV .i64 (IntKind.i64.wrap (f+(n:Int)+1))] [[lay],zs++[ko t (f+(n:Int)) s lo pz],[jg t g s l f o]]:=by
 refine⟨n+1,zs++[ko t (f+(n:Int)) s lo pz],by omega,rfl,by subst hq;rw[bO (by omega) (by omega),show f+((n+1:Nat):Int)=f+(n:Int)+1 by omega];simp,rfl,?_,by simp;omega⟩
 rw[hz]
 have e:lI sizes places ag cuts (jg t g s l f o) (n+1)=lI sizes places ag cuts (jg t g s l f o) n++(match Ih sizes places ag cuts g (f+(n:Int))with
  |none=>[]
  |some cU=>[ko t (f+(n:Int)) s (fK ag (f+(n:Int))) cU]):=rfl
 have el:fK ag (f+(n:Int))=lo:=by simp only[fK,hl,Option.getD_some];rfl
 rw[e,hp,el]
 simp
def H6 (ck:Int) (gs:Lz):List W:=if ck=0 then [oL 5 gs,oI 0]else [oL 5 [],oI ck]
theorem za (sn:ByteArray) (bM ms ps us ss os:Lz) (ln wd rx ry:Int) (sizes places ag bs cuts:Lz) (hL:rB sizes places ag) (hb:JQ bs) (BK:bs.length≤1000000) (hc:Eu cuts) (ee:cuts.length≤maxLen) (ck:Int) (h1:Te 28 [g8 sn bM ms ps us ss os,kF ln wd rx ry sizes places ag,oL 6 bs,oL 6 cuts] [oI ck]) (vq:ck=0→ag.length≤40∧ ∀e,e∈bs→M9 sizes ag e): ∃ts,Fn Tryz.prog 14 [g8 sn bM ms ps us ss os,kF ln wd rx ry sizes places ag,oL 6 bs,oL 6 cuts] [] (aO ts) []∧(aO ts).bJ=true∧(fun ts=>ts=H6 ck (jV sizes places ag cuts bs bs.length)) ts:=by
 refine aG ?_
 refine ah (n:=68) (rs:=[.tmp 8, .tmp 9]) Tryz.func14 ayB avV rfl rfl (by simp) ?_
 repeat' (conv=>whnf
          first
  |(refine az (fun h=>?_) (fun h=>?_))
  |(refine cv (fun h=>?_) (fun h=>?_))
  |(refine aB (fun h=>?_) (fun h=>?_))
  |(refine ap (xs:=bs) (vq (by omega)).2 (by omega) (by omega) ?_;rintro _ ⟨t,g,s,l,f,o,rfl,⟨yD,hg1⟩,hf0,hfo,hop⟩ hs)
  |(refine ap (xs:=ag) hL.hy (by omega) (by omega) ?_;rintro _ ⟨lo,q2,rfl⟩ EC)
  |(refine And.intro ⟨by simp[tr],by simp[tr,bR];omega,by simp[tr,maxLen];omega⟩ ?_)
  |(refine And.intro (by kernel_rfl) ?_)
  |(refine ai rfl (h1) ?_;rintro _ rfl)
  |(refine ai rfl (wG ln wd rx ry sizes places ag hL cuts hc ee g (f+(n:Int)) (by omega) (by omega) (by omega) (by omega)) ?_;rintro _ ⟨pz,pb,rfl,iw,lX⟩)
  |exact iy rfl (dR 5 rfl) (dw rfl) (by simp only[H6];rw[if_neg (by omega)])
  |exact iy rfl (fg rfl rfl (xs:=zs) rfl (by omega)) (dw rfl) (by rw[iS rfl,hz,show k=bs.length by omega];simp only[H6];rw[if_pos (by omega)])
  |(apply bc [3,5,11,13,14,25,26,27] [] [11,14] [(4,7),(8,5),(12,6)] (B5 (gh ln wd rx ry sizes places ag) sizes places ag cuts bs k (jg t g s l f o) f o) ((o - f).toNat) [bK 8 5 zs.length,iV .i64 f];(conv=>whnf);exact⟨rfl,rfl,rfl,rfl⟩;exact rfl;exact rfl;exact .cons (aL.aF (xs:=[gh ln wd rx ry sizes places ag]) rfl _) (.cons (aL.aF (xs:=zs) rfl _) (.cons (aL.aF (xs:=[jg t g s l f o]) rfl _) .nil));exact⟨0,zs,by omega,by omega,by simp,rfl,by rw[hz];simp[lI],by omega⟩;rintro _ _ _ ⟨n,Dq,hn,rfl,rfl,rfl,vj,Iw⟩)
  |(refine aq [3,5,11,13,14,25,26,27] [] ?_;(conv=>whnf);first|exact⟨rfl,_,[_,_],_, .cons (aL.aF (xs:=[gh ln wd rx ry sizes places ag]) rfl _) (.cons (aL.aF (xs:=Dq) rfl _) (.cons (aL.aF (xs:=[jg t g s l f o]) rfl _) .nil)),B5.skip (by omega) hf0 (by have:=(vq (by omega)).1;omega) vj Iw (lX (by simp_all)),rfl,rfl,by omega⟩|exact⟨rfl,_,[_,_],_, .cons (aL.aF (xs:=[gh ln wd rx ry sizes places ag]) rfl _) (.cons (aL.aF (aL.snoc (xs:=Dq) rfl (ko _ _ _ _ _)) _) (.cons (aL.aF (xs:=[jg t g s l f o]) rfl _) .nil)),B5.G9 (by omega) hf0 (by have:=(vq (by omega)).1;omega) vj Iw (iw (by simp_all)) EC (by simp[tr]),rfl,rfl,by omega⟩)
  |(apply eN [3,5,11,25,26,27] [] [11,27] [(4,7),(8,5)] (Jw (gh ln wd rx ry sizes places ag) sizes places ag cuts bs) (bs.length) [bK 8 5 0,iV .i64 0] (iA.jh 11 5 rfl);(conv=>whnf);exact⟨rfl,rfl,rfl,rfl⟩;exact rfl;exact rfl;exact .cons (aL.aF (xs:=[gh ln wd rx ry sizes places ag]) rfl _) (.cons (aL.aF aL.nil _) .nil);exact⟨0,[],by omega,rfl,rfl,rfl,rfl,by simp⟩;rintro _ _ _ ⟨k,zs,hk,rfl,rfl,rfl,hz,sG⟩)
  |(refine aq [3,5,11,25,26,27] [] ?_;(conv=>whnf);exact⟨rfl,_,[_,_],_, .cons (aL.aF (xs:=[gh ln wd rx ry sizes places ag]) rfl _) (.cons (aL.aF (xs:=Dq) rfl _) .nil),Jw.next (by omega) BK (vq (by omega)).1 (vq (by omega)).2 hs (n:=n) (by omega) vj,rfl,rfl,by omega⟩))
 all_goals (conv=>whnf)
end Go.aU.Cd
end
section
namespace Go.aU.Cd
open Go Go.Proofs
set_option maxRecDepth 100000
set_option maxHeartbeats 1000000
def c33:Rc:=Sq (Rg [Bx 5 0,Bx 8 3,Mk 10 0]) (Sq (Rg [Fa 18 0 5,Fa 19 5 18,Ld 20 19,Mv 11 20]) (Sq (Rg [Mv 21 11,Le 22 21,p 23 (.make [zb] 1 (t 22) (t 22)),Mv 12 23]) (Sq (Sq (Rg [Fa 24 4 8,Ld 25 24,Le 26 25,Mk 27 0]) (Bk 0 (Lp (Sq (Rg [Bt 28 .lss 27 26]) (Sq (Cn 28 Sk (Ex 0)) (Sq (Bk 1 (Sq (Rg [Ia 29 1 25 27,Ld 30 29,Mv 14 30]) (Sq (Sq (Rg [Mv 31 14,Bi 32 .lss 31 0,Mv 33 32,Ga 33 (Mv 34 14),Ga 33 (Mv 35 1),Ga 33 (Le 36 35),Ga 33 (Bt 37 .geq 34 36),Pt 38 33 37]) (Cn 38 (Sq (Rg [Mk 10 3]) Rt) Sk)) (Sq (Rg [Mv 39 1,Mv 40 14,Ia 41 6 39 40,Lo 6 42 41,p 15 (.alloc [zi,zi,zi,zi,zn,zb]),So 6 15 42]) (Sq (Sq (Rg [Mv 43 4,Mv 44 14,Ia 45 1 43 44,Ld 46 45,Mv 47 46,Ga 47 (Mv 48 12),Ga 47 (Fa 49 1 15),Ga 47 (Ld 50 49),Ga 47 (Ia 51 1 48 50),Ga 47 (Ld 52 51),Pt 53 47 52]) (Cn 53 (Sq (Rg [Mk 10 7]) Rt) Sk)) (Sq (Sq (Dr [Fa 54 2 15,Ld 55 54,Fa 56 6 5,Ld 57 56,Fa 58 1 8,Ld 59 58,Ia 60 2 57 59,Fa 61 0 60,Ld 62 61,Bt 63 .neq 55 62] [[],[0],[],[2],[],[4],[3,5],[6],[7],[1,8]]) (Cn 63 (Sq (Rg [Mk 10 16]) Rt) Sk)) (Sq (Sq (Rg [Fa 64 5 15,Ld 65 64,Mv 66 65,Ga 66 (Fa 67 0 15),Ga 66 (Ld 68 67),Ga 66 (Fa 69 1 8),Ga 66 (Ld 70 69),Ga 66 (Bt 71 .neq 68 70),Pt 72 66 71,Mv 73 72,Ga 73 (Fa 74 3 15),Ga 73 (Ld 75 74),Ga 73 (Fa 76 2 8),Ga 73 (Ld 77 76),Ga 73 (Bt 78 .neq 75 77),Pt 79 73 78,Mv 80 79,Ga 80 (Mv 81 11),Ga 80 (Fa 82 1 15),Ga 80 (Ld 83 82),Ga 80 (Ia 84 7 81 83),Ga 80 (Fa 85 0 84),Ga 80 (Ld 86 85),Ga 80 (Mv 87 2),Ga 80 (Bt 88 .neq 86 87),Pt 89 80 88]) (Cn 89 (Sq (Rg [Mk 10 1]) Rt) Sk)) (Dr [Mv 90 4,Mv 91 14,Mv 92 12,Fa 93 1 15,Ld 94 93,Ia 95 1 90 91,q (.store 1 (t 95) (kb true)),Ia 96 1 92 94,q (.store 1 (t 96) (kb true))] [[],[],[],[],[3],[0,1,0,1],[5,0,1],[2,4,0,1,2,3,4,5,6],[7,6,0,1,2,3,4,5,6]])))))))) (Rg [Bi 97 .add 27 1,Mv 27 97]))))))) (Sq (Sq (Rg [Mv 98 11,Le 99 98,Mk 100 0]) (Bk 2 (Lp (Sq (Rg [Bt 101 .lss 100 99]) (Sq (Cn 101 Sk (Ex 2)) (Sq (Bk 3 (Sq (Rg [Mv 102 100,Ia 103 7 98 100,Lo 7 104 103,p 17 (.alloc [zi,zi,zi,zb,zi,zi,zi]),Mv 16 102,So 7 17 104]) (Sq (Rg [Fa 105 0 17,Ld 106 105,Mv 107 2,Bt 108 .eql 106 107,Mv 109 108,Gb 109 (Mv 110 12),Gb 109 (Mv 111 16),Gb 109 (Ia 112 1 110 111),Gb 109 (Ld 113 112),Gb 109 (Nt 114 113),Pf 115 109 114]) (Cn 115 (Sq (Rg [Mk 10 20]) Rt) Sk)))) (Rg [Bi 116 .add 100 1,Mv 100 116]))))))) (Sq (Rg [Mk 10 0]) Rt)))))
theorem avL:ae Tryz.prog (Tryz.f33.body.getD .skip)=some c33:=by kernel_rfl
theorem axR:Tryz.f33.body=some (Tryz.f33.body.getD .skip):=rfl
def sK (xs:Lz) (i:Int):List T:=(xs[i.toNat]?).getD []
theorem gO {xs:Lz} {i:Int} {e:List T} (h:xs[i.toNat]? =some e):sK xs i=e:=by simp only[sK,h,Option.getD_some]
def uA (used cU:Lz):Nat→Lz
 |0=>used
 |j+1=>match cU[j]? with
  |none=>uA used cU j
  |some e=>(uA used cU j).set (nI 0 e).toNat [tB true]
def fA (cuts:Lz) (n:Nat) (cU:Lz):Nat→Lz
 |0=>List.replicate n [tB false]
 |j+1=>match cU[j]? with
  |none=>fA cuts n cU j
  |some e=>(fA cuts n cU j).set (nI 1 (sK cuts (nI 0 e))).toNat [tB true]
structure POk (places ag cuts:Lz) (garment gp gs:Int) (u f:Lz) (i:Int):Prop where
 r:0≤i∧i < (cuts.length:Int)
 u:nB 0 (sK u i)=false
 f:nB 0 (sK f (nI 1 (sK cuts i)))=false
 l:nI 2 (sK cuts i)=fK ag gp
 d:nB 5 (sK cuts i)=false
 p:nI 0 (sK cuts i)=gp
 s:nI 3 (sK cuts i)=gs
 g:nI 0 (sK places (nI 1 (sK cuts i)))=garment
def PV (places ag cuts:Lz) (garment gp gs:Int) (used cU:Lz) (j:Nat):Prop:=
 ∀k e,k < j→cU[k]? =some e→POk places ag cuts garment gp gs (uA used cU k) (fA cuts places.length cU k) (nI 0 e)
structure vh (places ag cuts:Lz) (garment gp gs:Int) (used cU:Lz):Prop where
 all:PV places ag cuts garment gp gs used cU cU.length
 full: ∀ (k:Nat) (p:List T),places[k]? =some p→nI 0 p=garment→nB 0 (sK (fA cuts places.length cU cU.length) (k:Int))=true
section
variable {places ag cuts:Lz} {garment gp gs:Int} {used cU zu zf:Lz} {i:Int} {ju jf jp j:Nat} {p3 q3 l3 s3 lo:Int} {r3:Lz} {d3 b1 b2:Bool} {qq:T}
theorem NI (h0:0≤i) (h1:i < (cuts.length:Int)) (hs:cuts[i.toNat]? =some [tI p3,tI q3,tI l3,tI s3, .ao 1 r3,tB d3]) (IE:zu[ju]? =some [tB b1]) (SX:ju=i.toNat) (e1:b1=false) (Ki:zf[jf]? =some [tB b2]) (Om:jf=q3.toNat) (e2:b2=false)
 (hlo:ag[gp.toNat]? =some [tI lo,qq]) (el:l3=lo) (ed:d3=false) (ep:p3=gp) (es:s3=gs) {pe:List T} (mN:places[q3.toNat]? =some pe) (eg:nI 0 pe=garment):POk places ag cuts garment gp gs zu zf i:=by
 subst SX Om e1 e2 el ed ep es
 have a1:=gO hs
 have a2:sK zu i=[tB false]:=gO IE
 have a3:sK zf q3=[tB false]:=gO Ki
 have a4:sK places q3=pe:=gO mN
 have a5:fK ag p3=l3:=by simp only[fK,hlo,Option.getD_some];rfl
 refine⟨⟨h0,h1⟩,by rw[a2];rfl,?_,by rw[a1,a5];rfl,by rw[a1];rfl,by rw[a1];rfl,by rw[a1];rfl,?_⟩
 · rw[a1]
   show nB 0 (sK zf q3)=false
   rw[a3]
   rfl
 · rw[a1]
   show nI 0 (sK places q3)=garment
   rw[a4]
   exact eg
variable (h:POk places ag cuts garment gp gs zu zf i)
include h
theorem Ry (IE:zu[ju]? =some [tB b1]) (SX:ju=i.toNat):b1=false:=by
 subst SX
 have:=h.u
 rw[gO IE]at this
 exact this
theorem Rx (hs:cuts[i.toNat]? =some [tI p3,tI q3,tI l3,tI s3, .ao 1 r3,tB d3]) (Ki:zf[jf]? =some [tB b2]) (Om:jf=q3.toNat):b2=false:=by
 subst Om
 have:=h.f
 rw[gO hs]at this
 have h2:nB 0 (sK zf q3)=false:=this
 rw[gO Ki]at h2
 exact h2
theorem Rw (hs:cuts[i.toNat]? =some [tI p3,tI q3,tI l3,tI s3, .ao 1 r3,tB d3]) (hlo:ag[gp.toNat]? =some [tI lo,qq]):l3=lo:=by
 have:=h.l
 have a5:fK ag gp=lo:=by simp only[fK,hlo,Option.getD_some];rfl
 rw[gO hs,a5]at this
 exact this
theorem J6 (hs:cuts[i.toNat]? =some [tI p3,tI q3,tI l3,tI s3, .ao 1 r3,tB d3]):d3=false∧p3=gp∧s3=gs:=by
 have h1:=h.d
 have h2:=h.p
 have h3:=h.s
 rw[gO hs]at h1 h2 h3
 exact⟨h1,h2,h3⟩
theorem Ru (hs:cuts[i.toNat]? =some [tI p3,tI q3,tI l3,tI s3, .ao 1 r3,tB d3]) {pe:List T} (mN:places[q3.toNat]? =some pe):nI 0 pe=garment:=by
 have h1:=h.g
 rw[gO hs]at h1
 have h2:nI 0 (sK places q3)=garment:=h1
 rw[gO mN]at h2
 exact h2
end
theorem od {places ag cuts:Lz} {garment gp gs:Int} {used cU zu zf:Lz} {i:Int} {j:Nat} (hj:(j:Int) < (cU.length:Int)) (hs:cU[((j:Int)).toNat]? =some [tI i]) (hu:zu=uA used cU j) (hf:zf=fA cuts places.length cU j)
 (hn:POk places ag cuts garment gp gs zu zf i→False) (h:vh places ag cuts garment gp gs used cU):False:=by
 subst hu hf
 exact hn (h.all j [tI i] (by omega) (by simpa using hs))
def RCp (lay gar:List T) (places ag cuts:Lz) (garment gp gs:Int) (used cU:Lz) (m:Nat) (vs:List V) (xss:List (Lz)):Prop:=
 ∃ (j:Nat) (zu zf:Lz),j≤cU.length∧m=cU.length - j∧vs=[iV .i64 (j:Int)]∧xss=[zu,[lay],[gar],zf]∧(zu=uA used cU j∧zf=fA cuts places.length cU j)∧PV places ag cuts garment gp gs used cU j∧(zu.length=cuts.length∧zf.length=places.length)∧Bs zu∧Bs zf
theorem RCp.next {lay gar:List T} {places ag cuts:Lz} {garment gp gs:Int} {used cU zu zf:Lz} {i q3 p3 l3 s3:Int} {r3:Lz} {d3:Bool} {j ju jf:Nat} (hj:(j:Int) < (cU.length:Int)) (hl:cU.length≤maxLen) (hz:zu=uA used cU j∧zf=fA cuts places.length cU j) (hA:PV places ag cuts garment gp gs used cU j)
 (yz:zu.length=cuts.length∧zf.length=places.length) (BQ:Bs zu) (Tw:Bs zf) (mD:cU[((j:Int)).toNat]? =some [tI i]) (hs:cuts[i.toNat]? =some [tI p3,tI q3,tI l3,tI s3, .ao 1 r3,tB d3]) (SX:ju=i.toNat) (Om:jf=q3.toNat) (hok:POk places ag cuts garment gp gs zu zf i):
 RCp lay gar places ag cuts garment gp gs used cU (cU.length - (j+1)) [iV .i64 (IntKind.i64.wrap ((j:Int)+1))] [zu.set ju [tB true],[lay],[gar],zf.set jf [tB true]]:=by
 obtain⟨e1,e2⟩:=hz
 subst SX Om
 have N6:cU[j]? =some [tI i]:=by simpa using mD
 have ei:nI 0 [tI i]=i:=rfl
 refine⟨j+1,_,_,by omega,rfl,by simp only[maxLen]at hl;rw[bO (by omega) (by omega)];rfl,rfl,⟨?_,?_⟩,fun k e hk he=>?_,⟨by simp[yz.1],by simp[yz.2]⟩,BQ.set _ _,Tw.set _ _⟩
 · simp only[uA,N6,ei,e1]
 · simp only[fA,N6,ei,e2,gO hs]
   rfl
 · by_cases hkj:k=j
   · subst hkj
     rw[N6]at he
     cases he
     rw[←e1, ←e2]
     exact hok
   · exact hA k e (by omega) he
def RCf (n:Nat) (zu zf places:Lz) (garment:Int) (m:Nat) (vs:List V) (xss:List (Lz)):Prop:=
 ∃k:Nat,k≤n∧m=n - k∧vs=[iV .i64 (k:Int)]∧xss=[zu,zf]∧ ∀k' p,k' < k→places[k']? =some p→nI 0 p=garment→nB 0 (sK zf (k':Int))=true
theorem RCf.next {zu zf places:Lz} {garment:Int} {k:Nat} {p:List T} (hk:(k:Int) < (places.length:Int)) (hl:places.length≤1000000) (h: ∀k' p,k' < k→places[k']? =some p→nI 0 p=garment→nB 0 (sK zf (k':Int))=true) (hs:places[((k:Int)).toNat]? =some p) (hq:nI 0 p=garment→nB 0 (sK zf (k:Int))=true):
 RCf places.length zu zf places garment (places.length - (k+1)) [iV .i64 (IntKind.i64.wrap ((k:Int)+1))] [zu,zf]:=by
 refine⟨k+1,by omega,rfl,by rw[bO (by omega) (by omega)];rfl,rfl,fun k' p' hk' hp hg=>?_⟩
 by_cases he:k'=k
 · subst he
   have hs':places[k']? =some p:=by simpa using hs
   rw[hs']at hp
   cases hp
   exact hq hg
 · exact h k' p' (by omega) hp hg
def GCp (places ag cuts:Lz) (garment gp gs:Int) (used cU:Lz) (ts:List W) (hout:HS):Prop:=
 ∃ (n:Int) (ys:Lz),ts=[oI n]∧hout=[(0, .row 1 (tr ys))]∧(ys.length=cuts.length∧Bs ys)∧(n=0→vh places ag cuts garment gp gs used cU∧ys=uA used cU cU.length)∧(vh places ag cuts garment gp gs used cU→n=0)
theorem jy {places ag cuts:Lz} {garment gp gs n:Int} {used cU zu:Lz} (hl:zu.length=cuts.length) (hB:Bs zu) (hn:n≠0) (h:vh places ag cuts garment gp gs used cU→False):GCp places ag cuts garment gp gs used cU [oI n] [(0, .row 1 (tr zu))]:=
 ⟨n,zu,rfl,rfl,⟨hl,hB⟩,fun e=>absurd e hn,fun hc=>(h hc).elim⟩
theorem CO {zf:Lz} {k j:Nat} {b:Bool} (h:zf[j]? =some [tB b]) (hj:j=k):nB 0 (sK zf (k:Int))=b:=by
 subst hj
 have h':zf[((j:Int)).toNat]? =some [tB b]:=by simpa using h
 rw[gO h']
 rfl
theorem nh {b:Bool} (h:(!b)=false):b=true:=by simpa using h
theorem NR {b:Bool} (h:b=true) (h2:(!b)=true):False:=by subst h;simp at h2
theorem I4 {places ag cuts:Lz} {garment gp gs:Int} {used cU zf:Lz} {j k jf:Nat} {p:List T} {b:Bool} (h:vh places ag cuts garment gp gs used cU) (hj:cU.length=j) (hz:zf=fA cuts places.length cU j) (hs:places[((k:Int)).toNat]? =some p) (hg:nI 0 p=garment) (Ki:zf[jf]? =some [tB b]) (Om:jf=k):b=true:=by
 have h5:=h.full k p (by simpa using hs) hg
 rw[hj, ←hz,CO Ki Om]at h5
 exact h5
theorem mv (ln wd rx ry:Int) (sizes places ag cuts:Lz) (hL:rB sizes places ag) (hc:Eu cuts) (ee:cuts.length≤1000000) (hin: ∀e,e∈cuts→EJ ag.length places.length e) (garment gt gp gs gl:Int) (cU used:Lz) (hpc:Is cU) (Oa:cU.length≤maxLen) (hu:Bs used) (BC:used.length=cuts.length) (aGD:0≤gp) (aGC:gp < (ag.length:Int)): ∃ts hout,Fn Tryz.prog 33 [kF ln wd rx ry sizes places ag,oL 6 cuts,oI garment, .agg [.t (tI gt), .t (tI gp), .t (tI gs), .t (tI gl), .t (.ao 1 cU)], .one (.own 0 1 0 cuts.length)] [(0, .row 1 (tr used))] (aO ts) hout∧GCp places ag cuts garment gp gs used cU ts hout:=by
 have ED:=hL.ED
 refine fl (n:=117) (rs:=[.tmp 10]) Tryz.func33 axR avL rfl rfl (by simp) ?_
 repeat' (conv=>whnf
          first
  |(refine az (fun h=>?_) (fun h=>?_))
  |(refine cv (fun h=>?_) (fun h=>?_))
  |(refine aB (fun h=>?_) (fun h=>?_))
  |(refine And.intro ⟨by omega,by omega,by omega,by omega⟩ ?_)
  |(refine And.intro ⟨by omega,by omega⟩ ?_)
  |(refine ap (xs:=cU) hpc (by omega) (by omega) ?_;rintro _ ⟨i,rfl⟩ mD)
  |(refine ap (xs:=cuts) (fun e he=>(⟨hc e he,hin e he⟩:agW e∧EJ ag.length places.length e)) (by omega) (by omega) ?_;rintro _ ⟨⟨p3,q3,l3,s3,r3,d3,rfl⟩,(hq1:(0:Int)≤p3),(hq2:p3 < (ag.length:Int)),(hq3:(0:Int)≤q3),(hq4:q3 < (places.length:Int))⟩ hs)
  |(refine ap (xs:=ag) hL.hy (by omega) (by omega) ?_;rintro _ ⟨lo,q2,rfl⟩ hlo)
  |(refine ap (xs:=places) (n:=q3) hL.hp (by omega) (by omega) ?_;rintro _ ⟨g2,u2,k2,f2,t2,x2,y2,rfl⟩ mN)
  |(refine ap (xs:=places) (n:=(k:Int)) hL.hp (by omega) (by omega) ?_;rintro _ ⟨g4,u4,k4,f4,t4,x4,y4,rfl⟩ lj)
  |(refine And.intro (by kernel_rfl) ?_)
  |(refine cg (xs:=zu) rfl BQ (by omega) ?_;rintro _ ⟨b1,rfl⟩ IE)
  |(refine cg (xs:=zf) (i:=0+(k:Int).toNat) rfl Tw (by omega) ?_;rintro _ ⟨b4,rfl⟩ SB)
  |(refine cg (xs:=zf) rfl Tw (by omega) ?_;rintro _ ⟨b2,rfl⟩ Ki)
  |exact⟨_,_,_,rfl,rfl,iu rfl (xs:=used) (ys:=zu) rfl,⟨0,zu,rfl,rfl,⟨yz.1,BQ⟩,fun _=>⟨⟨by rw[show cU.length=j by omega];exact hA,fun k' p hp hg=>by rw[show cU.length=j by omega, ←hz.2];exact F9 k' p (by have:=(List.getElem?_eq_some_iff.1 hp).1;omega) hp hg⟩,by rw[show cU.length=j by omega];exact hz.1⟩,fun _=>rfl⟩⟩
  |exact⟨_,_,_,rfl,rfl,iu rfl (xs:=used) (ys:=zu) rfl,jy yz.1 BQ (by decide) (fun h=>NR (I4 h (by omega) hz.2 lj (show g4=garment by omega) SB (by omega)) (by assumption))⟩
  |exact⟨_,_,_,rfl,rfl,iu rfl (xs:=used) (ys:=zu) rfl,jy yz.1 BQ (by decide) (od (by omega) mD hz.1 hz.2 (fun h=>by have h5:=h.r;omega))⟩
  |exact⟨_,_,_,rfl,rfl,iu rfl (xs:=used) (ys:=zu) rfl,jy yz.1 BQ (by decide) (od (by omega) mD hz.1 hz.2 (fun h=>by have h5:=Ru h hs mN;have h6:g2=garment:=h5;omega))⟩
  |exact⟨_,_,_,rfl,rfl,iu rfl (xs:=used) (ys:=zu) rfl,jy yz.1 BQ (by decide) (od (by omega) mD hz.1 hz.2 (fun h=>Bool.noConfusion ((J6 h hs).1.symm.trans (by assumption:d3=true))))⟩
  |exact⟨_,_,_,rfl,rfl,iu rfl (xs:=used) (ys:=zu) rfl,jy yz.1 BQ (by decide) (od (by omega) mD hz.1 hz.2 (fun h=>by have h5:=J6 h hs;omega))⟩
  |exact⟨_,_,_,rfl,rfl,iu rfl (xs:=used) (ys:=zu) rfl,jy yz.1 BQ (by decide) (od (by omega) mD hz.1 hz.2 (fun h=>by have h5:=Rw h hs hlo;omega))⟩
  |exact⟨_,_,_,rfl,rfl,iu rfl (xs:=used) (ys:=zu) rfl,jy yz.1 BQ (by decide) (od (by omega) mD hz.1 hz.2 (fun h=>Bool.noConfusion ((Rx h hs Ki (by omega)).symm.trans (by assumption:b2=true))))⟩
  |exact⟨_,_,_,rfl,rfl,iu rfl (xs:=used) (ys:=zu) rfl,jy yz.1 BQ (by decide) (od (by omega) mD hz.1 hz.2 (fun h=>Bool.noConfusion ((Ry h IE (by omega)).symm.trans (by assumption:b1=true))))⟩
  |(apply bc [2,12,98,99,100] [] [100] [(0,1),(4,1)] (RCf places.length zu zf places garment) (places.length) [iV .i64 0];(conv=>whnf);exact⟨rfl,rfl,rfl,rfl⟩;exact rfl;exact rfl;exact .cons (aL.aF (xs:=zu) rfl _) (.cons (aL.aF (xs:=zf) rfl _) .nil);exact⟨0,by omega,rfl,rfl,rfl,fun k' p hk=>by omega⟩;rintro _ _ _ ⟨k,hk,rfl,rfl,rfl,F9⟩)
  |(refine aq [2,12,98,99,100] [] ?_;(conv=>whnf);first|exact⟨rfl,_,[_],_, .cons (aL.aF (xs:=zu) rfl _) (.cons (aL.aF (xs:=zf) rfl _) .nil),RCf.next (by omega) ED F9 lj (fun hg=>absurd hg (show ¬ (g4=garment) by omega)),rfl,rfl,by omega⟩|exact⟨rfl,_,[_],_, .cons (aL.aF (xs:=zu) rfl _) (.cons (aL.aF (xs:=zf) rfl _) .nil),RCf.next (by omega) ED F9 lj (fun _=>(CO SB (by omega)).trans (nh (by assumption))),rfl,rfl,by omega⟩)
  |(apply bc [1,2,4,5,8,11,12,25,26,27] [] [27] [(0,1),(4,7),(8,5),(12,1)] (RCp (gh ln wd rx ry sizes places ag) (ko gt gp gs gl cU) places ag cuts garment gp gs used cU) (cU.length) [iV .i64 0];(conv=>whnf);exact⟨rfl,rfl,rfl,rfl⟩;exact rfl;exact rfl;exact .cons (aL.aF (xs:=used) rfl _) (.cons (aL.aF (xs:=[gh ln wd rx ry sizes places ag]) rfl _) (.cons (aL.aF (xs:=[ko gt gp gs gl cU]) rfl _) (.cons (aL.aF (aL.replicate _ [tB false]) _) .nil)));exact⟨0,used,_,by omega,rfl,rfl,rfl,⟨rfl,rfl⟩,fun k e hk=>by omega,⟨BC,by simp⟩,hu,Bs.Fl _ _⟩;rintro _ _ _ ⟨j,zu,zf,hj,rfl,rfl,rfl,hz,hA,yz,BQ,Tw⟩)
  |(refine aq [1,2,4,5,8,11,12,25,26,27] [] ?_;(conv=>whnf);exact⟨rfl,_,[_],_, .cons (aL.aF (aL.set (xs:=zu) rfl _ [tB _]) _) (.cons (aL.aF (xs:=[gh ln wd rx ry sizes places ag]) rfl _) (.cons (aL.aF (xs:=[ko gt gp gs gl cU]) rfl _) (.cons (aL.aF (aL.set (xs:=zf) rfl _ [tB _]) _) .nil))),RCp.next (by omega) Oa hz hA yz BQ Tw mD hs (by omega) (by omega) (NI (by omega) (by omega) hs IE (by omega) (by simp_all) Ki (by omega) (by simp_all) hlo (by omega) (by assumption) (by omega) (by omega) mN (show g2=garment by omega)),rfl,rfl,by omega⟩))
 all_goals (conv=>whnf)
end Go.aU.Cd
end
section
namespace Go.aU.Cd
open Go Go.Proofs
set_option maxRecDepth 100000
set_option maxHeartbeats 1000000
def c17:Rc:=Sq (Rg [Bx 5 0,Bx 6 1,Mk 10 0]) (Sq (Sq (Rg [Lo 7 20 5,Lo 7 21 6,Mv 22 2,Mv 23 3,p 24 (.call 28 [t 20,t 21,t 22,t 23]),Mv 11 24]) (Sq (Rg [Mv 25 11,Bi 26 .neq 25 0]) (Cn 26 (Sq (Rg [Mv 27 11,Mv 10 27]) Rt) Sk))) (Sq (Sq (Rg [Mv 28 4,Le 29 28,Bi 30 .gtr 29 240]) (Cn 30 (Sq (Rg [Mk 10 5]) Rt) Sk)) (Sq (Rg [Mv 31 3,Le 32 31,p 33 (.make [zb] 1 (t 32) (t 32)),Mv 12 33]) (Sq (Sq (Rg [Mv 34 4,Le 35 34,Mk 36 0]) (Bk 0 (Lp (Sq (Rg [Bt 37 .lss 36 35]) (Sq (Cn 37 Sk (Ex 0)) (Sq (Bk 1 (Sq (Rg [Mv 38 36,Ia 39 5 34 36,Lo 5 40 39,p 14 (.alloc [zi,zi,zi,zi,zn]),Mv 13 38,So 5 14 40]) (Sq (Rg [Mv 42 2,Fa 43 0 14,Ld 44 43,p 45 (.call 32 [t 42,t 44]),Mv 41 45,Et 46 41 0,Et 47 41 1,p 15 (.alloc [zi,zi,zi,zi,zi,zi]),So 6 15 46,Mv 16 47]) (Sq (Sq (Rg [Mv 48 16,Nt 49 48]) (Cn 49 (Sq (Rg [Mk 10 6]) Rt) Sk)) (Sq (Sq (Rg [Fa 50 1 14,Ld 51 50,Fa 52 4 15,Ld 53 52,Bt 54 .lss 51 53,Mv 55 54,Ga 55 (Fa 56 1 14),Ga 55 (Ld 57 56),Ga 55 (Fa 58 5 15),Ga 55 (Ld 59 58),Ga 55 (Bt 60 .geq 57 59),Pt 61 55 60]) (Cn 61 (Sq (Rg [Mk 10 3]) Rt) Sk)) (Sq (Sq (Rg [Fa 62 2 14,Ld 63 62,Fa 64 2 15,Ld 65 64,Bt 66 .neq 63 65]) (Cn 66 (Sq (Rg [Mk 10 1]) Rt) Sk)) (Sq (Sq (Rg [Mv 67 4,Mv 68 13,p 69 (.slice 5 (t 67) none (some (t 68))),Le 70 69,Mk 71 0]) (Bk 2 (Lp (Sq (Rg [Bt 72 .lss 71 70]) (Sq (Cn 72 Sk (Ex 2)) (Sq (Bk 3 (Sq (Rg [Ia 73 5 69 71,Lo 5 74 73,p 18 (.alloc [zi,zi,zi,zi,zn]),So 5 18 74]) (Sq (Rg [Fa 75 0 18,Ld 76 75,Fa 77 0 14,Ld 78 77,Bt 79 .eql 76 78,Mv 80 79,Gb 80 (Fa 81 1 18),Gb 80 (Ld 82 81),Gb 80 (Fa 83 1 14),Gb 80 (Ld 84 83),Gb 80 (Bt 85 .eql 82 84),Pf 86 80 85]) (Cn 86 (Sq (Rg [Mk 10 7]) Rt) Sk)))) (Rg [Bi 87 .add 71 1,Mv 71 87]))))))) (Sq (Sq (Dr [Fa 88 3 14,Ld 89 88,Fa 90 6 6,Ld 91 90,Fa 92 1 14,Ld 93 92,Ia 94 2 91 93,Fa 95 0 94,Ld 96 95,Bt 97 .neq 89 96] [[],[0],[],[2],[],[4],[3,5],[6],[7],[1,8]]) (Cn 97 (Sq (Rg [Mk 10 16]) Rt) Sk)) (Sq (Rg [Lo 7 98 6,Mv 99 3,Fa 100 1 15,Ld 101 100,Lo 5 102 14,Mv 103 12,p 104 (.call 33 [t 98,t 99,t 101,t 102,t 103]),Mv 19 104]) (Sq (Rg [Mv 105 19,Bi 106 .neq 105 0]) (Cn 106 (Sq (Rg [Mv 107 19,Mv 10 107]) Rt) Sk))))))))))) (Rg [Bi 108 .add 36 1,Mv 36 108]))))))) (Sq (Rg [Mk 10 0]) Rt)))))
theorem avU:ae Tryz.prog (Tryz.f17.body.getD .skip)=some c17:=by kernel_rfl
theorem ayA:Tryz.f17.body=some (Tryz.f17.body.getD .skip):=rfl
def JJ (e:List T):Prop:= ∃t p s l cU,e=ko t p s l cU∧Is cU∧cU.length≤maxLen
def uG (cuts gs:Lz):Nat→Lz
 |0=>List.replicate cuts.length [tB false]
 |j+1=>match gs[j]? with
  |none=>uG cuts gs j
  |some e=>uA (uG cuts gs j) (nL 4 e) (nL 4 e).length
def xu (bs:Lz) (e:List T):Prop:= ∃t g s l f o,Ed bs (nI 0 e)=some (jg t g s l f o)∧f≤nI 1 e∧nI 1 e < o∧nI 2 e=s
def PT (e o:List T):Prop:=nI 0 o=nI 0 e∧nI 1 o=nI 1 e
structure QT (places ag cuts bs:Lz) (u cQ:Lz) (e:List T):Prop where
 pre:xu bs e
 dup: ∀o,o∈cQ→¬PT e o
 sE:nI 3 e=fK ag (nI 1 e)
 fit: ∀t g s l f o,Ed bs (nI 0 e)=some (jg t g s l f o)→vh places ag cuts g (nI 1 e) (nI 2 e) u (nL 4 e)
def pK (places ag cuts bs gs:Lz) (j:Nat):Prop:= ∀k e,k < j→gs[k]? =some e→QT places ag cuts bs (uG cuts gs k) (gs.take k) e
def AW (places ag cuts bs gs:Lz):Prop:= ∃j e,pK places ag cuts bs gs j∧gs[j]? =some e∧xu bs e∧ ∃o,o∈gs.take j∧PT e o
section
variable {places ag cuts bs gs:Lz} {i:Nat} {e:List T}
theorem Je (hA:pK places ag cuts bs gs i) (hs:gs[i]? =some e) (hn:xu bs e→False) (h:AW places ag cuts bs gs):False:=by
 obtain⟨j,e2,h1,h2,h3,o,h4,h5⟩:=h
 rcases Nat.lt_trichotomy j i with hlt|rfl|hgt
 · exact(hA j e2 hlt h2).dup o h4 h5
 · rw[hs]at h2
   cases h2
   exact hn h3
 · exact hn (h1 i e hgt hs).pre
theorem G1 (hA:pK places ag cuts bs gs i) (hs:gs[i]? =some e) (hd: ∀o,o∈gs.take i→¬PT e o) (hn:QT places ag cuts bs (uG cuts gs i) (gs.take i) e→False) (h:AW places ag cuts bs gs):False:=by
 obtain⟨j,e2,h1,h2,h3,o,h4,h5⟩:=h
 rcases Nat.lt_trichotomy j i with hlt|rfl|hgt
 · exact(hA j e2 hlt h2).dup o h4 h5
 · rw[hs]at h2
   cases h2
   exact hd o h4 h5
 · exact hn (h1 i e hgt hs)
theorem Jf (hA:pK places ag cuts bs gs gs.length) (h:AW places ag cuts bs gs):False:=by
 obtain⟨j,e2,h1,h2,h3,o,h4,h5⟩:=h
 exact(hA j e2 (List.getElem?_eq_some_iff.1 h2).1 h2).dup o h4 h5
end
theorem Rr {bs:Lz} {e:List T} (hf:Ed bs (nI 0 e)=none) (h:xu bs e):False:=by
 obtain⟨t,g,s,l,f,o,h1,_⟩:=h
 rw[hf]at h1
 simp at h1
theorem Rq {bs:Lz} {e:List T} {t g s l f o:Int} (hf:Ed bs (nI 0 e)=some (jg t g s l f o)) (h:xu bs e):f≤nI 1 e∧nI 1 e < o∧nI 2 e=s:=by
 obtain⟨t,g,s,l,f,o,h1,h2,h3,h4⟩:=h
 rw[hf]at h1
 simp at h1
 obtain⟨rfl,rfl,rfl,rfl,rfl,rfl⟩:=h1
 exact⟨h2,h3,h4⟩
theorem y8 {sizes ag bs:Lz} {tk t g s l f o:Int} (hR: ∀e,e∈bs→M9 sizes ag e) (hf:Ed bs tk=some (jg t g s l f o)):0≤f∧o≤(ag.length:Int):=by
 obtain⟨t',g',s',l',f',o',h1,h2,h3,h4,h5⟩:=hR _ (List.mem_of_find?_eq_some hf)
 simp at h1
 obtain⟨rfl,rfl,rfl,rfl,rfl,rfl⟩:=h1
 exact⟨h3,h5⟩
structure Ok0 (ck:Int) (places ag cuts bs gs:Lz):Prop where
 ck:ck=0
 len:gs.length≤240
 all:pK places ag cuts bs gs gs.length
def JN (ck:Int) (places ag cuts bs gs:Lz) (ts:List W):Prop:=
 ∃n:Int,ts=[oI n]∧(n=0→Ok0 ck places ag cuts bs gs)∧(Ok0 ck places ag cuts bs gs→n=0)∧(ck=0→gs.length≤240→AW places ag cuts bs gs→n=7)
section
variable {ck:Int} {places ag cuts bs gs:Lz} {n:Int}
theorem OG (h:ck≠0):JN ck places ag cuts bs gs [oI ck]:=⟨ck,rfl,fun e=>absurd e h,fun e=>absurd e.ck h,fun e=>absurd e h⟩
theorem I2 (h:240 < gs.length):JN ck places ag cuts bs gs [oI 5]:=⟨5,rfl,fun e=>by omega,fun e=>by have:=e.len;omega,fun _ e=>by omega⟩
theorem CQ (hn:n≠0) (h1:Ok0 ck places ag cuts bs gs→False) (h2:AW places ag cuts bs gs→False):JN ck places ag cuts bs gs [oI n]:=⟨n,rfl,fun e=>absurd e hn,fun e=>(h1 e).elim,fun _ _ e=>(h2 e).elim⟩
theorem CP (hn:n≠0) {i:Nat} {e:List T} (hA:pK places ag cuts bs gs i) (hs:gs[((i:Int)).toNat]? =some e) (h:xu bs e→False):JN ck places ag cuts bs gs [oI n]:=by
 have hs':gs[i]? =some e:=by simpa using hs
 exact CQ hn (fun h0=>h (h0.all i e (List.getElem?_eq_some_iff.1 hs').1 hs').pre) (Je hA hs' h)
theorem As (hn:n≠0) {i:Nat} {e:List T} (hA:pK places ag cuts bs gs i) (hs:gs[((i:Int)).toNat]? =some e) (hd: ∀o,o∈ (gs.drop 0).take (((i:Int)).toNat - 0)→¬PT e o) (h:QT places ag cuts bs (uG cuts gs i) (gs.take i) e→False):JN ck places ag cuts bs gs [oI n]:=by
 have hs':gs[i]? =some e:=by simpa using hs
 exact CQ hn (fun h0=>h (h0.all i e (List.getElem?_eq_some_iff.1 hs').1 hs')) (G1 hA hs' (by simpa using hd) h)
theorem I3 {i j:Nat} {e o:List T} (hA:pK places ag cuts bs gs i) (hs:gs[((i:Int)).toNat]? =some e) (ho:((gs.drop 0).take (((i:Int)).toNat - 0))[j]? =some o) (h:PT e o):JN ck places ag cuts bs gs [oI 7]:=by
 have hs':gs[i]? =some e:=by simpa using hs
 refine⟨7,rfl,fun e=>by omega,fun h0=>?_,fun _ _ _=>rfl⟩
 have hm:o∈gs.take i:=by simpa using List.mem_of_getElem? ho
 exact((h0.all i e (List.getElem?_eq_some_iff.1 hs').1 hs').dup o hm h).elim
theorem TB {i:Nat} (hc:ck=0) (hl:gs.length≤240) (hA:pK places ag cuts bs gs i) (hi:gs.length=i):JN ck places ag cuts bs gs [oI 0]:=
 ⟨0,rfl,fun _=>⟨hc,hl,by rw[hi];exact hA⟩,fun _=>rfl,fun _ _ h=>(Jf (by rw[hi];exact hA) h).elim⟩
end
def RCk (lay:List T) (places ag cuts bs gs:Lz) (m:Nat) (vs:List V) (xss:List (Lz)):Prop:=
 ∃ (j:Nat) (zu:Lz),j≤gs.length∧m=gs.length - j∧vs=[iV .i64 (j:Int)]∧xss=[[lay],zu]∧zu=uG cuts gs j∧pK places ag cuts bs gs j∧zu.length=cuts.length∧Bs zu
theorem RCk.next {lay:List T} {places ag cuts bs gs ys:Lz} {j:Nat} {t p s l:Int} {cU:Lz} (hj:(j:Int) < (gs.length:Int)) (hl:gs.length≤240) (hA:pK places ag cuts bs gs j) (hs:gs[((j:Int)).toNat]? =some (ko t p s l cU)) (hy:ys=uA (uG cuts gs j) cU cU.length) (vl:ys.length=cuts.length) (hyB:Bs ys)
 (hok:QT places ag cuts bs (uG cuts gs j) (gs.take j) (ko t p s l cU)):RCk lay places ag cuts bs gs (gs.length - (j+1)) [iV .i64 (IntKind.i64.wrap ((j:Int)+1))] [[lay],ys]:=by
 have hs':gs[j]? =some (ko t p s l cU):=by simpa using hs
 refine⟨j+1,ys,by omega,rfl,by rw[bO (by omega) (by omega)];rfl,rfl,?_,fun k e hk he=>?_,vl,hyB⟩
 · simp only[uG,hs']
   exact hy
 · by_cases hkj:k=j
   · subst hkj
     rw[hs']at he
     cases he
     exact hok
   · exact hA k e (by omega) he
theorem OF {places ag cuts bs gs:Lz} {j:Nat} {t p s l t2 g2 s2 l2 f2 o2 lo:Int} {cU:Lz} {qq:T} (hf:Ed bs t=some (jg t2 g2 s2 l2 f2 o2)) (h1:f2≤p) (h2:p < o2) (h3:s=s2) (hd: ∀o,o∈ (gs.drop 0).take (((j:Int)).toNat - 0)→¬PT (ko t p s l cU) o) (hlo:ag[p.toNat]? =some [tI lo,qq]) (hl:l=lo)
 (hfit:vh places ag cuts g2 p s (uG cuts gs j) cU):QT places ag cuts bs (uG cuts gs j) (gs.take j) (ko t p s l cU):=by
 have a5:fK ag p=lo:=by simp only[fK,hlo,Option.getD_some];rfl
 refine⟨⟨t2,g2,s2,l2,f2,o2,hf,h1,h2,h3⟩,by simpa using hd,?_,fun t' g' s' l' f' o' j8=>?_⟩
 · show l=fK ag p
   rw[a5]
   exact hl
 · have Ow:Ed bs t=some (jg t' g' s' l' f' o'):=j8
   rw[hf]at Ow
   simp at Ow
   obtain⟨rfl,rfl,rfl,rfl,rfl,rfl⟩:=Ow
   exact hfit
theorem I1 {places ag cuts bs u ea:Lz} {t p s l lo:Int} {cU:Lz} {qq:T} (hlo:ag[p.toNat]? =some [tI lo,qq]) (h:QT places ag cuts bs u ea (ko t p s l cU)):l=lo:=by
 have a5:fK ag p=lo:=by simp only[fK,hlo,Option.getD_some];rfl
 have h1:l=fK ag p:=h.sE
 rw[a5]at h1
 exact h1
def RQ2 (Q:List T→Prop) (xs:Lz) (rF:List (Lz)) (m:Nat) (vs:List V) (xss:List (Lz)):Prop:= ∃i:Nat,i≤xs.length∧Pre Q xs i∧m=xs.length - i∧vs=[iV .i64 (i:Int)]∧xss=rF
theorem RQ2.next {Q:List T→Prop} {xs:Lz} {rF:List (Lz)} {i:Nat} {e:List T} (hi:(i:Int) < (xs.length:Int)) (hl:xs.length≤maxLen) (h:Pre Q xs i) (hs:xs[((i:Int)).toNat]? =some e) (hq:Q e):RQ2 Q xs rF (xs.length - (i+1)) [iV .i64 (IntKind.i64.wrap ((i:Int)+1))] rF:=
 ⟨i+1,by omega,h.succ (by simpa using hs) hq,rfl,by simp only[maxLen]at hl;rw[bO (by omega) (by omega)];rfl,rfl⟩
theorem JY {b:Bool} (h:(!b)=true):b=false:=by simpa using h
theorem uS (sn:ByteArray) (bM ms ps us ss os:Lz) (ln wd rx ry:Int) (sizes places ag bs cuts gs:Lz) (hL:rB sizes places ag) (hb:JQ bs) (BK:bs.length≤1000000) (hc:Eu cuts) (ee:cuts.length≤1000000) (hg: ∀e,e∈gs→JJ e) (Ou:gs.length≤maxLen) (ck:Int) (h1:Te 28 [g8 sn bM ms ps us ss os,kF ln wd rx ry sizes places ag,oL 6 bs,oL 6 cuts] [oI ck]) (vq:ck=0→(∀e,e∈bs→M9 sizes ag e)∧ ∀e,e∈cuts→EJ ag.length places.length e):Tg 17 [g8 sn bM ms ps us ss os,kF ln wd rx ry sizes places ag,oL 6 bs,oL 6 cuts,oL 5 gs] (JN ck places ag cuts bs gs):=by
 refine ah (n:=109) (rs:=[.tmp 10]) Tryz.func17 ayA avU rfl rfl (by simp) ?_
 repeat' (conv=>whnf
          first
  |(refine az (fun h=>?_) (fun h=>?_))
  |(refine cv (fun h=>?_) (fun h=>?_))
  |(refine aB (fun h=>?_) (fun h=>?_))
  |(refine And.intro ⟨by omega,by omega,by omega,by omega⟩ ?_)
  |(refine fz (Nat.zero_le _) (by omega) ?_)
  |(refine ap (xs:=gs) hg (by omega) (by omega) ?_;rintro _ ⟨t,p,s,l,cU,rfl,apX,Oa⟩ hs)
  |(refine ap (xs:=(gs.drop 0).take (((j:Int)).toNat - 0)) (cI hg _ _) (by omega) (by omega) ?_;rintro _ ⟨t3,p3,s3,l3,aFy,rfl,aB2,aB3⟩ lj)
  |(refine ap (xs:=ag) hL.hy (by have:=y8 (vq (by omega)).1 (Gf (nh (by assumption)));omega) (by have:=y8 (vq (by omega)).1 (Gf (nh (by assumption)));omega) ?_;rintro _ ⟨lo,q2,rfl⟩ hlo)
  |(refine And.intro (by kernel_rfl) ?_)
  |(refine And.intro (by omega) ?_)
  |(refine ai rfl (h1) ?_;rintro _ rfl)
  |(refine ai rfl (wg bs _ hb (by simp only[maxLen];omega)) ?_;rintro _ ⟨t2,g2,s2,l2,f2,o2,fb,rfl,Gf,hf0⟩)
  |(refine EM [8] rfl (mv ln wd rx ry sizes places ag cuts hL hc ee (vq (by omega)).2 g2 t p s l cU zu apX Oa BQ hlu (by have:=y8 (vq (by omega)).1 (Gf (nh (by assumption)));omega) (by have:=y8 (vq (by omega)).1 (Gf (nh (by assumption)));omega)) rfl (S3 rfl rfl) ?_;rintro _ _ ⟨n,ys,rfl,rfl,⟨vl,hyB⟩,hfit,An⟩)
  |exact g1 rfl rfl (OG (by omega))
  |exact g1 rfl rfl (I2 (by omega))
  |exact g1 rfl rfl (TB (by omega) (by omega) hA (by omega))
  |exact g1 rfl rfl (I3 hA hs lj ⟨show t3=t by omega,show p3=p by omega⟩)
  |exact g1 rfl rfl (As (by omega) hA hs (hp2.all (by omega)) (fun h=>by have:=An (by rw[hz];exact h.fit _ _ _ _ _ _ (Gf (nh (by assumption))));omega))
  |exact g1 rfl rfl (As (by decide) hA hs (hp2.all (by omega)) (fun h=>by have:=I1 hlo h;omega))
  |exact g1 rfl rfl (CP (by decide) hA hs (Rr (hf0 (JY (by assumption)))))
  |exact g1 rfl rfl (CP (by decide) hA hs (fun h=>by have hq:=Rq (Gf (nh (by assumption))) h;have q1:f2≤p:=hq.1;have q2:p < o2:=hq.2.1;have q3:s=s2:=hq.2.2;omega))
  |(apply bc [2,3,4,6,12,14,15,34,35,36,69,70,71] [] [71] [(4,7),(8,1),(12,5),(16,6)] (RQ2 (fun o=>¬PT (ko t p s l cU) o) ((gs.drop 0).take (((j:Int)).toNat - 0)) [[gh ln wd rx ry sizes places ag],zu,[ko t p s l cU],[jg t2 g2 s2 l2 f2 o2]]) (((gs.drop 0).take (((j:Int)).toNat - 0)).length) [iV .i64 0];(conv=>whnf);exact⟨rfl,rfl,rfl,rfl⟩;exact rfl;exact rfl;exact .cons (aL.aF (xs:=[gh ln wd rx ry sizes places ag]) rfl _) (.cons (aL.aF (xs:=zu) rfl _) (.cons (aL.aF (xs:=[ko t p s l cU]) rfl _) (.cons (aL.aF (xs:=[jg t2 g2 s2 l2 f2 o2]) rfl _) .nil)));exact⟨0,by omega,Pre.zero,rfl,rfl,rfl⟩;rintro _ _ _ ⟨i2,EF,hp2,rfl,rfl,rfl⟩)
  |(refine aq [2,3,4,6,12,14,15,34,35,36,69,70,71] [] ?_;(conv=>whnf);exact⟨rfl,_,[_],_, .cons (aL.aF (xs:=[gh ln wd rx ry sizes places ag]) rfl _) (.cons (aL.aF (xs:=zu) rfl _) (.cons (aL.aF (xs:=[ko t p s l cU]) rfl _) (.cons (aL.aF (xs:=[jg t2 g2 s2 l2 f2 o2]) rfl _) .nil))),RQ2.next (by omega) (gU Ou _ _) hp2 lj (fun hd=>by have d1:t3=t:=hd.1;have d2:p3=p:=hd.2;omega),rfl,rfl,by omega⟩)
  |(apply bc [2,3,4,6,12,34,35,36] [] [36] [(4,7),(8,1)] (RCk (gh ln wd rx ry sizes places ag) places ag cuts bs gs) (gs.length) [iV .i64 0];(conv=>whnf);exact⟨rfl,rfl,rfl,rfl⟩;exact rfl;exact rfl;exact .cons (aL.aF (xs:=[gh ln wd rx ry sizes places ag]) rfl _) (.cons (aL.aF (aL.replicate _ [tB false]) _) .nil);exact⟨0,_,by omega,rfl,rfl,rfl,rfl,fun k e hk=>by omega,by simp,Bs.Fl _ _⟩;rintro _ _ _ ⟨j,zu,hj,rfl,rfl,rfl,hz,hA,hlu,BQ⟩)
  |(refine aq [2,3,4,6,12,34,35,36] [] ?_;(conv=>whnf);exact⟨rfl,_,[_],_, .cons (aL.aF (xs:=[gh ln wd rx ry sizes places ag]) rfl _) (.cons (aL.aF (aL.aF (xs:=ys) rfl _) _) .nil),RCk.next (by omega) (by omega) hA hs ((hfit (by omega)).2.trans (by rw[hz])) vl hyB (OF (Gf (nh (by assumption))) (by omega) (by omega) (by omega) (hp2.all (by omega)) hlo (by omega) (by rw[←hz];exact(hfit (by omega)).1)),rfl,rfl,by omega⟩))
 all_goals (conv=>whnf)
end Go.aU.Cd
end
section
namespace Go.aU.Cd
open Go Go.Proofs
set_option maxRecDepth 100000
set_option maxHeartbeats 1000000
def c19:Rc:=Sq (Rg [Bx 5 0,Bx 6 1,Mb 10 false]) (Sq (Sq (Rg [Mv 13 3,Bi 14 .lss 13 0,Mv 15 14,Ga 15 (Mv 16 3),Ga 15 (Fa 17 0 6),Ga 15 (Fa 18 4 17),Ga 15 (Ld 19 18),Ga 15 (Le 20 19),Ga 15 (Bt 21 .geq 16 20),Pt 22 15 21,Mv 23 22,Ga 23 (Mv 24 4),Ga 23 (Bi 25 .lss 24 0),Pt 26 23 25,Mv 27 26,Ga 27 (Mv 28 4),Ga 27 (Fa 29 6 6),Ga 27 (Ld 30 29),Ga 27 (Le 31 30),Ga 27 (Bt 32 .geq 28 31),Pt 33 27 32]) (Cn 33 (Sq (Rg [Mb 10 false]) Rt) Sk)) (Sq (Rg [Lo 7 35 6,Mv 36 2,Mv 37 3,Mv 38 4,p 39 (.call 29 [t 35,t 36,t 37,t 38]),Mv 34 39,Et 40 34 0,Et 41 34 1,Mv 11 40,Mv 12 41]) (Sq (Rg [Mv 42 12,Mv 10 42]) Rt)))
theorem avT:ae Tryz.prog (Tryz.f19.body.getD .skip)=some c19:=by kernel_rfl
theorem axZ:Tryz.f19.body=some (Tryz.f19.body.getD .skip):=rfl
def c26:Rc:=Sq (Rg [Bx 4 0,Mb 8 false]) (Sq (Sq (Rg [Fa 11 6 4,Ld 12 11,Le 13 12,Bi 14 .gtr 13 8,Mv 15 14,Ga 15 (Mv 16 1),Ga 15 (Le 17 16),Ga 15 (Bi 18 .gtr 17 16),Pt 19 15 18,Mv 20 19,Ga 20 (Mv 21 2),Ga 20 (Le 22 21),Ga 20 (Bi 23 .gtr 22 60),Pt 24 20 23,Mv 25 24,Ga 25 (Mv 26 3),Ga 25 (Le 27 26),Ga 25 (Bi 28 .gtr 27 24),Pt 29 25 28]) (Cn 29 (Sq (Rg [Mb 8 false]) Rt) Sk)) (Sq (Sq (Rg [Mk 9 0]) (Bk 0 (Lp (Sq (Sq (Rg [Mv 30 9,Mv 31 2,Le 32 31,Bt 33 .lss 30 32]) (Cn 33 Sk (Ex 0))) (Sq (Bk 1 (Sq (Rg [Mv 36 2,Mv 37 9,Ia 38 6 36 37,Fa 39 4 38,Ld 40 39,Le 41 40,Bi 42 .gtr 41 4]) (Cn 42 (Sq (Rg [Mb 8 false]) Rt) Sk))) (Rg [Mv 34 9,Bi 35 .add 34 1,Mv 9 35])))))) (Sq (Sq (Rg [Mk 10 0]) (Bk 2 (Lp (Sq (Sq (Rg [Mv 43 10,Mv 44 3,Le 45 44,Bt 46 .lss 43 45]) (Cn 46 Sk (Ex 2))) (Sq (Bk 3 (Sq (Rg [Mv 49 3,Mv 50 10,Ia 51 5 49 50,Fa 52 4 51,Ld 53 52,Le 54 53,Bi 55 .gtr 54 8]) (Cn 55 (Sq (Rg [Mb 8 false]) Rt) Sk))) (Rg [Mv 47 10,Bi 48 .add 47 1,Mv 10 48])))))) (Sq (Rg [Mb 8 true]) Rt))))
theorem avP:ae Tryz.prog (Tryz.f26.body.getD .skip)=some c26:=by kernel_rfl
theorem axV:Tryz.f26.body=some (Tryz.f26.body.getD .skip):=rfl
def c22:Rc:=Sq (Rg [Bx 4 0,Mb 8 false]) (Sq (Sq (Rg [Mv 12 1,Le 13 12,Bi 14 .gtr 13 6,Mv 15 14,Ga 15 (Mv 16 2),Ga 15 (Le 17 16),Ga 15 (Bi 18 .gtr 17 6),Pt 19 15 18,Mv 20 19,Ga 20 (Mv 21 3),Ga 20 (Le 22 21),Ga 20 (Bi 23 .gtr 22 8),Pt 24 20 23,Mv 25 24,Ga 25 (Fa 26 6 4),Ga 25 (Ld 27 26),Ga 25 (Le 28 27),Ga 25 (Bi 29 .gtr 28 41),Pt 30 25 29,Mv 31 30,Ga 31 (Fa 32 0 4),Ga 31 (Fa 33 4 32),Ga 31 (Ld 34 33),Ga 31 (Le 35 34),Ga 31 (Bi 36 .gtr 35 7),Pt 37 31 36,Mv 38 37,Ga 38 (Fa 39 0 4),Ga 38 (Fa 40 5 39),Ga 38 (Ld 41 40),Ga 38 (Le 42 41),Ga 38 (Bi 43 .gtr 42 8),Pt 44 38 43]) (Cn 44 (Sq (Rg [Mb 8 false]) Rt) Sk)) (Sq (Sq (Rg [Mk 9 0]) (Bk 0 (Lp (Sq (Sq (Rg [Mv 45 9,Mv 46 1,Le 47 46,Bt 48 .lss 45 47]) (Cn 48 Sk (Ex 0))) (Sq (Bk 1 (Sq (Rg [Mv 51 1,Mv 52 9,Ia 53 1 51 52,Ld 54 53,Le 55 54,Bi 56 .gtr 55 12]) (Cn 56 (Sq (Rg [Mb 8 false]) Rt) Sk))) (Rg [Mv 49 9,Bi 50 .add 49 1,Mv 9 50])))))) (Sq (Sq (Rg [Mk 10 0]) (Bk 2 (Lp (Sq (Sq (Rg [Mv 57 10,Mv 58 2,Le 59 58,Bt 60 .lss 57 59]) (Cn 60 Sk (Ex 2))) (Sq (Bk 3 (Sq (Rg [Mv 63 2,Mv 64 10,Ia 65 7 63 64,Fa 66 6 65,Ld 67 66,Le 68 67,Bi 69 .gtr 68 6,Mv 70 69,Ga 70 (Mv 71 2),Ga 70 (Mv 72 10),Ga 70 (Ia 73 7 71 72),Ga 70 (Fa 74 0 73),Ga 70 (Ld 75 74),Ga 70 (p 76 (.nU (t 75))),Ga 70 (Bi 77 .gtr 76 40),Pt 78 70 77]) (Cn 78 (Sq (Rg [Mb 8 false]) Rt) Sk))) (Rg [Mv 61 10,Bi 62 .add 61 1,Mv 10 62])))))) (Sq (Sq (Rg [Mk 11 0]) (Bk 4 (Lp (Sq (Sq (Rg [Mv 79 11,Fa 80 6 4,Ld 81 80,Le 82 81,Bt 83 .lss 79 82]) (Cn 83 Sk (Ex 4))) (Sq (Bk 5 (Sq (Rg [Fa 86 6 4,Ld 87 86,Mv 88 11,Ia 89 2 87 88,Fa 90 1 89,Ld 91 90,Le 92 91,Bi 93 .gtr 92 6]) (Cn 93 (Sq (Rg [Mb 8 false]) Rt) Sk))) (Rg [Mv 84 11,Bi 85 .add 84 1,Mv 11 85])))))) (Sq (Rg [Mb 8 true]) Rt)))))
theorem avR:ae Tryz.prog (Tryz.f22.body.getD .skip)=some c22:=by kernel_rfl
theorem axX:Tryz.f22.body=some (Tryz.f22.body.getD .skip):=rfl
def c25:Rc:=Sq (Rg [Bx 2 0,Mb 4 false]) (Sq (Sq (Rg [Fa 10 3 2,Ld 11 10,Le 12 11,Bi 13 .gtr 12 4,Mv 14 13,Ga 14 (Fa 15 4 2),Ga 14 (Ld 16 15),Ga 14 (Le 17 16),Ga 14 (Bi 18 .gtr 17 4),Pt 19 14 18,Mv 20 19,Ga 20 (Fa 21 1 2),Ga 20 (Ld 22 21),Ga 20 (Le 23 22),Ga 20 (Bi 24 .gtr 23 4),Pt 25 20 24,Mv 26 25,Ga 26 (Fa 27 2 2),Ga 26 (Ld 28 27),Ga 26 (Le 29 28),Ga 26 (Bi 30 .gtr 29 4),Pt 31 26 30,Mv 32 31,Ga 32 (Fa 33 5 2),Ga 32 (Ld 34 33),Ga 32 (Le 35 34),Ga 32 (Bi 36 .gtr 35 6),Pt 37 32 36,Mv 38 37,Ga 38 (Fa 39 6 2),Ga 38 (Ld 40 39),Ga 38 (Le 41 40),Ga 38 (Bi 42 .gtr 41 8),Pt 43 38 42,Mv 44 43,Ga 44 (Mv 45 1),Ga 44 (Bi 46 .lss 45 0),Pt 47 44 46,Mv 48 47,Ga 48 (Mv 49 1),Ga 48 (Bi 50 .gtr 49 7),Pt 51 48 50]) (Cn 51 (Sq (Rg [Mb 4 false]) Rt) Sk)) (Sq (Sq (Rg [Mk 5 0]) (Bk 0 (Lp (Sq (Sq (Rg [Mv 52 5,Fa 53 3 2,Ld 54 53,Le 55 54,Bt 56 .lss 52 55]) (Cn 56 Sk (Ex 0))) (Sq (Bk 1 (Sq (Rg [Mk 6 0]) (Sq (Sq (Rg [Mk 7 0]) (Bk 2 (Lp (Sq (Sq (Rg [Mv 59 7,Fa 60 3 2,Ld 61 60,Mv 62 5,Ia 63 7 61 62,Fa 64 1 63,Ld 65 64,Le 66 65,Bt 67 .lss 59 66,Mv 68 67,Gb 68 (Mv 69 7),Gb 68 (Bi 70 .lss 69 17),Pf 71 68 70]) (Cn 71 Sk (Ex 2))) (Sq (Bk 3 (Rg [Mv 74 6,Fa 75 3 2,Ld 76 75,Mv 77 5,Ia 78 7 76 77,Fa 79 1 78,Ld 80 79,Mv 81 7,Ia 82 2 80 81,Fa 83 1 82,Ld 84 83,Le 85 84,p 86 (.qb (t 85) (k 20)),Bt 87 .add 74 86,Mv 6 87])) (Rg [Mv 72 7,Bi 73 .add 72 1,Mv 7 73])))))) (Sq (Rg [Mv 88 6,Bi 89 .gtr 88 24,Mv 90 89,Ga 90 (Fa 91 3 2),Ga 90 (Ld 92 91),Ga 90 (Mv 93 5),Ga 90 (Ia 94 7 92 93),Ga 90 (Fa 95 1 94),Ga 90 (Ld 96 95),Ga 90 (Le 97 96),Ga 90 (Bi 98 .gtr 97 16),Pt 99 90 98,Mv 100 99,Ga 100 (Fa 101 3 2),Ga 100 (Ld 102 101),Ga 100 (Mv 103 5),Ga 100 (Ia 104 7 102 103),Ga 100 (Fa 105 3 104),Ga 100 (Ld 106 105),Ga 100 (Le 107 106),Ga 100 (Bi 108 .gtr 107 16),Pt 109 100 108]) (Cn 109 (Sq (Rg [Mb 4 false]) Rt) Sk))))) (Rg [Mv 57 5,Bi 58 .add 57 1,Mv 5 58])))))) (Sq (Rg [Mk 8 0]) (Sq (Sq (Rg [Mk 9 0]) (Bk 4 (Lp (Sq (Sq (Rg [Mv 110 9,Fa 111 4 2,Ld 112 111,Le 113 112,Bt 114 .lss 110 113]) (Cn 114 Sk (Ex 4))) (Sq (Bk 5 (Rg [Mv 117 8,Fa 118 4 2,Ld 119 118,Mv 120 9,Ia 121 3 119 120,Fa 122 1 121,Ld 123 122,p 124 (.qd (t 123) (k 0)),p 125 (.qb (t 124) (k 9)),Bt 126 .add 117 125,Mv 8 126])) (Rg [Mv 115 9,Bi 116 .add 115 1,Mv 9 116])))))) (Sq (Rg [Mv 127 8,Mv 128 1,Bt 129 .mul 127 128,Bi 130 .leq 129 6,Mv 4 130]) Rt)))))
theorem avQ:ae Tryz.prog (Tryz.f25.body.getD .skip)=some c25:=by kernel_rfl
theorem axW:Tryz.f25.body=some (Tryz.f25.body.getD .skip):=rfl
def GCm (sizes places ag cuts:Lz) (g jk:Int) (ts:List W):Prop:= ∃b,ts=[oB b]∧(0≤g→g < (sizes.length:Int)→0≤jk→jk < (ag.length:Int)→b=(Ih sizes places ag cuts g jk).isSome)
theorem DZ {o:Option (Lz)} {zs:Lz} {b:Bool} (h1:b=true→o=some zs) (h0:b=false→o=none):b=o.isSome:=by
 cases b with
 |true=>rw[h1 rfl];rfl
 |false=>rw[h0 rfl];rfl
theorem De (sn:ByteArray) (bM ms ps us ss os:Lz) (ln wd rx ry:Int) (sizes places ag:Lz) (hL:rB sizes places ag) (cuts:Lz) (hc:Eu cuts) (ee:cuts.length≤maxLen) (g jk:Int):Tg 19 [g8 sn bM ms ps us ss os,kF ln wd rx ry sizes places ag,oL 6 cuts,oI g,oI jk] (GCm sizes places ag cuts g jk):=by
 refine ah (n:=43) (rs:=[.tmp 10]) Tryz.func19 axZ avT rfl rfl (by simp) ?_
 repeat' (conv=>whnf
          first
  |(refine az (fun h=>?_) (fun h=>?_))
  |(refine ai rfl (wG ln wd rx ry sizes places ag hL cuts hc ee g jk (by omega) (by omega) (by omega) (by omega)) ?_;rintro _ ⟨pz,pb,rfl,iw,lX⟩)
  |exact g1 rfl rfl ⟨_,rfl,fun _ _ _ _=>DZ iw lX⟩
  |exact g1 rfl rfl ⟨_,rfl,fun _ _ _ _=>by exfalso;omega⟩)
 all_goals (conv=>whnf)
def AD (cuts:Lz):Bool:=decide (cuts.length≤60)&&cuts.all (fun c=>decide ((nL 4 c).length≤4))
def mQ (np nb:Nat) (cuts:Lz):Bool:=decide (np≤8)&&decide (nb≤16)&&AD cuts
section
variable {np nb:Nat} {cuts:Lz}
theorem asU (h:8 < np): [oB false]=[oB (mQ np nb cuts)]:=by
 have:¬np≤8:=by omega
 simp[mQ,this]
theorem asT (h:16 < nb): [oB false]=[oB (mQ np nb cuts)]:=by
 have:¬nb≤16:=by omega
 simp[mQ,this]
theorem asS (h:60 < cuts.length): [oB false]=[oB (mQ np nb cuts)]:=by
 have:¬cuts.length≤60:=by omega
 simp[mQ,AD,this]
theorem asR {i:Nat} {e:List T} (hs:cuts[i]? =some e) (h:4 < (nL 4 e).length): [oB false]=[oB (mQ np nb cuts)]:=by
 have:cuts.all (fun c=>decide ((nL 4 c).length≤4))=false:=by
  rw[List.all_eq_false]
  exact⟨e,List.mem_of_getElem? hs,by simp;omega⟩
 simp[mQ,AD,this]
theorem asQ (h1:np≤8) (h2:nb≤16) (h3:cuts.length≤60) (ha: ∀e,e∈cuts→(nL 4 e).length≤4): [oB true]=[oB (mQ np nb cuts)]:=by
 have:cuts.all (fun c=>decide ((nL 4 c).length≤4))=true:=List.all_eq_true.2 (fun e he=>by simpa using ha e he)
 simp[mQ,AD,this,h1,h2,h3]
end
theorem qu (ln wd rx ry:Int) (sizes places ag bs cuts:Lz) (hc:Eu cuts) (ee:cuts.length≤maxLen): ∃ts,Fn Tryz.prog 26 [kF ln wd rx ry sizes places ag,oL 6 bs,oL 6 cuts, .one (.t eR)] [] (aO ts) []∧(aO ts).bJ=true∧(fun ts=>ts=[oB (mQ ag.length bs.length cuts)]) ts:=by
 refine ah (n:=56) (rs:=[.tmp 8]) Tryz.func26 axV avP rfl rfl (by simp) ?_
 repeat' (conv=>whnf
          first
  |(refine az (fun h=>?_) (fun h=>?_))
  |(refine ap (xs:=cuts) hc (by omega) (by omega) ?_;rintro _ ⟨p,q,lo,sz,rs,d,rfl⟩ hs)
  |exact g1 rfl rfl (asU (by omega))
  |exact g1 rfl rfl (asT (by omega))
  |exact g1 rfl rfl (asS (by omega))
  |exact g1 rfl rfl (asR hs (show 4 < rs.length by omega))
  |exact g1 rfl rfl (asQ (by omega) (by omega) (by omega) (hp.all (by omega)))
  |(apply aK [3,10] [] [10] (RI 0) (0) [iV .i64 0];(conv=>whnf);exact⟨rfl,rfl,rfl,rfl⟩;exact rfl;exact rfl;exact RI.zero;rintro _ _ ⟨i2,EF,rfl,rfl⟩)
  |(apply aK [2,3,9] [] [9] (RQ (fun e=>(nL 4 e).length≤4) cuts) (cuts.length) [iV .i64 0];(conv=>whnf);exact⟨rfl,rfl,rfl,rfl⟩;exact rfl;exact rfl;exact RQ.zero;rintro _ _ ⟨i,hi,hp,rfl,rfl⟩)
  |(refine aq [2,3,9] [] ?_;(conv=>whnf);exact⟨rfl,_,[_],RQ.next (by omega) ee hp hs (show rs.length≤4 by omega),rfl,rfl,rfl,by omega⟩))
 all_goals (conv=>whnf)
def M5 (lay:List T) (N:Nat) (m:Nat) (vs:List V) (xss:List (Lz)):Prop:= ∃i:Nat,i≤N∧m=N - i∧vs=[iV .i64 (i:Int)]∧xss=[[lay]]
theorem M5.next {lay:List T} {N i:Nat} (hi:(i:Int) < (N:Int)) (hl:N≤maxLen):M5 lay N (N - (i+1)) [iV .i64 (IntKind.i64.wrap ((i:Int)+1))] [[lay]]:=
 ⟨i+1,by omega,rfl,by simp only[maxLen]at hl;rw[bO (by omega) (by omega)];rfl,rfl⟩
theorem qv (ln wd rx ry:Int) (sizes places ag:Lz) (hy:QN ag) (vl:ag.length≤maxLen):Tg 22 [kF ln wd rx ry sizes places ag, .one (.t eR), .one (.t eR), .one (.t eR)] GB:=by
 refine ah (n:=94) (rs:=[.tmp 8]) Tryz.func22 axX avR rfl rfl (by simp) ?_
 repeat' (conv=>whnf
          first
  |(refine az (fun h=>?_) (fun h=>?_))
  |(refine ap (xs:=ag) hy (by omega) (by omega) ?_;rintro _ ⟨lo,q,rfl⟩ hs)
  |exact gB rfl rfl
  |(apply bc [4,11] [] [11] [(4,7)] (M5 (gh ln wd rx ry sizes places ag) ag.length) (ag.length) [iV .i64 0];(conv=>whnf);exact⟨rfl,rfl,rfl,rfl⟩;exact rfl;exact rfl;exact .cons (aL.aF (xs:=[gh ln wd rx ry sizes places ag]) rfl _) .nil;exact⟨0,by omega,rfl,rfl,rfl⟩;rintro _ _ _ ⟨i,hi,rfl,rfl,rfl⟩)
  |(refine aq [4,11] [] ?_;(conv=>whnf);exact⟨rfl,_,[_],_, .cons (aL.aF (xs:=[gh ln wd rx ry sizes places ag]) rfl _) .nil,M5.next (by omega) vl,rfl,rfl,by omega⟩)
  |(apply bc [2,4,10] [] [10] [(4,7)] (M5 (gh ln wd rx ry sizes places ag) 0) (0) [iV .i64 0];(conv=>whnf);exact⟨rfl,rfl,rfl,rfl⟩;exact rfl;exact rfl;exact .cons (aL.aF (xs:=[gh ln wd rx ry sizes places ag]) rfl _) .nil;exact⟨0,by omega,rfl,rfl,rfl⟩;rintro _ _ _ ⟨i,hi,rfl,rfl,rfl⟩)
  |(apply bc [1,2,4,9] [] [9] [(4,7)] (M5 (gh ln wd rx ry sizes places ag) 0) (0) [iV .i64 0];(conv=>whnf);exact⟨rfl,rfl,rfl,rfl⟩;exact rfl;exact rfl;exact .cons (aL.aF (xs:=[gh ln wd rx ry sizes places ag]) rfl _) .nil;exact⟨0,by omega,rfl,rfl,rfl⟩;rintro _ _ _ ⟨i,hi,rfl,rfl,rfl⟩))
 all_goals (conv=>whnf)
end Go.aU.Cd
end
section
namespace Go.aU.Cd
open Go Go.Proofs
set_option maxRecDepth 100000
set_option maxHeartbeats 1000000
theorem Nc {xs:Lz} {e:List T} {n:Int} {K:List T→Prop} (h:xs[n.toNat]? =some e) (h0:0≤n) (hk:K e):0≤n∧ ∃e,xs[n.toNat]? =some e∧K e:=⟨h0,e,h,hk⟩
def QJ (row:List T) (N:Nat) (m:Nat) (vs:List V) (xss:List (Lz)):Prop:= ∃ (i:Nat) (s:Int),i≤N∧m=N - i∧vs=[iV .i64 s,iV .i64 (i:Int)]∧xss=[[row]]
theorem QJ.next {row:List T} {N i:Nat} {s:Int} (hi:(i:Int) < (N:Int)) (hl:N≤maxLen):QJ row N (N - (i+1)) [iV .i64 s,iV .i64 (IntKind.i64.wrap ((i:Int)+1))] [[row]]:=
 ⟨i+1,s,by omega,rfl,by simp only[maxLen]at hl;rw[bO (by omega) (by omega)];rfl,rfl⟩
theorem ob (sn:ByteArray) (bM ms ps us ss os:Lz) (hS:jE sn bM ms ps us ss os) (g:Int):Tg 25 [g8 sn bM ms ps us ss os,oI g] GB:=by
 have mN:=hS.mN
 have BC:=hS.BC
 refine ah (n:=131) (rs:=[.tmp 4]) Tryz.func25 axW avQ rfl rfl (by simp) ?_
 repeat' (conv=>whnf
          first
  |(refine az (fun h=>?_) (fun h=>?_))
  |(refine Nc hs (by omega) ?_)
  |(refine ap (xs:=es) iF (by omega) (by omega) ?_;rintro _ ⟨ed,ln,rfl,hed,hln,aGr⟩ lj)
  |(refine ap (xs:=us) hS.eU (by omega) (by omega) ?_;rintro _ ⟨a,b,c,rfl⟩ EC)
  |(refine ap (xs:=ps) hS.hps (by omega) (by omega) ?_;rintro _ ⟨nm,es,g2,ns,cs,ws,mt,rfl,hnm,⟨iF,hem⟩,⟨hn,CL⟩,⟨hcs,aGK⟩,hw,ze⟩ hs)
  |exact gB rfl rfl
  |(apply bc [1,2,8,9] [] [8,9] [(4,7)] (QJ (nR sn bM ms ps us ss os) us.length) (us.length) [iV .i64 0,iV .i64 0];(conv=>whnf);exact⟨rfl,rfl,rfl,rfl⟩;exact rfl;exact rfl;exact .cons (aL.aF (xs:=[nR sn bM ms ps us ss os]) rfl _) .nil;exact⟨0,0,by omega,rfl,rfl,rfl⟩;rintro _ _ _ ⟨k,sm,hk,rfl,rfl,rfl⟩)
  |(refine aq [1,2,8,9] [] ?_;(conv=>whnf);exact⟨rfl,_,[_,_],_, .cons (aL.aF (xs:=[nR sn bM ms ps us ss os]) rfl _) .nil,QJ.next (by omega) BC,rfl,rfl,by omega⟩)
  |(apply bc [1,2,5,6,7] [] [6,7] [(4,7)] (QJ (nR sn bM ms ps us ss os) 17) (17) [iV .i64 0,iV .i64 0];(conv=>whnf);exact⟨rfl,rfl,rfl,rfl⟩;exact rfl;exact rfl;exact .cons (aL.aF (xs:=[nR sn bM ms ps us ss os]) rfl _) .nil;exact⟨0,0,by omega,rfl,rfl,rfl⟩;rintro _ _ _ ⟨j,sm,hj,rfl,rfl,rfl⟩)
  |(refine aq [1,2,5,6,7] [] ?_;(conv=>whnf);exact⟨rfl,_,[_,_],_, .cons (aL.aF (xs:=[nR sn bM ms ps us ss os]) rfl _) .nil,QJ.next (by omega) (by decide),rfl,rfl,by omega⟩)
  |(apply bc [1,2,5] [] [5] [(4,7)] (M5 (nR sn bM ms ps us ss os) ps.length) (ps.length) [iV .i64 0];(conv=>whnf);exact⟨rfl,rfl,rfl,rfl⟩;exact rfl;exact rfl;exact .cons (aL.aF (xs:=[nR sn bM ms ps us ss os]) rfl _) .nil;exact⟨0,by omega,rfl,rfl,rfl⟩;rintro _ _ _ ⟨i,hi,rfl,rfl,rfl⟩)
  |(refine aq [1,2,5] [] ?_;(conv=>whnf);exact⟨rfl,_,[_],_, .cons (aL.aF (xs:=[nR sn bM ms ps us ss os]) rfl _) .nil,M5.next (by omega) mN,rfl,rfl,by omega⟩))
 all_goals (conv=>whnf)
end Go.aU.Cd
end
section
namespace Go.aU.Cd
open Go Go.Proofs
set_option maxRecDepth 100000
set_option maxHeartbeats 1000000
def c12:Rc:=Sq (Rg [Bx 2 0,Mb 4 false]) (Sq (Rg [Fa 5 7 2,Fa 6 0 5,Fa 7 4 6,Ld 8 7,Le 9 8,Bi 10 .leq 9 3,Mv 11 10,Gb 11 (Fa 12 0 2),Gb 11 (Lo 7 13 12),Gb 11 (Fa 14 7 2),Gb 11 (Fa 15 0 14),Gb 11 (Fa 16 4 15),Gb 11 (Ld 17 16),Gb 11 (Le 18 17),Gb 11 (p 19 (.call 25 [t 13,t 18])),Pf 20 11 19,Mv 21 20,Gb 21 (Fa 22 7 2),Gb 21 (Fa 23 0 22),Gb 21 (Fa 24 5 23),Gb 21 (Ld 25 24),Gb 21 (Le 26 25),Gb 21 (Bi 27 .leq 26 8),Pf 28 21 27,Mv 29 28,Gb 29 (Fa 30 7 2),Gb 29 (Lo 7 31 30),Gb 29 (Fa 32 14 2),Gb 29 (Ld 33 32),Gb 29 (Fa 34 15 2),Gb 29 (Ld 35 34),Gb 29 (Mv 36 1),Gb 29 (p 37 (.call 26 [t 31,t 33,t 35,t 36])),Pf 38 29 37,Mv 39 38,Gb 39 (Fa 40 7 2),Gb 39 (Lo 7 41 40),Gb 39 (p 42 (.call 22 [t 41,kn,kn,kn])),Pf 43 39 42,Mv 4 43]) Rt)
theorem avW:ae Tryz.prog (Tryz.f12.body.getD .skip)=some c12:=by kernel_rfl
theorem ayC:Tryz.f12.body=some (Tryz.f12.body.getD .skip):=rfl
def c21:Rc:=Sq (Rg [Bx 1 0,Mn 2,Mb 3 false]) (Sq (Sq (Rg [Lo 16 6 1,p 7 (.call 12 [t 6,kn]),Nt 8 7]) (Cn 8 (Sq (Rg [Mn 2,Mb 3 false]) Rt) Sk)) (Sq (Rg [Fa 10 0 1,Lo 7 11 10,Fa 12 7 1,Lo 7 13 12,Fa 14 14 1,Ld 15 14,Fa 16 15 1,Ld 17 16,p 18 (.call 14 [t 11,t 13,t 15,t 17]),Mv 9 18,Et 19 9 0,Et 20 9 1,Mv 4 19,Mv 5 20]) (Sq (Rg [Mv 21 4,Mv 22 5,Bi 23 .eql 22 0,Mv 2 21,Mv 3 23]) Rt)))
theorem avS:ae Tryz.prog (Tryz.f21.body.getD .skip)=some c21:=by kernel_rfl
theorem axY:Tryz.f21.body=some (Tryz.f21.body.getD .skip):=rfl
abbrev RR (sn:ByteArray) (bM ms ps us ss os:Lz) (ln wd rx ry:Int) (sizes places ag bs cuts:Lz):W:=
 .agg [.t (.val (.string sn)), .t (.ao 1 bM), .t (.ao 1 ms), .t (.ao 7 ps), .t (.ao 3 us), .t (.ao 6 ss), .t (.ao 5 os), .t (tI ln), .t (tI wd), .t (tI rx), .t (tI ry), .t (.ao 1 sizes), .t (.ao 7 places), .t (.ao 2 ag), .t (.ao 6 bs), .t (.ao 6 cuts)]
def mP (bS b3:Bool) (ns nq np nb:Nat) (cuts:Lz):Bool:=decide (ns≤3)&&bS&&decide (nq≤8)&&b3&&mQ np nb cuts
section
variable {bS b3:Bool} {ns nq np nb:Nat} {cuts:Lz}
theorem asP (h:3 < ns): [oB false]=[oB (mP bS b3 ns nq np nb cuts)]:=by
 have:¬ns≤3:=by omega
 simp[mP,this]
theorem asO (h:bS=false): [oB false]=[oB (mP bS b3 ns nq np nb cuts)]:=by simp[mP,h]
theorem asN (h:8 < nq): [oB false]=[oB (mP bS b3 ns nq np nb cuts)]:=by
 have:¬nq≤8:=by omega
 simp[mP,this]
theorem asM (h:mQ np nb cuts=false): [oB false]=[oB (mP bS b3 ns nq np nb cuts)]:=by simp[mP,h]
theorem asL (h1:ns≤3) (h2:bS=true) (h3:nq≤8) (h4:mQ np nb cuts=true): [oB b3]=[oB (mP bS b3 ns nq np nb cuts)]:=by simp[mP,h1,h2,h3,h4]
end
theorem ke (sn:ByteArray) (bM ms ps us ss os:Lz) (ln wd rx ry:Int) (sizes places ag bs cuts:Lz) (hc:Eu cuts) (ee:cuts.length≤maxLen) (bS b3:Bool) (h1:Te 25 [g8 sn bM ms ps us ss os,oI sizes.length] [oB bS]) (h3:Te 22 [kF ln wd rx ry sizes places ag, .one (.t eR), .one (.t eR), .one (.t eR)] [oB b3]): ∃ts,Fn Tryz.prog 12 [RR sn bM ms ps us ss os ln wd rx ry sizes places ag bs cuts, .one (.t eR)] [] (aO ts) []∧(aO ts).bJ=true∧(fun ts=>ts=[oB (mP bS b3 sizes.length places.length ag.length bs.length cuts)]) ts:=by
 refine ah (n:=44) (rs:=[.tmp 4]) Tryz.func12 ayC avW rfl rfl (by simp) ?_
 repeat' (conv=>whnf
          first
  |(refine az (fun h=>?_) (fun h=>?_))
  |(refine aB (fun h=>?_) (fun h=>?_))
  |(refine ai rfl (h1) ?_;rintro _ rfl)
  |(refine ai rfl (h3) ?_;rintro _ rfl)
  |(refine ai rfl (qu ln wd rx ry sizes places ag bs cuts hc ee) ?_;rintro _ rfl)
  |exact g1 rfl rfl (asL (by omega) (by assumption) (by omega) (by assumption))
  |exact g1 rfl rfl (asP (by omega))
  |exact g1 rfl rfl (asO (by assumption))
  |exact g1 rfl rfl (asN (by omega))
  |exact g1 rfl rfl (asM (by assumption)))
 all_goals (conv=>whnf)
def GSn (bf:Bool) (gz:Lz) (ck:Int) (ts:List W):Prop:=ts=[oL 5 (cond bf gz []),oB (bf&& (ck==0))]
theorem anM {bf:Bool} {gz:Lz} {ck:Int} (h:bf=false):GSn bf gz ck [oL 5 [],oB false]:=by subst h;rfl
theorem anL {bf:Bool} {gz:Lz} {ck:Int} (h:bf=true):GSn bf gz ck [oL 5 gz,oB (ck==0)]:=by subst h;rfl
theorem jz (sn:ByteArray) (bM ms ps us ss os:Lz) (ln wd rx ry:Int) (sizes places ag bs cuts:Lz) (bf:Bool) (gz:Lz) (ck:Int) (h1:Te 12 [RR sn bM ms ps us ss os ln wd rx ry sizes places ag bs cuts, .one (.t eR)] [oB bf]) (h2:bf=true→Te 14 [g8 sn bM ms ps us ss os,kF ln wd rx ry sizes places ag,oL 6 bs,oL 6 cuts] [oL 5 gz,oI ck]):Tg 21 [RR sn bM ms ps us ss os ln wd rx ry sizes places ag bs cuts] (GSn bf gz ck):=by
 refine aG ?_
 refine ah (n:=24) (rs:=[.tmp 2, .tmp 3]) Tryz.func21 axY avS rfl rfl (by simp) ?_
 repeat' (conv=>whnf
          first
  |(refine aB (fun h=>?_) (fun h=>?_))
  |(refine ai rfl (h1) ?_;rintro _ rfl)
  |(refine ai rfl (h2 (nh (by assumption))) ?_;rintro _ rfl)
  |exact iy rfl (dR 5 rfl) (dw rfl) (anM (JY (by assumption)))
  |exact iy rfl (dw rfl) (dw rfl) (anL (nh (by assumption))))
 all_goals (conv=>whnf)
structure ahF (sn:ByteArray) (bM ms ps us ss os sizes places ag bs:Lz):Prop where
 sty:jE sn bM ms ps us ss os
 hz:Is sizes
 sG:sizes.length≤maxLen
 hp:QO places
 mN:places.length≤maxLen
 hy:QN ag
 vl:ag.length≤maxLen
 hb:JQ bs
 BK:bs.length≤maxLen
structure ahE (sizes places ag bs:Lz):Prop where
 s:sizes.length≤3
 q:places.length≤8
 p:ag.length≤8
 b:bs.length≤16
def okB (b0:Bool) (e0:Int) (np nq:Nat) (cuts:Lz):Bool:=b0&&AD cuts&& (uK e0 np nq cuts==0)
theorem ajE (sn:ByteArray) (bM ms ps us ss os:Lz) (ln wd rx ry:Int) (sizes places ag bs:Lz) (h:ahF sn bM ms ps us ss os sizes places ag bs): ∃ (b0:Bool) (e0:Int),
 (b0=true→rB sizes places ag∧ahE sizes places ag bs∧(e0=0→xA sizes ag bs bs.length))∧ ∀cuts,Eu cuts→cuts.length≤maxLen→
 (∃ts,Fn Tryz.prog 21 [RR sn bM ms ps us ss os ln wd rx ry sizes places ag bs cuts] [] (aO ts) []∧(aO ts).bJ=true∧ ∃gz,ts=[oL 5 gz,oB (okB b0 e0 ag.length places.length cuts)]∧(okB b0 e0 ag.length places.length cuts=true→gz=jV sizes places ag cuts bs bs.length))∧
 (okB b0 e0 ag.length places.length cuts=true→ ∀gs,(∀e,e∈gs→JJ e)→gs.length≤maxLen→Tg 17 [g8 sn bM ms ps us ss os,kF ln wd rx ry sizes places ag,oL 6 bs,oL 6 cuts,oL 5 gs] (JN 0 places ag cuts bs gs)):=by
 obtain⟨t1,f1,i1,bS,rfl⟩:=ob sn bM ms ps us ss os h.sty (sizes.length:Int)
 obtain⟨t3,f3,i3,b3,rfl⟩:=qv ln wd rx ry sizes places ag h.hy h.vl
 by_cases hb0:(decide (sizes.length≤3)&&bS&&decide (places.length≤8)&&b3&& (decide (ag.length≤8)&&decide (bs.length≤16)))=true
 · have Sz:ahE sizes places ag bs:=by
    simp only[Bool.and_eq_true,decide_eq_true_eq]at hb0
    exact⟨hb0.1.1.1.1,hb0.1.1.2,hb0.2.1,hb0.2.2⟩
   have hL:rB sizes places ag:=⟨h.hz,by have:=Sz.s;omega,h.hp,by have:=Sz.q;omega,h.hy,by have:=Sz.p;omega⟩
   obtain⟨e0,he0,vq⟩:=uR sn bM ms ps us ss os h.sty ln wd rx ry sizes places ag hL bs h.hb h.BK
   refine⟨true,e0,fun _=>⟨hL,Sz,fun h0=>(he0 h0).2⟩,fun cuts hc ee=>?_⟩
   have Ge:=ke sn bM ms ps us ss os ln wd rx ry sizes places ag bs cuts hc ee bS b3 ⟨_,f1,i1,rfl⟩ ⟨_,f3,i3,rfl⟩
   have hbf:mP bS b3 sizes.length places.length ag.length bs.length cuts=AD cuts:=by
    simp only[Bool.and_eq_true,decide_eq_true_eq]at hb0
    simp[mP,mQ,hb0.1.1.1.1,hb0.1.1.1.2,hb0.1.1.2,hb0.1.2,hb0.2.1,hb0.2.2]
   rw[hbf]at Ge
   have BK:bs.length≤1000000:=by have:=Sz.b;omega
   have hBd:uK e0 ag.length places.length cuts=0→ag.length≤40∧ ∀e,e∈bs→M9 sizes ag e:=fun h0=>⟨(he0 (Da h0).1).1,O7 h.hb (he0 (Da h0).1).2⟩
   refine⟨?_,fun hok gs hg Ou=>?_⟩
   · have apL:AD cuts=true→Te 14 [g8 sn bM ms ps us ss os,kF ln wd rx ry sizes places ag,oL 6 bs,oL 6 cuts] [oL 5 (if uK e0 ag.length places.length cuts=0 then jV sizes places ag cuts bs bs.length else []),oI (uK e0 ag.length places.length cuts)]:=by
      intro _
      obtain⟨ts,f,i,rfl⟩:=za sn bM ms ps us ss os ln wd rx ry sizes places ag bs cuts hL h.hb BK hc ee _ (vq cuts hc ee) hBd
      refine⟨_,f,i,?_⟩
      unfold H6
      split
      · rename_i h0
        rw[h0]
      · rfl
     obtain⟨ts,f,i,rfl⟩:=jz sn bM ms ps us ss os ln wd rx ry sizes places ag bs cuts _ _ _ Ge apL
     refine⟨_,f,i,_,rfl,fun hok=>?_⟩
     simp only[okB,Bool.true_and,Bool.and_eq_true,beq_iff_eq]at hok
     rw[hok.1,if_pos hok.2]
     rfl
   · simp only[okB,Bool.true_and,Bool.and_eq_true,beq_iff_eq]at hok
     have Tk:=vq cuts hc ee
     rw[hok.2]at Tk
     have aGN:cuts.length≤2400:=(Da hok.2).2.1
     exact uS sn bM ms ps us ss os ln wd rx ry sizes places ag bs cuts gs hL h.hb BK hc (by omega) hg Ou 0 Tk (fun _=>⟨(hBd hok.2).2,(Da hok.2).2.2⟩)
 · refine⟨false,0,fun hh=>by simp at hh,fun cuts hc ee=>⟨?_,fun hok=>by simp[okB]at hok⟩⟩
   have Ge:=ke sn bM ms ps us ss os ln wd rx ry sizes places ag bs cuts hc ee bS b3 ⟨_,f1,i1,rfl⟩ ⟨_,f3,i3,rfl⟩
   have hbf:mP bS b3 sizes.length places.length ag.length bs.length cuts=false:=by
    cases hx:mP bS b3 sizes.length places.length ag.length bs.length cuts with
    |false=>rfl
    |true=>
     exfalso
     apply hb0
     simp only[mP,mQ,Bool.and_eq_true]at hx⊢
     exact⟨hx.1,hx.2.1⟩
   rw[hbf]at Ge
   obtain⟨ts,f,i,rfl⟩:=jz sn bM ms ps us ss os ln wd rx ry sizes places ag bs cuts false [] 0 Ge (fun hh=>by simp at hh)
   exact⟨_,f,i,_,rfl,fun hok=>by simp[okB]at hok⟩
end Go.aU.Cd
end
section
namespace Go.aU
open Go
def TTf (R:TypeId→List T→Prop):List Field→List T→Prop
 | [],ts=>ts=[]
 |f::fs,ts=> ∃a b,ts=a++b∧R f.type a∧TTf R fs b
def TT (P:Program):Nat→TypeId→List T→Prop
 |0,_,_=>False
 |d+1,t,ts=>
  match P.underlying t with
  |some .bool=> ∃b,ts=[.val (.bool b)]
  |some (.int k)=> ∃n,ts=[.val (.int k n)]∧(Lit.int k n).wf=true
  |some .string=> ∃s,ts=[.val (.string s)]∧s.size≤maxLen
  |some (.slice e)=> ∃xs,ts=[.ao (P.cellsOf e) xs]∧xs.length≤maxLen∧ ∀x,x∈xs→TT P d e x
  |some (.struct fs)=>TTf (TT P d) fs.toList ts
  |_=>False
def qM (P:Program):Nat→List Field→Option Nat
 |off,[]=>some off
 |off,f::r=>if f.offset=off then qM P (off+P.cellsOf f.type) r else none
def gZ (P:Program):Nat→TypeId→Bool
 |0,_=>false
 |d+1,t=>
  match P.underlying t with
  |some .bool|some (.int _)|some .string=>P.cellsOf t==1
  |some (.slice e)=>P.cellsOf t==1&&decide (0 < P.cellsOf e)&&gZ P d e
  |some (.struct fs)=>qM P 0 fs.toList==some (P.cellsOf t)&&fs.toList.all fun f=>gZ P d f.type
  |_=>false
def M4 (w:World) (ts:List T) (cs:List Value):Prop:=
 ts.length=cs.length∧ ∀ (i:Nat) (t:T) (x:Value),ts[i]? =some t→cs[i]? =some x→RT w (fun _=>False) t x
theorem M4.append {w:World} {a b:List T} {c d:List Value} (h:M4 w a c) (k:M4 w b d):M4 w (a++b) (c++d):=by
 refine⟨by simp[h.1,k.1],fun i t x ht hx=>?_⟩
 by_cases hi:i < a.length
 · rw[List.getElem?_append_left hi]at ht
   rw[List.getElem?_append_left (by rw[←h.1];exact hi)]at hx
   exact h.2 i t x ht hx
 · rw[List.getElem?_append_right (by omega)]at ht
   rw[List.getElem?_append_right (by rw[←h.1];omega), ←h.1]at hx
   exact k.2 _ t x ht hx
theorem oP {α β:Type} {f:α→Option β}: ∀ {l:List α} {r:List β},l.mapM f=some r→r.length=l.length∧ ∀ (i:Nat) (x:α),l[i]? =some x→ ∃y,r[i]? =some y∧f x=some y
 | [],r,h=>by simp at h;subst h;simp
 |x::l,r,h=>by
  simp only[List.mapM_cons,Option.bind_eq_bind,Option.bind_eq_some_iff]at h
  obtain⟨y,hy,r',cO,h⟩:=h
  simp only[pure,Option.some.injEq]at h
  subst h
  obtain⟨h1,h2⟩:=oP cO
  refine⟨by simp[h1],fun i z hz=>?_⟩
  cases i with
  |zero=>simp only[List.getElem?_cons_zero,Option.some.injEq]at hz;subst hz;exact⟨y,rfl,hy⟩
  |succ i=>simpa using h2 i z (by simpa using hz)
theorem BY {w:World} {b off n:Nat} {cs:List Value} (h:w.cells? 0 ⟨b,off,none⟩ n=some cs):cs.length=n∧ ∀ (j:Nat) (x:Value),cs[j]? =some x→w.cell? ⟨b,off+j,none⟩=some x:=by
 unfold World.cells? at h
 simp only[Nat.zero_le,if_true]at h
 obtain⟨h1,h2⟩:=oP h
 simp only[List.length_range]at h1
 refine⟨h1,fun j x hx=>?_⟩
 have hj:j < n:=by rw[←h1];exact(List.getElem?_eq_some_iff.1 hx).1
 obtain⟨y,hy,hc⟩:=h2 j j (by simp[hj])
 rw[hx]at hy
 simp only[Option.some.injEq]at hy
 subst hy
 simpa[Addr.add_lit]using hc
theorem Dw {α:Type} (cs:List α) (off n:Nat):(cs.drop off).take n++cs.drop (off+n)=cs.drop off:=by
 rw[←List.drop_drop]
 exact List.take_append_drop n (cs.drop off)
theorem ww {H:Type} {enc:TypeId×Value→H} {P:Program} {w:World}: ∀ (d:Nat) (t:TypeId),gZ P d t=true→ ∀ (fuel:Nat) (sp:Nat→Bool) (hd:Bool) (cs:List Value) (x:DataW H×List MemPlace),
 DataW.trod enc P w 0 sp hd fuel t cs=some x→cs.length=P.cellsOf t→ ∃ts,M4 w ts cs∧TT P d t ts:=by
 intro d
 induction d with
 |zero=>intro t h;simp[gZ]at h
 |succ d ih=>
  intro t hok fuel sp hd cs x h hlen
  cases fuel with
  |zero=>simp[DataW.trod]at h
  |succ fuel=>
   have one: ∀ {v:Value} {q:T},cs=[v]→RT w (fun _=>False) q v→M4 w [q] cs:=by
    intro v q hcs hr
    subst hcs
    refine⟨rfl,fun i t x ht hx=>?_⟩
    cases i with
    |zero=>simp only[List.getElem?_cons_zero,Option.some.injEq]at ht hx;subst ht;subst hx;exact hr
    |succ i=>simp at ht
   unfold gZ at hok
   unfold TT
   cases hu:P.underlying t with
   |none=>simp[hu]at hok
   |some dsc=>
    simp only[hu]at hok
    cases dsc with
    |bool=>
     simp only[beq_iff_eq]at hok
     rw[hok]at hlen
     obtain⟨v,rfl⟩:=List.length_eq_one_iff.1 hlen
     simp only[DataW.trod,hu]at h
     cases v<;>simp at h
     exact⟨_,one rfl (.val rfl),_,rfl⟩
    |int k=>
     simp only[beq_iff_eq]at hok
     rw[hok]at hlen
     obtain⟨v,rfl⟩:=List.length_eq_one_iff.1 hlen
     simp only[DataW.trod,hu]at h
     cases v<;>simp at h
     obtain⟨⟨rfl,hwf⟩,_⟩:=h
     exact⟨_,one rfl (.val rfl),_,rfl,hwf⟩
    |string=>
     simp only[beq_iff_eq]at hok
     rw[hok]at hlen
     obtain⟨v,rfl⟩:=List.length_eq_one_iff.1 hlen
     simp only[DataW.trod,hu]at h
     cases v<;>simp at h
     exact⟨_,one rfl (.val rfl),_,rfl,h.1⟩
    |slice e=>
     simp only[Bool.and_eq_true,beq_iff_eq,decide_eq_true_eq]at hok
     obtain⟨⟨hone,hpos⟩,hde⟩:=hok
     rw[hone]at hlen
     obtain⟨v,rfl⟩:=List.length_eq_one_iff.1 hlen
     cases v with
     |slice a len cap=>
      cases a with
      |none=>
       have h0:len=0∧cap=0:=by
        cases len<;>cases cap<;>simp[DataW.trod,hu]at h<;>simp
       obtain⟨rfl,rfl⟩:=h0
       exact⟨_,one rfl (.nil (sz:=P.cellsOf e)),[],rfl,by simp,by simp⟩
      |some a=>
       simp only[DataW.trod,hu]at h
       split at h
       · rename_i hc
         obtain⟨_,hlc,hcm⟩:=hc
         simp only[Option.bind_eq_some_iff]at h
         obtain⟨elems,hel,_⟩:=h
         obtain⟨k1,k2⟩:=oP hel
         simp only[List.length_range]at k1
         by_cases hz:len=0
         · subst hz
           exact⟨_,one rfl (.nil (sz:=P.cellsOf e)),[],rfl,by simp,by simp⟩
         ·
          have Tf: ∀i,i < len→ ∃ci xi,w.cells? 0 (a.add (i * P.cellsOf e)) (P.cellsOf e)=some ci∧DataW.trod enc P w 0 sp hd fuel e ci=some xi:=by
           intro i hi
           obtain⟨y,_,hy⟩:=k2 i i (by simp[hi])
           simp only[Option.bind_eq_some_iff]at hy
           obtain⟨ci,h1,h2⟩:=hy
           exact⟨ci,y,h1,h2⟩
          have Kh:a.spot=none:=by
           obtain⟨ci,_,h1,_⟩:=Tf 0 (by omega)
           simp only[Nat.zero_mul,Addr.add_zero']at h1
           unfold World.cells? at h1
           simp only[Nat.zero_le,if_true]at h1
           obtain⟨_,q2⟩:=oP h1
           obtain⟨y,_,hy⟩:=q2 0 0 (by simp[hpos])
           simp only[Addr.add_zero']at hy
           unfold World.cell? at hy
           split at hy
           · split at hy
             · simp at hy
             · rename_i hs;simpa using hs
           · simp at hy
          obtain⟨b,off,spot⟩:=a
          simp only at Kh
          subst Kh
          have hch: ∀i, ∃ts:List T,i < len→ ∃ci,(ci.length=P.cellsOf e∧ ∀ (j:Nat) (x:Value),ci[j]? =some x→w.cell? ⟨b,off+i * P.cellsOf e+j,none⟩=some x)∧M4 w ts ci∧TT P d e ts:=by
           intro i
           by_cases hi:i < len
           · obtain⟨ci,xi,h1,h2⟩:=Tf i hi
             rw[Addr.add_lit]at h1
             have hg:=BY h1
             obtain⟨ts,t1,t2⟩:=ih e hde fuel sp hd ci xi h2 hg.1
             exact⟨ts,fun _=>⟨ci,hg,t1,t2⟩⟩
           · exact⟨[],fun h=>absurd h hi⟩
          obtain⟨g,hg⟩:=Classical.axiomOfChoice hch
          have hxs: ∀ (i:Nat) (el:List T),((List.range len).map g)[i]? =some el→i < len∧el=g i:=by
           intro i el hel
           have hi:i < len:=by have:=(List.getElem?_eq_some_iff.1 hel).1;simpa using this
           simp[hi]at hel
           exact⟨hi,hel.symm⟩
          have hbs:b < w.heap.size:=by
           obtain⟨ci,⟨q1,q2⟩,_⟩:=hg 0 (by omega)
           have h0:0 < ci.length:=by rw[q1];exact hpos
           have:=q2 0 ci[0] (by simp[h0])
           rcases Nat.lt_or_ge b w.heap.size with hl|hl
           · exact hl
           · simp[World.cell?,Array.getElem?_eq_none hl]at this
          refine⟨_,one rfl (.ao (sz:=P.cellsOf e) (xs:=(List.range len).map g) (fun i j=>(w.cell? ⟨b,off+i * P.cellsOf e+j,none⟩).getD undef) (by simp) hlc hbs (fun h=>h) ?_ ?_ ?_),(List.range len).map g,rfl,by simp;omega,?_⟩
          · intro el hel
            simp only[List.mem_map,List.mem_range]at hel
            obtain⟨i,hi,rfl⟩:=hel
            obtain⟨ci,q1,q2,_⟩:=hg i hi
            rw[q2.1,q1.1]
          · intro i el j c hel hj
            obtain⟨hi,rfl⟩:=hxs i el hel
            obtain⟨ci,q1,q2,_⟩:=hg i hi
            have AY:j < ci.length:=by rw[←q2.1];exact(List.getElem?_eq_some_iff.1 hj).1
            rw[q1.2 j ci[j] (by simp[AY])];rfl
          · intro i el j c hel hj
            obtain⟨hi,rfl⟩:=hxs i el hel
            obtain⟨ci,q1,q2,_⟩:=hg i hi
            have AY:j < ci.length:=by rw[←q2.1];exact(List.getElem?_eq_some_iff.1 hj).1
            rw[q1.2 j ci[j] (by simp[AY])]
            exact q2.2 j c ci[j] hj (by simp[AY])
          · intro el hel
            simp only[List.mem_map,List.mem_range]at hel
            obtain⟨i,hi,rfl⟩:=hel
            exact(hg i hi).choose_spec.2.2
       · simp at h
     |_=>simp[DataW.trod,hu]at h
    |struct fs=>
     simp only[Bool.and_eq_true,beq_iff_eq,List.all_eq_true]at hok
     obtain⟨htl,ef⟩:=hok
     simp only[DataW.trod,hu]at h
     rw[if_pos hlen]at h
     simp only[Option.map_eq_some_iff]at h
     obtain⟨xs,hxs,_⟩:=h
     have go: ∀ (l:List Field) (off:Nat) (ys:List (DataW H×List MemPlace)),(∀f,f∈l→gZ P d f.type=true)→qM P off l=some cs.length→off≤cs.length→
      l.mapM (fun f=>DataW.trod enc P w 0 sp hd fuel f.type ((cs.drop f.offset).take (P.cellsOf f.type)))=some ys→ ∃ts,M4 w ts (cs.drop off)∧TTf (TT P d) l ts:=by
      intro l
      induction l with
      |nil=>
       intro off ys _ ht aqA _
       simp only[qM,Option.some.injEq]at ht
       subst ht
       exact⟨[],⟨by simp,by simp⟩,rfl⟩
      |cons f l ihl=>
       intro off ys hf ht aqA hm
       simp only[qM]at ht
       split at ht
       · rename_i hfo
         simp only[List.mapM_cons,Option.bind_eq_bind,Option.bind_eq_some_iff]at hm
         obtain⟨y,hy,ys',aoS,_⟩:=hm
         have hend:off+P.cellsOf f.type≤cs.length:=by
          have mono: ∀ (l:List Field) (o e:Nat),qM P o l=some e→o≤e:=by
           intro l
           induction l with
           |nil=>intro o e h;simp only[qM,Option.some.injEq]at h;omega
           |cons f l ih=>intro o e h;simp only[qM]at h;split at h;exact Nat.le_trans (Nat.le_add_right _ _) (ih _ _ h);simp at h
          exact mono l _ _ ht
         obtain⟨ts2,r2,t2⟩:=ihl (off+P.cellsOf f.type) ys' (fun g hg=>hf g (by simp[hg])) ht hend aoS
         rw[hfo]at hy
         obtain⟨ts1,r1,t1⟩:=ih f.type (hf f (by simp)) fuel sp hd _ y hy (by simp;omega)
         refine⟨ts1++ts2,?_,ts1,ts2,rfl,t1,t2⟩
         rw[←Dw cs off (P.cellsOf f.type)]
         exact r1.append r2
       · simp at ht
     have:=go fs.toList 0 xs (fun f hf=>ef f hf) (by rw[htl,hlen]) (Nat.zero_le _) hxs
     simpa using this
    |_=>simp at hok
end Go.aU
end
section
namespace Go.aU
open Go Go.RowKit Go.ChangeShapes Go.WideShapes
variable {H:Type} {enc:TypeId×Value→H} {P:Program}
def P1 (P:Program) (t:TypeId) (ts:List T):W:=
 match iN P t with
 |some true=> .agg (ts.map .t)
 |_=>match ts with
  | [x]=> .one (.t x)
  |_=> .agg (ts.map .t)
theorem G8 {W:World} {sp:Nat→Bool} {base d:Nat} {t:TypeId} {v:Value} {x:DataW H} {p:List MemPlace} {ρ:Env} (hok:Value.okWide P W .any base t v) (hr:DataW.Trod enc P W 0 sp true t v x p) (hd:gZ P (d+1) t=true):
 ∃ts,TT P (d+1) t ts∧RW W (fun _=>False) ρ (P1 P t ts) v:=by
 obtain⟨fuel,hr⟩:=hr
 unfold Value.okWide at hok
 have yG:=hd
 unfold gZ at yG
 cases hu:P.underlying t with
 |none=>simp[hu]at yG
 |some dsc=>
  simp only[hu]at hok yG
  have pB:iN P t=some false→v.oneCell'=true→P.cellsOf t=1→ ∃ts,TT P (d+1) t ts∧RW W (fun _=>False) ρ (P1 P t ts) v:=by
   intro oa hv hone
   have hvc:v.cells.toList=[v]:=by cases v<;>simp[Value.oneCell']at hv<;>rfl
   rw[hvc]at hr
   obtain⟨ts,h1,h2⟩:=ww (d+1) t hd fuel sp true [v] _ hr (by simp[hone])
   refine⟨ts,h2,?_⟩
   have hl:ts.length=1:=by simpa using h1.1
   obtain⟨q,rfl⟩:=List.length_eq_one_iff.1 hl
   simp only[P1,oa]
   exact⟨h1.2 0 q v rfl rfl,hv⟩
  cases dsc with
  |struct fs=>
   simp only at hok
   obtain⟨cs,rfl,hsz,_⟩:=hok
   obtain⟨ts,h1,h2⟩:=ww (d+1) t hd fuel sp true cs.toList _ hr (by simpa using hsz)
   refine⟨ts,h2,?_⟩
   have oa:iN P t=some true:=by simp[iN,hu]
   simp only[P1,oa]
   refine⟨cs,rfl,by simpa using h1.1,fun k c x hk hx=>?_⟩
   simp only[List.getElem?_map,Option.map_eq_some_iff]at hk
   obtain⟨q,hq,rfl⟩:=hk
   have:=h1.2 k q x hq (by simpa using hx)
   exact⟨this,this.cell⟩
  |bool=>
   simp only[beq_iff_eq]at yG
   refine pB (by simp[iN,hu]) ?_ yG
   cases v<;>simp_all[Cell.okWide,Cell.ok,Value.oneCell']
  |int k=>
   simp only[beq_iff_eq]at yG
   refine pB (by simp[iN,hu]) ?_ yG
   cases v<;>simp_all[Cell.okWide,Cell.ok,Value.oneCell']
  |string=>
   simp only[beq_iff_eq]at yG
   refine pB (by simp[iN,hu]) ?_ yG
   cases v<;>simp_all[Cell.okWide,Cell.ok,Value.oneCell']
  |slice e=>
   simp only[Bool.and_eq_true,beq_iff_eq]at yG
   refine pB (by simp[iN,hu]) ?_ yG.1.1
   cases v<;>simp_all[Cell.okWide,Cell.ok,Value.oneCell']
  |_=>simp at yG
def Typed (P:Program) (d:Nat):List TypeId→List W→Prop
 | [],us=>us=[]
 |t::ts,us=> ∃a r,us=P1 P t a::r∧TT P d t a∧Typed P d ts r
theorem xn {W:World} {base d:Nat} {ρ:Env}: ∀ {ts:List TypeId} {vs:List Value} {ds:List (DataW H)} {ps:List MemPlace},DataW.TrodAll enc P W 0 (fun _=>true) true ts vs ds ps→
 (∀ (j:Nat) (t:TypeId) (v:Value),ts[j]? =some t→vs[j]? =some v→Value.okWide P W .any base t v)→(∀t,t∈ts→gZ P (d+1) t=true)→ ∃us,Typed P (d+1) ts us∧zc W (fun _=>False) ρ us vs
 | [],vs,ds,ps,h,_,_=>by
   obtain⟨rfl,_⟩:=trodAll_nil h
   exact⟨[],rfl,rfl,by simp⟩
 |t::ts,vs,ds,ps,h,hval,hdp=>by
  obtain⟨v,vs',x,ds',p,q,rfl,rfl,rfl,h1,h2⟩:=trodAll_cons h
  obtain⟨a,ha,hra⟩:=G8 (ρ:=ρ) (hval 0 t v rfl rfl) h1 (hdp t (by simp))
  obtain⟨us,hu,hl,hru⟩:=xn (ρ:=ρ) h2 (fun j t' v' ht hv=>hval (j+1) t' v' (by simpa using ht) (by simpa using hv)) (fun t' ht=>hdp t' (by simp[ht]))
  refine⟨P1 P t a::us,⟨a,us,rfl,ha,hu⟩,by simp[hl],fun k u y hk hy=>?_⟩
  cases k with
  |zero=>
   simp only[List.getElem?_cons_zero,Option.some.injEq]at hk hy
   subst hk
   subst hy
   exact hra
  |succ k=>exact hru k u y (by simpa using hk) (by simpa using hy)
theorem uT (hl:laidOutB P=true) {W W':World} (hb:Below W.heap.size W W'): ∀ {ts:List TypeId} {vs:List Value} {ds:List (DataW H)} {ps:List MemPlace},DataW.TrodAll enc P W 0 (fun _=>true) true ts vs ds ps→
 (∀t,t∈ts→P.readableRec t=true∧t < P.types.size)→DataW.TrodAll enc P W' 0 (fun b=>decide (b < W.heap.size)) true ts vs ds ps
 | [],vs,ds,ps,h,_=>by
   obtain⟨rfl,rfl,rfl⟩:=trodAll_nil h
   exact trodAll_mk0
 |t::ts,vs,ds,ps,h,ht=>by
  have hlt:=h.lt
  obtain⟨v,vs',x,ds',p,q,rfl,rfl,rfl,h1,h2⟩:=trodAll_cons h
  have h3:=Below.trod hl (ht t (by simp)).1 (ht t (by simp)).2 h1 hb (fun z hz=>hlt z (by simp[hz]))
  exact trodAll_cons_mk h3 (uT hl hb h2 (fun t' h'=>ht t' (by simp[h'])))
theorem yZ {W W':World} (h:cz (fun b=>W.heap.size≤b) W W'):Below W.heap.size W W':=
 ⟨h.os,h.tape,h.output,h.size,fun k hk=>h.block k hk (by omega)⟩
theorem P2 {f:FuncId} {fn:Func} {s:ChangeSpec} {d:Nat} {W:World} {base:Nat} {args:Array Value} {ds gs:List (DataW H)} {before:List MemPlace}
 (hl:laidOutB P=true) (hvars:s.vars=[]) (hres:fn.resultTypes= #[4]) (Tn:P.underlying 4=some .bool) (Sy: ∀ds:List (DataW H),ds.length=fn.params.size→(s.fn H ds).results=[.lit (.bool true)]∧(s.fn H ds).args=ds∧(s.fn H ds).vars=[])
 (hdp: ∀t,t∈fn.params.toList→gZ P (d+1) t=true) (hrd: ∀t,t∈fn.params.toList→P.readableRec t=true∧t < P.types.size)
 (hFn: ∀us,Typed P (d+1) fn.params.toList us→Fn P f us [] (.w (.one (.t (.val (.bool true))))) [])
 (hval: ∀ (j:Nat) t v,fn.params[j]? =some t→args[j]? =some v→Value.okWide P W .any base t v)
 (S7:wj (fun b=>W.heap.size≤b) (fun _=>False) W)
 (hW:DataW.Whole enc P fn.params.toList s.vars false W args.toList ds gs before):
 Calls P f args W fun e W'=> ∃v,e= .returned v∧s.post enc P fn false true false false W args v W':=by
 have hW':=hW
 obtain⟨p,q,hA,hV,rfl,hfz,D4⟩:=hW
 rw[hvars]at hV
 obtain⟨rfl,rfl⟩:=trodVars_none hV
 obtain⟨us,hu,hru⟩:=xn (ρ:=fun _=>none) hA (fun j t v ht hv=>hval j t v (by simpa using ht) (by simpa using hv)) hdp
 have hH:HR (fun b=>nE (fun _=>none) [] b∨W.heap.size≤b) (fun _=>False) (fun _=>none) (aZ 4) [] W:=
  ⟨rfl,rfl,fun t v hv=>by simp[find]at hv,fun id b hb=>by simp[find]at hb,fun id id' b b' c hb=>by simp[find]at hb,fun _ _=>rfl,fun _ h=>h.elim,fun b hb=> .inr hb,S7.sub (fun b hb hm=>hm.elim (fun ho=>by obtain⟨_,_,hf,_⟩:=ho;simp[find]at hf) (fun hl=>hl)) (fun _ h=>h)⟩
 refine(hFn us hu W (fun _=>False) (fun _=>none) args hH hru).mono ?_
 rintro e W' ⟨x,A',ρ',F',rfl,hv,_,dl,_,_⟩
 have hM:(fun b=>nE (fun _=>none) [] b∨W.heap.size≤b)=fun b=>W.heap.size≤b:=by funext b;simp[nE,find]
 rw[hM]at dl
 have hb:=yZ dl
 have hx:x= .bool true:=V.bg (u:= .w (.one (.t (.val (.bool true))))) rfl hv
 subst hx
 have hlen:ds.length=fn.params.size:=by
  have len: ∀ {ts:List TypeId} {vs:List Value} {ds:List (DataW H)} {ps:List MemPlace},DataW.TrodAll enc P W 0 (fun _=>true) true ts vs ds ps→ds.length=ts.length:=by
   intro ts
   induction ts with
   |nil=>intro vs ds ps h;obtain⟨_,rfl,_⟩:=trodAll_nil h;rfl
   |cons t ts ih=>intro vs ds ps h;obtain⟨_,_,_,_,_,_,_,rfl,_,_,h2⟩:=trodAll_cons h;simp[ih h2]
  simpa using len hA
 obtain⟨s1,s2,s3⟩:=Sy (ds++[]) (by simpa using hlen)
 refine⟨_,rfl,ds,[],_,[],p,[],hW',?_,?_,?_,hb.frame _,fun h=>by simp at h⟩
 · rw[s1,hres]
   exact trodAll_mk1 ⟨1,by simp[DataW.trod,Value.cells,Tn]⟩
 · rw[s2]
   simpa using uT hl hb hA hrd
 · rw[s3,hvars]
   rfl
end Go.aU
end
section
namespace Go.aU.Cd
open Go Go.Proofs
set_option maxRecDepth 100000
set_option maxHeartbeats 1000000
abbrev csT (sn:ByteArray) (bM ms ps us ss os:Lz) (ln wd rx ry:Int) (sizes places ag bs cuts:Lz):List T:=
 [.val (.string sn), .ao 1 bM, .ao 1 ms, .ao 7 ps, .ao 3 us, .ao 6 ss, .ao 5 os,tI ln,tI wd,tI rx,tI ry, .ao 1 sizes, .ao 7 places, .ao 2 ag, .ao 6 bs, .ao 6 cuts]
def GTr (ts:List W):Prop:=ts=[oB true]
inductive Sh where
 |int
 |u8
 |bool
 |str
 |sl (cs:List Sh)
mutual
def IsT:Sh→T→Prop
 | .int,t=> ∃n,t= .val (.int .i64 n)
 | .u8,t=> ∃n:Int,t= .val (.int .u8 n)∧0≤n∧n < 256
 | .bool,t=> ∃b,t= .val (.bool b)
 | .str,t=> ∃s,t= .val (.string s)∧s.size≤maxLen
 | .sl cs,t=> ∃xs,t= .ao cs.length xs∧xs.length≤maxLen∧ ∀x,x∈xs→iO cs x
def iO:List Sh→List T→Prop
 | [],ts=>ts=[]
 |s::r,ts=> ∃t q,ts=t::q∧IsT s t∧iO r q
end
def oA (f:TypeId→Option (List Sh)):List Field→Option (List Sh)
 | []=>some []
 |x::r=>match f x.type,oA f r with
  |some a,some b=>some (a++b)
  |_,_=>none
def shapeOf (P:Program):Nat→TypeId→Option (List Sh)
 |0,_=>none
 |d+1,t=>match P.underlying t with
  |some .bool=>some [.bool]
  |some (.int .i64)=>some [.int]
  |some (.int .u8)=>some [.u8]
  |some .string=>some [.str]
  |some (.slice e)=>match shapeOf P d e with
   |some cs=>if P.cellsOf e=cs.length then some [.sl cs]else none
   |none=>none
  |some (.struct fs)=>oA (shapeOf P d) fs.toList
  |_=>none
theorem iO.append: ∀ {a b:List Sh} {x y:List T},iO a x→iO b y→iO (a++b) (x++y)
 | [],b,x,y,h,k=>by simp only[iO]at h;subst h;exact k
 |s::r,b,x,y,h,k=>by
  obtain⟨t,q,rfl,h1,h2⟩:=h
  exact⟨t,q++y,rfl,h1,h2.append k⟩
theorem zB {P:Program}: ∀ {d:Nat} {t:TypeId} {ts:List T} {fx:List Sh},TT P d t ts→shapeOf P d t=some fx→iO fx ts
 |0,t,ts,fx,h,_=>h.elim
 |d+1,t,ts,fx,h,hs=>by
  have fields: ∀ {fs:List Field} {ts:List T} {fx:List Sh},TTf (TT P d) fs ts→oA (shapeOf P d) fs=some fx→iO fx ts:=by
   intro fs
   induction fs with
   |nil=>
    intro ts fx h hs
    simp only[oA,Option.some.injEq]at hs
    subst hs
    simpa[iO,TTf]using h
   |cons f r ih=>
    intro ts fx h hs
    obtain⟨a,b,rfl,h1,h2⟩:=h
    simp only[oA]at hs
    split at hs
    · rename_i x y hx hy
      simp only[Option.some.injEq]at hs
      subst hs
      exact(zB h1 hx).append (ih h2 hy)
    · simp at hs
  simp only[TT]at h
  simp only[shapeOf]at hs
  split at h
  · rename_i hu
    simp only[hu,Option.some.injEq]at hs
    subst hs
    obtain⟨b,rfl⟩:=h
    exact⟨_,_,rfl,⟨b,rfl⟩,rfl⟩
  · rename_i k hu
    obtain⟨n,rfl,hw⟩:=h
    cases k<;>simp only[hu]at hs<;>simp at hs<;>subst hs
    all_goals first
     |exact⟨_,_,rfl,⟨n,rfl⟩,rfl⟩
     |(refine⟨_,_,rfl,⟨n,rfl,?_⟩,rfl⟩
       simp only[Lit.wf,Bool.and_eq_true,decide_eq_true_eq]at hw
       have h1:(0:Int)≤n:=hw.1
       have h2:n≤(255:Int):=hw.2
       exact⟨h1,by omega⟩)
  · rename_i hu
    simp only[hu,Option.some.injEq]at hs
    subst hs
    obtain⟨s,rfl,hs⟩:=h
    exact⟨_,_,rfl,⟨s,rfl,hs⟩,rfl⟩
  · rename_i e hu
    simp only[hu]at hs
    obtain⟨xs,rfl,h1,h2⟩:=h
    split at hs
    · rename_i cs hcs
      split at hs
      · rename_i hlen
        simp only[Option.some.injEq]at hs
        subst hs
        exact⟨_,_,rfl,⟨xs,by rw[hlen],h1,fun x hx=>zB (h2 x hx) hcs⟩,rfl⟩
      · simp at hs
    · simp at hs
  · rename_i fs hu
    simp only[hu]at hs
    exact fields h hs
  · exact h.elim
abbrev Mu:List Sh:=[.str, .sl [.int, .int]]
abbrev Fu:List Sh:=[.str, .sl Mu, .int, .sl [.int, .int], .sl [.int, .int], .sl [.int], .bool]
abbrev opS:List Sh:=[.str, .int, .int, .sl [.int], .sl [.int]]
abbrev J1:List Sh:=[.int, .int, .int, .int, .bool, .int]
abbrev Ft:List Sh:=[.int, .int, .int, .bool, .int, .int, .int]
abbrev Rz:List Sh:=[.int, .sl [.int, .int, .int, .int]]
abbrev bdS:List Sh:=[.int, .int, .int, .int, .int, .int]
abbrev ctS:List Sh:=[.int, .int, .int, .int, .sl [.int], .bool]
abbrev grS:List Sh:=[.int, .int, .int, .int, .sl [.int]]
abbrev YB:List Sh:=[.str, .sl [.str], .sl [.int], .sl Fu, .sl [.int, .int, .bool], .sl J1, .sl opS, .int, .int, .int, .int, .sl [.int], .sl Ft, .sl Rz, .sl bdS, .sl ctS]
theorem aoJ {e:List T} (h:iO [.int] e):IsI e:=by
 obtain⟨_,_,rfl,⟨a,rfl⟩,rfl⟩:=h
 exact⟨a,rfl⟩
theorem FG {xs:Lz} (h: ∀x,x∈xs→iO [.int] x):Is xs:=fun e he=>aoJ (h e he)
theorem Nr {xs:Lz} (h: ∀x,x∈xs→iO [.int, .int] x):cq xs:=fun e he=>by
 obtain⟨_,_,rfl,⟨a,rfl⟩,_,_,rfl,⟨b,rfl⟩,rfl⟩:=h e he
 exact⟨a,b,rfl⟩
theorem anF {xs:Lz} (h: ∀x,x∈xs→iO [.str] x):Sts xs:=fun e he=>by
 obtain⟨_,_,rfl,⟨a,rfl,ha⟩,rfl⟩:=h e he
 exact⟨a,rfl,ha⟩
theorem OX {xs:Lz} (h: ∀x,x∈xs→iO Mu x):jd xs:=fun e he=>by
 obtain⟨_,_,rfl,⟨s,rfl,hs⟩,_,_,rfl,⟨ys,rfl,hl,hy⟩,rfl⟩:=h e he
 exact⟨s,ys,rfl,hs,Nr hy,hl⟩
theorem anT {xs:Lz} (h: ∀x,x∈xs→iO Fu x): ∀e,e∈xs→JI e:=fun e he=>by
 obtain⟨_,_,rfl,⟨s,rfl,hs⟩,_,_,rfl,⟨es,rfl,hel,iF⟩,_,_,rfl,⟨g,rfl⟩,_,_,rfl,⟨ns,rfl,CL,hns⟩,_,_,rfl,⟨cs,rfl,ee,hcs⟩,_,_,rfl,⟨ws,rfl,ze,D2⟩,_,_,rfl,⟨m,rfl⟩,rfl⟩:=h e he
 exact⟨s,es,g,ns,cs,ws,m,rfl,hs,⟨OX iF,hel⟩,⟨Nr hns,CL⟩,⟨Nr hcs,ee⟩,FG D2,ze⟩
theorem anB {xs:Lz} (h: ∀x,x∈xs→iO [.int, .int, .bool] x): ∀e,e∈xs→agT e:=fun e he=>by
 obtain⟨_,_,rfl,⟨a,rfl⟩,_,_,rfl,⟨b,rfl⟩,_,_,rfl,⟨c,rfl⟩,rfl⟩:=h e he
 exact⟨a,b,c,rfl⟩
theorem anN {xs:Lz} (h: ∀x,x∈xs→iO J1 x): ∀e,e∈xs→agV e:=fun e he=>by
 obtain⟨_,_,rfl,⟨a,rfl⟩,_,_,rfl,⟨b,rfl⟩,_,_,rfl,⟨c,rfl⟩,_,_,rfl,⟨d,rfl⟩,_,_,rfl,⟨q,rfl⟩,_,_,rfl,⟨f,rfl⟩,rfl⟩:=h e he
 exact⟨a,b,c,d,q,f,rfl⟩
theorem aoC {xs:Lz} (h: ∀x,x∈xs→iO opS x): ∀e,e∈xs→Cb e:=fun e he=>by
 obtain⟨_,_,rfl,⟨s,rfl,hs⟩,_,_,rfl,⟨a,rfl⟩,_,_,rfl,⟨b,rfl⟩,_,_,rfl,⟨af,rfl,IV,Qx⟩,_,_,rfl,⟨us,rfl,BC,eU⟩,rfl⟩:=h e he
 exact⟨s,a,b,af,us,rfl,hs,⟨FG Qx,IV⟩,FG eU,BC⟩
theorem anR {xs:Lz} (h: ∀x,x∈xs→iO Ft x):QO xs:=fun e he=>by
 obtain⟨_,_,rfl,⟨a,rfl⟩,_,_,rfl,⟨b,rfl⟩,_,_,rfl,⟨c,rfl⟩,_,_,rfl,⟨d,rfl⟩,_,_,rfl,⟨q,rfl⟩,_,_,rfl,⟨f,rfl⟩,_,_,rfl,⟨g,rfl⟩,rfl⟩:=h e he
 exact⟨a,b,c,d,q,f,g,rfl⟩
theorem anQ {xs:Lz} (h: ∀x,x∈xs→iO Rz x):QN xs:=fun e he=>by
 obtain⟨_,_,rfl,⟨a,rfl⟩,_,_,rfl,⟨q,rfl,_⟩,rfl⟩:=h e he
 exact⟨a,q,rfl⟩
theorem ayE {xs:Lz} (h: ∀x,x∈xs→iO bdS x):JQ xs:=fun e he=>by
 obtain⟨_,_,rfl,⟨a,rfl⟩,_,_,rfl,⟨b,rfl⟩,_,_,rfl,⟨c,rfl⟩,_,_,rfl,⟨d,rfl⟩,_,_,rfl,⟨q,rfl⟩,_,_,rfl,⟨f,rfl⟩,rfl⟩:=h e he
 exact⟨a,b,c,d,q,f,rfl⟩
theorem auJ {xs:Lz} (h: ∀x,x∈xs→iO ctS x):Eu xs:=fun e he=>by
 obtain⟨_,_,rfl,⟨a,rfl⟩,_,_,rfl,⟨b,rfl⟩,_,_,rfl,⟨c,rfl⟩,_,_,rfl,⟨d,rfl⟩,_,_,rfl,⟨rs,rfl,_⟩,_,_,rfl,⟨f,rfl⟩,rfl⟩:=h e he
 exact⟨a,b,c,d,rs,f,rfl⟩
theorem ajF {x:List T} (h:iO YB x): ∃ (sn:ByteArray) (bM ms ps us ss os:Lz) (ln wd rx ry:Int) (sizes places ag bs cuts:Lz),x=csT sn bM ms ps us ss os ln wd rx ry sizes places ag bs cuts∧ahF sn bM ms ps us ss os sizes places ag bs∧Eu cuts∧cuts.length≤maxLen:=by
 obtain⟨_,_,rfl,⟨sn,rfl,FV⟩,_,_,rfl,⟨bM,rfl,l1,m1⟩,_,_,rfl,⟨ms,rfl,l2,m2⟩,_,_,rfl,⟨ps,rfl,l3,m3⟩,_,_,rfl,⟨us,rfl,l4,m4⟩,_,_,rfl,⟨ss,rfl,l5,m5⟩,_,_,rfl,⟨os,rfl,l6,m6⟩,
  _,_,rfl,⟨ln,rfl⟩,_,_,rfl,⟨wd,rfl⟩,_,_,rfl,⟨rx,rfl⟩,_,_,rfl,⟨ry,rfl⟩,_,_,rfl,⟨sizes,rfl,l7,m7⟩,_,_,rfl,⟨places,rfl,l8,m8⟩,_,_,rfl,⟨ag,rfl,l9,m9⟩,_,_,rfl,⟨bs,rfl,EA,m10⟩,_,_,rfl,⟨cuts,rfl,l11,m11⟩,rfl⟩:=h
 exact⟨sn,bM,ms,ps,us,ss,os,ln,wd,rx,ry,sizes,places,ag,bs,cuts,rfl,⟨⟨FV,anF m1,l1,FG m2,l2,anT m3,l3,anB m4,l4,anN m5,l5,aoC m6,l6⟩,FG m7,l7,anR m8,l8,anQ m9,l9,ayE m10,EA⟩,auJ m11,l11⟩
theorem aAi {b0:Bool} {e0:Int} {np nq:Nat} {cuts:Lz} (h:okB b0 e0 np nq cuts=true):b0=true∧AD cuts=true∧uK e0 np nq cuts=0:=by
 simp only[okB,Bool.and_eq_true,beq_iff_eq]at h
 exact⟨h.1.1,h.1.2,h.2⟩
abbrev aD1:Prop:=Te 13 [] [oB true]
end Go.aU.Cd
end
section
namespace Go.aU.Cd
open Go Go.Proofs
theorem EW (cuts gs r:Lz): ∀k,k≤gs.length→uG cuts (gs++r) k=uG cuts gs k
 |0,_=>rfl
 |k+1,hk=>by
  simp only[uG,EW cuts gs r k (by omega),List.getElem?_append_left (show k < gs.length by omega)]
theorem pK.G9 {places ag cuts bs gs:Lz} (h:pK places ag cuts bs gs gs.length) (r:Lz):pK places ag cuts bs (gs++r) gs.length:=by
 intro k e hk he
 rw[List.getElem?_append_left hk]at he
 have:=h k e hk he
 rw[EW cuts gs r k (by omega),List.take_append_of_le_length (by omega)]
 exact this
theorem DA {sizes places ag cuts bs:Lz} (hp:ag.length≤8) (h: ∀e,e∈bs→M9 sizes ag e): ∀k,(jV sizes places ag cuts bs k).length≤8 * k
 |0=>by simp[jV]
 |k+1=>by
  have ih:=DA hp h k (places:=places) (cuts:=cuts)
  simp only[jV,List.length_append]
  cases hk:bs[k]? with
  |none=>simp;omega
  |some e=>
   obtain⟨t,g,s,l,f,o,rfl,hg,h1,h2,h3⟩:=h e (List.mem_of_getElem? hk)
   have:=s0 sizes places ag cuts (jg t g s l f o) (nI 5 (jg t g s l f o) - nI 4 (jg t g s l f o)).toNat
   have e1:nI 5 (jg t g s l f o)=o:=rfl
   have e2:nI 4 (jg t g s l f o)=f:=rfl
   simp only[e1,e2]at this⊢
   omega
theorem zO {g:Int} {fi:Nat→Option Nat} {places:Lz}: ∀ (n:Nat) (zs:Lz),fJ g fi places n=some zs→Is zs∧zs.length≤n
 |0,zs,h=>by
  simp only[fJ,Option.some.injEq]at h
  subst h
  exact⟨fun e he=>by simp at he,by simp⟩
 |n+1,zs,h=>by
  simp only[fJ]at h
  cases h1:fJ g fi places n with
  |none=>simp[h1]at h
  |some ys=>
   obtain⟨i1,i2⟩:=zO n ys h1
   simp only[h1]at h
   cases hp:places[n]? with
   |none=>
    simp only[hp,Option.some.injEq]at h
    subst h
    exact⟨i1,by omega⟩
   |some p=>
    simp only[hp]at h
    by_cases hg:nI 0 p=g
    · simp only[if_pos hg]at h
      cases hf:fi n with
      |none=>simp[hf]at h
      |some i=>
       simp only[hf,Option.some.injEq]at h
       subst h
       refine⟨fun e he=>?_,by simp;omega⟩
       rcases List.mem_append.1 he with he|he
       · exact i1 e he
       · simp only[List.mem_singleton]at he
         exact⟨_,he⟩
    · simp only[if_neg hg,Option.some.injEq]at h
      subst h
      exact⟨i1,by omega⟩
theorem Cy {sizes places ag cuts:Lz} (hp:places.length≤maxLen) (e:List T): ∀n x,x∈lI sizes places ag cuts e n→JJ x
 |0,x,h=>by simp[lI]at h
 |n+1,x,h=>by
  simp only[lI,List.mem_append]at h
  rcases h with h|h
  · exact Cy hp e n x h
  · cases hq:Ih sizes places ag cuts (nI 1 e) (nI 4 e+(n:Int))with
    |none=>simp[hq]at h
    |some cU=>
     simp only[hq,List.mem_singleton]at h
     obtain⟨h1,h2⟩:=zO _ _ hq
     exact⟨_,_,_,_,cU,h,h1,by omega⟩
theorem H7 {sizes places ag cuts bs:Lz} (hp:places.length≤maxLen): ∀k x,x∈jV sizes places ag cuts bs k→JJ x
 |0,x,h=>by simp[jV]at h
 |k+1,x,h=>by
  simp only[jV,List.mem_append]at h
  rcases h with h|h
  · exact H7 hp k x h
  · cases hk:bs[k]? with
    |none=>simp[hk]at h
    |some e=>
     simp only[hk]at h
     exact Cy hp e _ x h
end Go.aU.Cd
end
section
namespace Go.aU
open Go
variable {P:Program} {M A:Nat→Prop} {ρ:Env} {F:Nat→Prop} {st:St} {a:Act} {w:World}
theorem iA.azT {tm:TS} {hp:HS} {ctr szr:Nat} {e:List C} (CC j sz:Nat) (hf:find hp CC=some (.row szr [e])) (hj:e[j]? =some (.t eR)):
 iA tm hp ctr tm ((ctr, .row sz [])::iC hp CC (.row szr [e.set j (.own ctr sz 0 0)])) (ctr+4):=by
 intro M A ρ n a w hr
 have hfr:ρ ctr=none:=hr.fresh ctr (Nat.le_refl _)
 have ca:cC ρ (cP ρ ctr .jh):=cC.iC hfr
 have hne: ∀ {id:Nat},id≠ctr→cP ρ ctr .jh id=ρ id:=fun bG=>by simp[cP,bG]
 refine⟨A,cP ρ ctr .jh,⟨hr.size,hr.defers,fun u v hv=>(hr.tmps u v hv).keeps (dD.refl _ _) (fun _ _=>rfl) ca,fun id blk hb=>?_,fun id id' blk eX b h1 h2 r1 r2=>?_,fun id bG=>?_,hr.bound,hr.may,hr.dm⟩,ca.HU,eY.refl M A w⟩
 · simp only[aj]at hb
   split at hb
   · rename_i e'
     subst e'
     simp only[Option.some.injEq]at hb
     subst hb
     exact⟨by simp, .inr ⟨by simp[cP],rfl⟩⟩
   · simp only[bp]at hb
     split at hb
     · rename_i e'
       subst e'
       rw[hf]at hb
       simp only[Option.map_some,Option.some.injEq]at hb
       subst hb
       have h0:=(hr.heap _ _ hf).keeps (dD.refl _ _) (fun _ _=>rfl) ca (fun _ h=>h) (fun _ _=>rfl)
       obtain⟨h1,h2⟩:=h0
       refine⟨fun el hel=>?_,?_⟩
       · simp only[List.mem_singleton]at hel
         subst hel
         rw[List.length_set]
         exact h1 e (by simp)
       · rcases h2 with⟨b,c,t,k1,k2,k3,k4,k5,k6⟩|⟨_,h3⟩
         · refine .inl ⟨b,c,t,k1,k2,k3,k4,by simpa using k5,fun i el jj q hi hq=>?_⟩
           cases i with
           |succ i=>simp at hi
           |zero=>
            simp only[List.getElem?_cons_zero,Option.some.injEq]at hi
            subst hi
            by_cases hjj:j=jj
            · subst hjj
              have hlt:=(List.getElem?_eq_some_iff.1 hj).1
              rw[List.getElem?_set_self hlt,Option.some.injEq]at hq
              subst hq
              obtain⟨x,hx,hrc,hcell⟩:=k6 0 e j _ rfl hj
              refine⟨x,hx,?_,hcell⟩
              have hrt:RT w A eR x:=hrc
              cases hrt
              exact .inr ⟨by simp[cP],rfl,rfl,rfl⟩
            · rw[List.getElem?_set_ne hjj]at hq
              exact k6 0 e jj q rfl hq
         · simp at h3
     · exact(hr.heap id blk hb).keeps (dD.refl _ _) (fun _ _=>rfl) ca (fun _ h=>h) (fun _ _=>rfl)
 · have old: ∀ {q:Nat} {bl:bt},find ((ctr,bt.row sz [])::iC hp CC (.row szr [e.set j (.own ctr sz 0 0)])) q=some bl→q≠ctr→ ∃zj,find hp q=some zj:=by
    intro q bl hq hqc
    simp only[aj]at hq
    rw[if_neg (fun e=>hqc e.symm)]at hq
    simp only[bp]at hq
    split at hq
    · rename_i e'
      subst e'
      exact⟨_,hf⟩
    · exact⟨_,hq⟩
   have n1:id≠ctr:=by intro e;subst e;simp[cP]at r1
   have n2:id'≠ctr:=by intro e;subst e;simp[cP]at r2
   obtain⟨c1,g1⟩:=old h1 n1
   obtain⟨c2,g2⟩:=old h2 n2
   rw[hne n1]at r1
   rw[hne n2]at r2
   exact hr.inj id id' c1 c2 b g1 g2 r1 r2
 · simp only[aZ]at bG
   rw[hne (by omega)]
   exact hr.fresh id (by simp only[aZ];omega)
theorem yV {f:FuncId} {us ts:List W} {hp:HS} {ctr sz:Nat} {rows:List (List C)} {v:V} (id:Nat) (hv:v.bJ=true) (hT:sx ts=true) (hf:find hp id=some (.row sz rows)) (hl:bB (bH [(id,bt.row sz rows)]) us=some ts) (hfn:Fn P f ts [] v []):
 dQ P f us hp ctr v (del hp id) (ctr+4):=by
 intro M A ρ a w n L xs hr hx
 have h0:=Rel.forget hr (st':=⟨n,L,[(id, .row sz rows)]⟩) rfl (fun _ _ h=>h) (fun k b hb=>by
  simp only[aj]at hb
  split at hb
  · rename_i e
    subst e
    rw[←hb]
    exact hf
  · simp[find]at hb)
 let B:Nat→Prop:=fun b=>A b∧ρ id≠some (.eM b)
 have hx':zc w B ρ ts xs.toList:=⟨(fh hl).trans hx.1,fun k u x hu yo=>by
  obtain⟨c,hc,hlc⟩:=dk hl k u hu
  exact fE h0 (B:=B) (fun b hb=>hb.1) (fun k blk b hk hρ hB=>by
   simp only[aj]at hk
   split at hk
   · rename_i e
     subst e
     exact hB.2 hρ
   · simp[find]at hk) hlc (hx.2 k c x hc yo) ρ⟩
 have hs:Rel M B ρ (aZ ctr) ⟨n,L,del hp id⟩ a w:=Rel.shrink (hp:=del hp id) hr (fun b hb=>hb.1) (fun k b hk=>by
  rw[dI]at hk
  split at hk
  · simp at hk
  · exact hk) (fun k blk b hk hρ=>by
  rw[dI]at hk
  split at hk
  · simp at hk
  · rename_i hne
    refine⟨(BM (hr.heap k blk hk) hρ).1,fun h2=>?_⟩
    exact hne (hr.inj k id blk _ b hk hf hρ h2))
 refine(kR (eJ (hp:=del hp id) (ctr:=ctr) hv hT hfn) M B ρ a w n L xs hs hx').mono ?_
 rintro e w' ⟨x,A',ρ',h1,r1,r2,r3,r4,r5⟩
 refine⟨x,A',ρ',h1,r1,r2,r3,r4,fun b hA hM=>r5.1 b ⟨hA,fun h2=>hM ((hr.heap id _ hf).lt h2).2.1⟩ hM,fun b hb h2=>(r5.2 b hb h2).1⟩
theorem alI {f:FuncId} {us ts:List W} {hp:HS} {ctr sz:Nat} {rows:List (List C)} {K:V→HS→Nat→Prop} {Good:List W→Prop} (id:Nat) (hT:sx ts=true) (hf:find hp id=some (.row sz rows)) (hl:bB (bH [(id,bt.row sz rows)]) us=some ts)
 (h: ∃rs,Fn P f ts [] (aO rs) []∧(aO rs).bJ=true∧Good rs) (hk: ∀rs,Good rs→K (aO rs) (del hp id) (ctr+4)): ∃v hp' c',dQ P f us hp ctr v hp' c'∧K v hp' c':=by
 obtain⟨rs,h1,h2,h3⟩:=h
 exact⟨_,_,_,yV id h2 hT hf hl h1,hk rs h3⟩
end Go.aU
end
section
namespace Go.aU.Cd
open Go Go.Proofs
set_option maxRecDepth 100000
set_option maxHeartbeats 1000000
abbrev csC (sn:ByteArray) (bM ms ps us ss os:Lz) (ln wd rx ry:Int) (sizes places ag bs:Lz) (c:C):List C:=
 [.t (.val (.string sn)), .t (.ao 1 bM), .t (.ao 1 ms), .t (.ao 7 ps), .t (.ao 3 us), .t (.ao 6 ss), .t (.ao 5 os), .t (tI ln), .t (tI wd), .t (tI rx), .t (tI ry), .t (.ao 1 sizes), .t (.ao 7 places), .t (.ao 2 ag), .t (.ao 6 bs),c]
theorem Gr {hp:HS} {d id sz len:Nat} {rows:List (List C)} {xs:Lz} (hf:find hp id=some (.row sz rows)) (hR:aL rows xs) (hl:len=xs.length):de (d+1) hp (.own id sz 0 len)=some (.ao sz xs):=by
 have hl':0+len≤rows.length:=by rw[hR.len];omega
 simp only[de,hf,true_and,hl',if_true]
 rw[hR,xH,ue,hl]
 simp
theorem asJ {sn:ByteArray} {bM ms ps us ss os:Lz} {ln wd rx ry:Int} {sizes places ag bs cuts:Lz} {rows:List (List C)} {id len:Nat} (hR:aL rows cuts) (hl:len=cuts.length):
 bB (bH [(id,bt.row 6 rows)]) [.agg (csC sn bM ms ps us ss os ln wd rx ry sizes places ag bs (.own id 6 0 len))]=some [RR sn bM ms ps us ss os ln wd rx ry sizes places ag bs cuts]:=by
 have h2:de 6 [(id,bt.row 6 rows)] (.own id 6 0 len)=some (.ao 6 cuts):=Gr (d:=5) (by simp only[find,if_true]) hR hl
 have h3: ∀t,de 6 [(id,bt.row 6 rows)] (.t t)=some t:=fun t=>rfl
 simp only[bB,bH,h2,h3,Option.map_some]
 rfl
end Go.aU.Cd
end
section
namespace Go.aU.Cd
open Go Go.Proofs
set_option maxRecDepth 100000
theorem bD {n:Nat} {fr:bA} {fn:Func} {c:Code} (h:Tryz.prog.funcs[n]? =some fn) (h1:fn.body=some c:=by rfl) (h2:ae Tryz.prog c=some fr.code:=by kernel_rfl) (h3:fn.ntmps=fr.n:=by rfl) (h4:eA Tryz.prog fn.results.toList=some fr.res:=by kernel_rfl) (h5:fF fr.n fr.code=true:=by kernel_rfl):aJ Tryz.prog n fr:=⟨fn,c,h,h1,h2,h3,h4,h5⟩
def OO:bA:=⟨108,Sq (Rg [Mb 0 false]) (Sq (Rg [p 7 (.call 27 []),p 1 (.alloc [.t (.val (.string ⟨#[]⟩)),zn,zn,zn,zn,zn,zn,zi,zi,zi,zi,zn,zn,zn,zn,zn]),So 16 1 7]) (Sq (Rg [Fa 9 0 1,Lo 7 10 9,Fa 11 7 1,Lo 7 12 11,Fa 13 14 1,Ld 14 13,Fa 15 15 1,Ld 16 15,p 17 (.call 14 [t 10,t 12,t 14,t 16]),Mv 8 17,Et 18 8 0,Et 19 8 1,Mv 2 18,Mv 3 19]) (Sq (Sq (Rg [Mv 20 3,Bi 21 .neq 20 0,Mv 22 21,Ga 22 (Mv 23 2),Ga 22 (p 24 (.aT [zi] 2 [(0,(k 0)),(1,(k 1))])),Ga 22 (p 25 (.build [zi,zi,zi,zi,zn] [(0,1,(k 1)),(4,1,t 24)])),Ga 22 (p 26 (.aT [zi] 2 [(0,(k 2)),(1,(k 3))])),Ga 22 (p 27 (.build [zi,zi,zi,zi,zn] [(0,1,(k 2)),(1,1,(k 1)),(3,1,(k 1)),(4,1,t 26)])),Ga 22 (p 28 (.aT [zi,zi,zi,zi,zn] 2 [(0,t 25),(1,t 27)])),Ga 22 (p 29 (.call 16 [t 23,t 28])),Ga 22 (Nt 30 29),Pt 31 22 30,Mv 32 31,Ga 32 (Fa 33 0 1),Ga 32 (Lo 7 34 33),Ga 32 (Fa 35 7 1),Ga 32 (Lo 7 36 35),Ga 32 (Fa 37 14 1),Ga 32 (Ld 38 37),Ga 32 (Fa 39 15 1),Ga 32 (Ld 40 39),Ga 32 (Mv 41 2),Ga 32 (p 42 (.call 17 [t 34,t 36,t 38,t 40,t 41])),Ga 32 (Bi 43 .neq 42 0),Pt 44 32 43,Mv 45 44,Ga 45 (Fa 46 0 1),Ga 45 (Lo 7 47 46),Ga 45 (Fa 48 7 1),Ga 45 (Lo 7 49 48),Ga 45 (Fa 50 15 1),Ga 45 (Ld 51 50),Ga 45 (p 52 (.call 19 [t 47,t 49,t 51,(k 0),(k 1)])),Ga 45 (Nt 53 52),Pt 54 45 53,Mv 55 54,Ga 55 (Fa 56 0 1),Ga 55 (Lo 7 57 56),Ga 55 (Fa 58 7 1),Ga 55 (Lo 7 59 58),Ga 55 (Fa 60 15 1),Ga 55 (Ld 61 60),Ga 55 (p 62 (.call 19 [t 57,t 59,t 61,(k 0),(k 2)])),Pt 63 55 62]) (Cn 63 (Sq (Rg [Mb 0 false]) Rt) Sk)) (Sq (Rg [p 64 (.aT [zi] 2 [(0,(k 0)),(1,(k 3))]),p 65 (.build [zi,zi,zi,zi,zn] [(0,1,(k 1)),(4,1,t 64)]),p 66 (.aT [zi,zi,zi,zi,zn] 1 [(0,t 65)]),Mv 4 66]) (Sq (Sq (Rg [Fa 67 0 1,Lo 7 68 67,Fa 69 7 1,Lo 7 70 69,Fa 71 14 1,Ld 72 71,Fa 73 15 1,Ld 74 73,Mv 75 4,p 76 (.call 17 [t 68,t 70,t 72,t 74,t 75]),Bi 77 .neq 76 16]) (Cn 77 (Sq (Rg [Mb 0 false]) Rt) Sk)) (Sq (Rg [Fa 78 15 1,Ld 79 78,p 80 (.dB 6 (t 79) (k 1)),Fa 81 5 80,q (.store 1 (t 81) (kb true))]) (Sq (Rg [Fa 83 0 1,Lo 7 84 83,Fa 85 7 1,Lo 7 86 85,Fa 87 14 1,Ld 88 87,Fa 89 15 1,Ld 90 89,p 91 (.call 14 [t 84,t 86,t 88,t 90]),Mv 82 91,Et 92 82 0,Et 93 82 1,Mv 5 92,Mv 6 93]) (Sq (Rg [Mv 94 6,Bi 95 .eql 94 0,Mv 96 95,Gb 96 (Mv 97 5),Gb 96 (Le 98 97),Gb 96 (Bi 99 .eql 98 1),Pf 100 96 99,Mv 101 100,Gb 101 (Mv 102 5),Gb 101 (p 103 (.dB 5 (t 102) (k 0))),Gb 101 (Fa 104 0 103),Gb 101 (Ld 105 104),Gb 101 (Bi 106 .eql 105 2),Pf 107 101 106,Mv 0 107]) Rt)))))))),[.tmp 0],true,false⟩
theorem auC:aJ Tryz.prog 13 OO:=bD Tryz.func13
def T3:bA:=⟨68,c14,[.tmp 8, .tmp 9],false,false⟩
theorem auB:aJ Tryz.prog 14 T3:=bD Tryz.func14
def T2:bA:=⟨110,Sq (Rg [Mb 4 false]) (Sq (Sq (Rg [Mv 7 0,Le 8 7,Mv 9 1,Le 10 9,Bt 11 .neq 8 10]) (Cn 11 (Sq (Rg [Mb 4 false]) Rt) Sk)) (Sq (Sq (Rg [Mk 5 0]) (Bk 0 (Lp (Sq (Sq (Rg [Mv 12 5,Mv 13 0,Le 14 13,Bt 15 .lss 12 14]) (Cn 15 Sk (Ex 0))) (Sq (Bk 1 (Sq (Sq (Dr (Mv 18 0::Mv 19 5::Ia 20 5 18 19::Fa 21 0 20::Ld 22 21::Mv 23 1::Mv 24 5::Ia 25 5 23 24::Fa 26 0 25::Ld 27 26::Bt 28 .neq 22 27::Mv 29 28::Ga 29 (Mv 30 0)::Ga 29 (Mv 31 5)::Ga 29 (Ia 32 5 30 31)::Ga 29 (Fa 33 1 32)::Ga 29 (Ld 34 33)::Ga 29 (Mv 35 1)::Ga 29 (Mv 36 5)::Ga 29 (Ia 37 5 35 36)::Ga 29 (Fa 38 1 37)::Ga 29 (Ld 39 38)::Ga 29 (Bt 40 .neq 34 39)::Pt 41 29 40::Mv 42 41::Ga 42 (Mv 43 0)::Ga 42 (Mv 44 5)::Ga 42 (Ia 45 5 43 44)::Ga 42 (Fa 46 2 45)::Ga 42 (Ld 47 46)::Ga 42 (Mv 48 1)::Ga 42 (Mv 49 5)::Ga 42 (Ia 50 5 48 49)::Ga 42 (Fa 51 2 50)::Ga 42 (Ld 52 51)::Ga 42 (Bt 53 .neq 47 52)::Pt 54 42 53::Mv 55 54::Ga 55 (Mv 56 0)::Ga 55 (Mv 57 5)::Ga 55 (Ia 58 5 56 57)::Ga 55 (Fa 59 3 58)::Ga 55 (Ld 60 59)::Ga 55 (Mv 61 1)::Ga 55 (Mv 62 5)::Ga 55 (Ia 63 5 61 62)::Ga 55 (Fa 64 3 63)::Ga 55 (Ld 65 64)::Ga 55 (Bt 66 .neq 60 65)::Pt 67 55 66::Mv 68 67::Ga 68 (Mv 69 0)::Ga 68 (Mv 70 5)::Ga 68 (Ia 71 5 69 70)::Ga 68 (Fa 72 4 71)::Ga 68 (Ld 73 72)::Ga 68 (Le 74 73)::Ga 68 (Mv 75 1)::Ga 68 (Mv 76 5)::Ga 68 (Ia 77 5 75 76)::Ga 68 (Fa 78 4 77)::Ga 68 (Ld 79 78)::Ga 68 (Le 80 79)::Ga 68 (Bt 81 .neq 74 80)::Pt 82 68 81::[]) ([]::[]::[0,1]::[2]::[3]::[]::[]::[5,6]::[7]::[8]::[4,9]::[10]::[11]::[11]::[12,13,11]::[14,11]::[15,11]::[11]::[11]::[17,18,11]::[19,11]::[20,11]::[16,21,11]::[11,22]::[23,11]::[24]::[24]::[25,26,24]::[27,24]::[28,24]::[24]::[24]::[30,31,24]::[32,24]::[33,24]::[29,34,24]::[24,35]::[36,24]::[37]::[37]::[38,39,37]::[40,37]::[41,37]::[37]::[37]::[43,44,37]::[45,37]::[46,37]::[42,47,37]::[37,48]::[49,37]::[50]::[50]::[51,52,50]::[53,50]::[54,50]::[55,50]::[50]::[50]::[57,58,50]::[59,50]::[60,50]::[61,50]::[56,62,50]::[50,63]::[])) (Cn 82 (Sq (Rg [Mb 4 false]) Rt) Sk)) (Sq (Rg [Mk 6 0]) (Bk 2 (Lp (Sq (Sq (Rg [Mv 83 6,Mv 84 0,Mv 85 5,Ia 86 5 84 85,Fa 87 4 86,Ld 88 87,Le 89 88,Bt 90 .lss 83 89]) (Cn 90 Sk (Ex 2))) (Sq (Bk 3 (Sq (Dr [Mv 93 0,Mv 94 5,Ia 95 5 93 94,Fa 96 4 95,Ld 97 96,Mv 98 6,Ia 99 1 97 98,Ld 100 99,Mv 101 1,Mv 102 5,Ia 103 5 101 102,Fa 104 4 103,Ld 105 104,Mv 106 6,Ia 107 1 105 106,Ld 108 107,Bt 109 .neq 100 108] [[],[],[0,1],[2],[3],[],[4,5],[6],[],[],[8,9],[10],[11],[],[12,13],[14],[7,15]]) (Cn 109 (Sq (Rg [Mb 4 false]) Rt) Sk))) (Rg [Mv 91 6,Bi 92 .add 91 1,Mv 6 92])))))))) (Rg [Mv 16 5,Bi 17 .add 16 1,Mv 5 17])))))) (Sq (Rg [Mb 4 true]) Rt))),[.tmp 4],true,false⟩
theorem auA:aJ Tryz.prog 16 T2:=bD Tryz.func16
def T1:bA:=⟨109,c17,[.tmp 10],true,false⟩
theorem atZ:aJ Tryz.prog 17 T1:=bD Tryz.func17
def T0:bA:=⟨43,c19,[.tmp 10],true,false⟩
theorem atY:aJ Tryz.prog 19 T0:=bD Tryz.func19
def TZ:bA:=⟨40,Sq (Rg [p 0 (.alloc [.t (.val (.string ⟨#[]⟩)),zn,zn,zn,zn,zn,zn,zi,zi,zi,zi,zn,zn,zn,zn,zn])]) (Sq (Rg [p 4 (.call 38 []),p 1 (.alloc [.t (.val (.string ⟨#[]⟩)),zn,zn,zn,zn,zn,zn]),So 7 1 4]) (Sq (Rg [p 5 (.aT [zi] 1 [(0,(k 0))]),p 6 (.build [.t (.val (.string ⟨#[]⟩)),zi,zi,zn,zn] [(0,1,(.c (.w (.one (.t (.val (.string ⟨#[106,111,105,110]⟩))))))),(2,1,(k 100)),(4,1,t 5)]),p 7 (.aT [.t (.val (.string ⟨#[]⟩)),zi,zi,zn,zn] 1 [(0,t 6)]),Fa 8 6 1,So 1 8 7]) (Sq (Rg [p 9 (.aT [zi] 1 [(0,(k 0))]),p 10 (.build [zi,zi,zi,zb,zi,zi,zi] []),p 11 (.build [zb,zi] [(0,1,(kb true))]),p 12 (.build [zi,zi] [(0,1,(k 20))]),p 13 (.build [zi,zi,zi,zb,zi,zi,zi] [(2,1,(k 1)),(3,2,t 11),(5,2,t 12)]),p 14 (.aT [zi,zi,zi,zb,zi,zi,zi] 2 [(0,t 10),(1,t 13)]),p 15 (.build [zi,zi,zi,zi,zn,zn] [(0,1,(k 20)),(1,1,(k 10)),(4,1,t 9),(5,1,t 14)]),p 2 (.alloc [zi,zi,zi,zi,zn,zn]),So 6 2 15]) (Sq (Rg [Lo 6 16 2,p 17 (.build [zi,zi,zi,zi] [(2,1,(k 20))]),p 18 (.aT [zi,zi,zi,zi] 1 [(0,t 17)]),p 19 (.build [zi,zn] [(1,1,t 18)]),p 20 (.build [zi,zi,zi,zi] [(0,1,(k 1)),(2,1,(k 20))]),p 21 (.aT [zi,zi,zi,zi] 1 [(0,t 20)]),p 22 (.build [zi,zn] [(0,1,(k 1)),(1,1,t 21)]),p 23 (.aT [zi,zn] 2 [(0,t 19),(1,t 22)]),p 24 (.build [zi,zi,zi,zi,zn,zn,zn] [(0,6,t 16),(6,1,t 23)]),p 3 (.alloc [zi,zi,zi,zi,zn,zn,zn]),So 7 3 24]) (Sq (Rg [Lo 7 25 1,Lo 7 26 3,p 27 (.build [zi,zi,zi,zi,zi,zi] [(0,1,(k 1)),(5,1,(k 1))]),p 28 (.build [zi,zi,zi,zi,zi,zi] [(0,1,(k 2)),(3,1,(k 1)),(4,1,(k 1)),(5,1,(k 2))]),p 29 (.aT [zi,zi,zi,zi,zi,zi] 2 [(0,t 27),(1,t 28)]),p 30 (.aT [zi] 1 [(0,(k 0))]),p 31 (.build [zi,zi,zi,zi,zn,zb] [(4,1,t 30)]),p 32 (.aT [zi] 1 [(0,(k 0))]),p 33 (.build [zi,zi,zi,zi,zn,zb] [(1,1,(k 1)),(4,1,t 32)]),p 34 (.aT [zi] 1 [(0,(k 1))]),p 35 (.build [zi,zi,zi,zi,zn,zb] [(0,1,(k 1)),(2,1,(k 1)),(4,1,t 34)]),p 36 (.aT [zi] 1 [(0,(k 1))]),p 37 (.build [zi,zi,zi,zi,zn,zb] [(0,1,(k 1)),(1,1,(k 1)),(2,1,(k 1)),(4,1,t 36)]),p 38 (.aT [zi,zi,zi,zi,zn,zb] 4 [(0,t 31),(1,t 33),(2,t 35),(3,t 37)]),p 39 (.build [.t (.val (.string ⟨#[]⟩)),zn,zn,zn,zn,zn,zn,zi,zi,zi,zi,zn,zn,zn,zn,zn] [(0,7,t 25),(7,7,t 26),(14,1,t 29),(15,1,t 38)]),So 16 0 39]) Rt))))),[.cell 0 (some 16)],true,true⟩
theorem atX:aJ Tryz.prog 27 TZ:=bD Tryz.func27
def ON:bA:=⟨71,c28,[.tmp 8],true,false⟩
theorem atW:aJ Tryz.prog 28 ON:=bD Tryz.func28
def TY:bA:=⟨87,c29,[.tmp 8, .tmp 9],false,false⟩
theorem atV:aJ Tryz.prog 29 TY:=bD Tryz.func29
def TX:bA:=⟨21,c32,[.cell 4 (some 6), .tmp 5],true,false⟩
theorem atU:aJ Tryz.prog 32 TX:=bD Tryz.func32
def TW:bA:=⟨117,c33,[.tmp 10],true,true⟩
theorem atT:aJ Tryz.prog 33 TW:=bD Tryz.func33
def TV:bA:=⟨17,Sq (Rg [p 0 (.alloc [.t (.val (.string ⟨#[]⟩)),zn,zn,zn,zn,zn,zn])]) (Sq (Rg [p 2 (.call 54 [(k 10),(k 10)]),p 3 (.build [zi,zi] []),p 4 (.build [zi,zi] [(0,1,(k 1))]),p 5 (.build [zi,zi] [(0,1,(k 1))]),p 6 (.build [zi,zi] []),p 7 (.aT [zi,zi] 4 [(0,t 3),(1,t 4),(2,t 5),(3,t 6)]),p 8 (.aT [zi] 4 [(0,(k 0)),(1,(k 0)),(2,(k 0)),(3,(k 0))]),p 9 (.build [.t (.val (.string ⟨#[]⟩)),zn,zi,zn,zn,zn,zb] [(0,1,(.c (.w (.one (.t (.val (.string ⟨#[102,114,111,110,116]⟩))))))),(1,1,t 2),(2,1,(k 1)),(4,1,t 7),(5,1,t 8)]),p 1 (.alloc [.t (.val (.string ⟨#[]⟩)),zn,zi,zn,zn,zn,zb]),So 7 1 9]) (Sq (Rg [p 10 (.aT [.t (.val (.string ⟨#[]⟩))] 2 [(0,(.c (.w (.one (.t (.val (.string ⟨#[83]⟩))))))),(1,(.c (.w (.one (.t (.val (.string ⟨#[77]⟩)))))))]),p 11 (.aT [zi] 2 [(0,(k 0)),(1,(k 2))]),Lo 7 12 1,p 13 (.aT [.t (.val (.string ⟨#[]⟩)),zn,zi,zn,zn,zn,zb] 1 [(0,t 12)]),p 14 (.build [zi,zi,zb] [(1,1,(k 2)),(2,1,(kb true))]),p 15 (.aT [zi,zi,zb] 1 [(0,t 14)]),p 16 (.build [.t (.val (.string ⟨#[]⟩)),zn,zn,zn,zn,zn,zn] [(0,1,(.c (.w (.one (.t (.val (.string ⟨#[115,104,105,114,116]⟩))))))),(1,1,t 10),(2,1,t 11),(3,1,t 13),(4,1,t 15)]),So 7 0 16]) Rt)),[.cell 0 (some 7)],true,true⟩
theorem atS:aJ Tryz.prog 38 TV:=bD Tryz.func38
def OM:bA:=⟨62,c39,[.tmp 2],true,false⟩
theorem atQ:aJ Tryz.prog 39 OM:=bD Tryz.func39
def OL:bA:=⟨16,c40,[.tmp 4],true,false⟩
theorem atP:aJ Tryz.prog 40 OL:=bD Tryz.func40
def TU:bA:=⟨57,c41,[.tmp 4],true,false⟩
theorem atO:aJ Tryz.prog 41 TU:=bD Tryz.func41
def TR:bA:=⟨126,c47,[.tmp 4, .tmp 5, .tmp 6],true,false⟩
theorem atN:aJ Tryz.prog 47 TR:=bD Tryz.func47
def OJ:bA:=⟨49,c48,[.tmp 4, .tmp 5],true,false⟩
theorem atM:aJ Tryz.prog 48 OJ:=bD Tryz.func48
def TQ:bA:=⟨48,Sq (Rg [Mn 4]) (Sq (Rg [p 6 (.build [zi,zi] []),Mv 7 0,p 8 (.build [zi,zi] [(0,1,t 7)]),Mv 9 0,Mv 10 1,p 11 (.build [zi,zi] [(0,1,t 9),(1,1,t 10)]),Mv 12 1,p 13 (.build [zi,zi] [(1,1,t 12)]),p 14 (.aT [zi,zi] 4 [(0,t 6),(1,t 8),(2,t 11),(3,t 13)]),Mv 5 14]) (Sq (Dr [Mv 15 5,p 16 (.dB 2 (t 15) (k 0)),Lo 2 17 16,Mv 18 5,p 19 (.dB 2 (t 18) (k 1)),Lo 2 20 19,p 21 (.aT [zi,zi] 2 [(0,t 17),(1,t 20)]),p 22 (.build [.t (.val (.string ⟨#[]⟩)),zn] [(0,1,(.c (.w (.one (.t (.val (.string ⟨#[108,111,119]⟩))))))),(1,1,t 21)]),Mv 23 5,p 24 (.dB 2 (t 23) (k 1)),Lo 2 25 24,Mv 26 5,p 27 (.dB 2 (t 26) (k 2)),Lo 2 28 27,p 29 (.aT [zi,zi] 2 [(0,t 25),(1,t 28)]),p 30 (.build [.t (.val (.string ⟨#[]⟩)),zn] [(0,1,(.c (.w (.one (.t (.val (.string ⟨#[114,105,103,104,116]⟩))))))),(1,1,t 29)]),Mv 31 5,p 32 (.dB 2 (t 31) (k 2)),Lo 2 33 32,Mv 34 5,p 35 (.dB 2 (t 34) (k 3)),Lo 2 36 35,p 37 (.aT [zi,zi] 2 [(0,t 33),(1,t 36)]),p 38 (.build [.t (.val (.string ⟨#[]⟩)),zn] [(0,1,(.c (.w (.one (.t (.val (.string ⟨#[104,105,103,104]⟩))))))),(1,1,t 37)]),Mv 39 5,p 40 (.dB 2 (t 39) (k 3)),Lo 2 41 40,Mv 42 5,p 43 (.dB 2 (t 42) (k 0)),Lo 2 44 43,p 45 (.aT [zi,zi] 2 [(0,t 41),(1,t 44)]),p 46 (.build [.t (.val (.string ⟨#[]⟩)),zn] [(0,1,(.c (.w (.one (.t (.val (.string ⟨#[108,101,102,116]⟩))))))),(1,1,t 45)]),p 47 (.aT [.t (.val (.string ⟨#[]⟩)),zn] 4 [(0,t 22),(1,t 30),(2,t 38),(3,t 46)]),Mv 4 47] [[],[0],[1],[],[3],[4],[2,5],[6],[],[8],[9],[],[11],[12],[10,13],[14],[],[16],[17],[],[19],[20],[18,21],[22],[],[24],[25],[],[27],[28],[26,29],[30],[7,15,23,31],[32,0,1,2,3,4,5,6,7,8,9,10,11,12,13,14,15,16,17,18,19,20,21,22,23,24,25,26,27,28,29,30,31,32]]) Rt)),[.tmp 4],true,true⟩
theorem atL:aJ Tryz.prog 54 TQ:=bD Tryz.func54
def OI:bA:=⟨90,c55,[.tmp 2],true,false⟩
theorem atK:aJ Tryz.prog 55 OI:=bD Tryz.func55
def TP:bA:=⟨34,c56,[.tmp 4, .tmp 5],true,false⟩
theorem atJ:aJ Tryz.prog 56 TP:=bD Tryz.func56
def TO:bA:=⟨111,c57,[.tmp 6],true,false⟩
theorem atI:aJ Tryz.prog 57 TO:=bD Tryz.func57
def TN:bA:=⟨93,c67,[.tmp 4, .tmp 5, .tmp 6],true,false⟩
theorem atH:aJ Tryz.prog 67 TN:=bD Tryz.func67
def TM:bA:=⟨10,c68,[.cell 2 (some 3)],true,false⟩
theorem atG:aJ Tryz.prog 68 TM:=bD Tryz.func68
def TL:bA:=⟨9,c69,[.tmp 4],true,false⟩
theorem atF:aJ Tryz.prog 69 TL:=bD Tryz.func69
def TK:bA:=⟨31,c70,[.tmp 6],true,false⟩
theorem atE:aJ Tryz.prog 70 TK:=bD Tryz.func70
def TJ:bA:=⟨21,c71,[.tmp 2],true,false⟩
theorem atD:aJ Tryz.prog 71 TJ:=bD Tryz.func71
def I6:bA:=⟨14,c72,[.tmp 2],true,false⟩
theorem atC:aJ Tryz.prog 72 I6:=bD Tryz.func72
def TI:bA:=⟨8,c73,[.tmp 4],true,false⟩
theorem atB:aJ Tryz.prog 73 TI:=bD Tryz.func73
def TH:bA:=⟨33,c74,[.tmp 4],true,false⟩
theorem atA:aJ Tryz.prog 74 TH:=bD Tryz.func74
def I5:bA:=⟨20,c82,[.tmp 4],true,false⟩
theorem asZ:aJ Tryz.prog 82 I5:=bD Tryz.func82
def TG:bA:=⟨98,c87,[.tmp 2],true,false⟩
theorem asY:aJ Tryz.prog 87 TG:=bD Tryz.func87
def TF:bA:=⟨79,c88,[.tmp 4],true,false⟩
theorem asX:aJ Tryz.prog 88 TF:=bD Tryz.func88
def TE:bA:=⟨79,c90,[.tmp 6],true,false⟩
theorem asW:aJ Tryz.prog 90 TE:=bD Tryz.func90
def TD:bA:=⟨79,c91,[.tmp 2, .tmp 3],true,false⟩
theorem asV:aJ Tryz.prog 91 TD:=bD Tryz.func91
def Mp:bA:=⟨42,abC,[.tmp 2],true,false⟩
theorem V6:aJ Tryz.prog 103 Mp:=bD Tryz.func103
def Mo:bA:=⟨65,abB,[.cell 6 (some 5), .tmp 7],true,false⟩
theorem V5:aJ Tryz.prog 104 Mo:=bD Tryz.func104
def Mm:bA:=⟨19,abA,[.tmp 4],true,false⟩
theorem V4:aJ Tryz.prog 105 Mm:=bD Tryz.func105
def Ml:bA:=⟨123,aaZ,[.tmp 8],true,false⟩
theorem V3:aJ Tryz.prog 106 Ml:=bD Tryz.func106
def Mj:bA:=⟨9,aaY,[.tmp 4],true,false⟩
theorem V2:aJ Tryz.prog 107 Mj:=bD Tryz.func107
def Mi:bA:=⟨21,aaX,[.tmp 2],true,false⟩
theorem V1:aJ Tryz.prog 108 Mi:=bD Tryz.func108
def Mh:bA:=⟨79,aaW,[.tmp 2],true,false⟩
theorem V0:aJ Tryz.prog 109 Mh:=bD Tryz.func109
def Mg:bA:=⟨34,aaV,[.tmp 4],true,false⟩
theorem VZ:aJ Tryz.prog 110 Mg:=bD Tryz.func110
def Mf:bA:=⟨24,aaU,[.cell 4 (some 2)],true,false⟩
theorem VY:aJ Tryz.prog 111 Mf:=bD Tryz.func111
def Me:bA:=⟨6,aaT,[.tmp 2],true,false⟩
theorem VX:aJ Tryz.prog 116 Me:=bD Tryz.func116
def Md:bA:=⟨78,aaS,[.tmp 2, .tmp 3],true,false⟩
theorem VW:aJ Tryz.prog 119 Md:=bD Tryz.func119
def Mc:bA:=⟨12,aaR,[.tmp 4],true,false⟩
theorem VV:aJ Tryz.prog 121 Mc:=bD Tryz.func121
def Ma:bA:=⟨7,aaQ,[.tmp 2],true,false⟩
theorem VU:aJ Tryz.prog 122 Ma:=bD Tryz.func122
def L9:bA:=⟨8,aaP,[.tmp 2],true,false⟩
theorem VT:aJ Tryz.prog 123 L9:=bD Tryz.func123
def L8:bA:=⟨9,aaO,[.tmp 4],true,false⟩
theorem VS:aJ Tryz.prog 124 L8:=bD Tryz.func124
def GD:bA:=⟨84,aaN,[.tmp 4, .tmp 5],true,false⟩
theorem VR:aJ Tryz.prog 125 GD:=bD Tryz.func125
def L7:bA:=⟨18,aaM,[.tmp 4, .tmp 5],true,false⟩
theorem VQ:aJ Tryz.prog 126 L7:=bD Tryz.func126
def L6:bA:=⟨63,aaL,[.tmp 2],true,false⟩
theorem VP:aJ Tryz.prog 127 L6:=bD Tryz.func127
def L5:bA:=⟨21,aaK,[.tmp 4],true,false⟩
theorem VO:aJ Tryz.prog 128 L5:=bD Tryz.func128
def L4:bA:=⟨19,aaJ,[.tmp 2],true,false⟩
theorem VN:aJ Tryz.prog 129 L4:=bD Tryz.func129
def GC:bA:=⟨28,aaI,[.tmp 6, .tmp 7],true,false⟩
theorem VM:aJ Tryz.prog 148 GC:=bD Tryz.func148
def L3:bA:=⟨29,aaH,[.cell 6 (some 2), .tmp 7],true,false⟩
theorem VL:aJ Tryz.prog 149 L3:=bD Tryz.func149
def LZ:bA:=⟨31,aaG,[.tmp 6],true,false⟩
theorem VK:aJ Tryz.prog 150 LZ:=bD Tryz.func150
def LY:bA:=⟨21,aaF,[.tmp 4, .tmp 5],true,false⟩
theorem VJ:aJ Tryz.prog 152 LY:=bD Tryz.func152
def LX:bA:=⟨19,aaE,[.tmp 4],true,false⟩
theorem VI:aJ Tryz.prog 153 LX:=bD Tryz.func153
def LW:bA:=⟨9,aaD,[.tmp 4],true,false⟩
theorem VH:aJ Tryz.prog 154 LW:=bD Tryz.func154
def LV:bA:=⟨38,aaC,[.tmp 6],true,false⟩
theorem VG:aJ Tryz.prog 155 LV:=bD Tryz.func155
def LU:bA:=⟨45,aaB,[.tmp 8],true,false⟩
theorem VF:aJ Tryz.prog 156 LU:=bD Tryz.func156
def LS:bA:=⟨78,aaA,[.tmp 2, .tmp 3],true,false⟩
theorem VE:aJ Tryz.prog 167 LS:=bD Tryz.func167
def LR:bA:=⟨29,Z9,[.cell 3 (some 2), .cell 4 (some 2), .cell 5 (some 2)],true,false⟩
theorem VD:aJ Tryz.prog 168 LR:=bD Tryz.func168
def LQ:bA:=⟨12,Z8,[.tmp 3],true,false⟩
theorem VC:aJ Tryz.prog 169 LQ:=bD Tryz.func169
def LP:bA:=⟨30,Z7,[.tmp 6],true,false⟩
theorem VB:aJ Tryz.prog 170 LP:=bD Tryz.func170
def LO:bA:=⟨51,Z6,[.tmp 4],true,false⟩
theorem VA:aJ Tryz.prog 171 LO:=bD Tryz.func171
def LN:bA:=⟨73,Z5,[.tmp 4],true,false⟩
theorem Vz:aJ Tryz.prog 172 LN:=bD Tryz.func172
def LM:bA:=⟨15,Z4,[.tmp 4],true,false⟩
theorem Vy:aJ Tryz.prog 173 LM:=bD Tryz.func173
def LL:bA:=⟨67,Z3,[.tmp 4],true,false⟩
theorem Vx:aJ Tryz.prog 174 LL:=bD Tryz.func174
def LK:bA:=⟨5,Z2,[.tmp 2],true,false⟩
theorem Vw:aJ Tryz.prog 175 LK:=bD Tryz.func175
def LJ:bA:=⟨103,Z1,[.tmp 2],true,false⟩
theorem Vv:aJ Tryz.prog 176 LJ:=bD Tryz.func176
def LI:bA:=⟨19,Z0,[.tmp 4],true,false⟩
theorem Vu:aJ Tryz.prog 177 LI:=bD Tryz.func177
def LH:bA:=⟨14,ZZ,[.tmp 4],true,false⟩
theorem Vt:aJ Tryz.prog 178 LH:=bD Tryz.func178
def GA:bA:=⟨81,ZY,[.tmp 2],true,false⟩
theorem Vs:aJ Tryz.prog 179 GA:=bD Tryz.func179
def LG:bA:=⟨26,ZX,[.cell 4 (some 2)],true,false⟩
theorem Vr:aJ Tryz.prog 180 LG:=bD Tryz.func180
def LF:bA:=⟨62,ZW,[.tmp 6],true,false⟩
theorem Vq:aJ Tryz.prog 181 LF:=bD Tryz.func181
def LD:bA:=⟨92,ZV,[.tmp 4, .tmp 5, .tmp 6],true,false⟩
theorem Vp:aJ Tryz.prog 182 LD:=bD Tryz.func182
def LC:bA:=⟨63,ZU,[.tmp 6, .cell 7 (some 7), .tmp 8],true,false⟩
theorem Vo:aJ Tryz.prog 198 LC:=bD Tryz.func198
def LB:bA:=⟨164,ZT,[.tmp 4, .tmp 5],true,false⟩
theorem Vm:aJ Tryz.prog 199 LB:=bD Tryz.func199
def LA:bA:=⟨9,ZS,[.cell 2 (some 2)],true,false⟩
theorem Vl:aJ Tryz.prog 200 LA:=bD Tryz.func200
def Ly:bA:=⟨50,ZR,[.tmp 4, .tmp 5],true,false⟩
theorem Vk:aJ Tryz.prog 202 Ly:=bD Tryz.func202
def Lx:bA:=⟨19,ZQ,[.tmp 4],true,false⟩
theorem Vj:aJ Tryz.prog 203 Lx:=bD Tryz.func203
def Lw:bA:=⟨30,ZP,[.tmp 6],true,false⟩
theorem Vi:aJ Tryz.prog 204 Lw:=bD Tryz.func204
def Lv:bA:=⟨52,ZO,[.tmp 6],true,false⟩
theorem Vh:aJ Tryz.prog 205 Lv:=bD Tryz.func205
def Lu:bA:=⟨21,ZN,[.tmp 8],true,false⟩
theorem Vg:aJ Tryz.prog 206 Lu:=bD Tryz.func206
def Lt:bA:=⟨29,ZM,[.tmp 4],true,false⟩
theorem Vf:aJ Tryz.prog 212 Lt:=bD Tryz.func212
def Gz:bA:=⟨37,ZL,[.tmp 2],true,false⟩
theorem Ve:aJ Tryz.prog 213 Gz:=bD Tryz.func213
def Lr:bA:=⟨36,ZK,[.tmp 2],false,false⟩
theorem Vd:aJ Tryz.prog 215 Lr:=bD Tryz.func215
def Lq:bA:=⟨21,ZJ,[.tmp 2],true,false⟩
theorem Vc:aJ Tryz.prog 216 Lq:=bD Tryz.func216
def Ln:bA:=⟨28,ZI,[.tmp 4],true,false⟩
theorem Vb:aJ Tryz.prog 217 Ln:=bD Tryz.func217
def Lm:bA:=⟨46,ZH,[.tmp 2],true,false⟩
theorem Va:aJ Tryz.prog 218 Lm:=bD Tryz.func218
def Gy:bA:=⟨22,ZG,[.tmp 4],true,false⟩
theorem U9:aJ Tryz.prog 220 Gy:=bD Tryz.func220
def Ll:bA:=⟨9,ZF,[.tmp 4],true,false⟩
theorem U8:aJ Tryz.prog 221 Ll:=bD Tryz.func221
def Lk:bA:=⟨14,ZE,[.tmp 4],true,false⟩
theorem U7:aJ Tryz.prog 223 Lk:=bD Tryz.func223
def Lj:bA:=⟨7,ZD,[.tmp 2],true,false⟩
theorem U6:aJ Tryz.prog 224 Lj:=bD Tryz.func224
def Li:bA:=⟨29,ZC,[.tmp 2],true,false⟩
theorem U5:aJ Tryz.prog 225 Li:=bD Tryz.func225
def Lh:bA:=⟨23,ZB,[.tmp 2],true,false⟩
theorem U4:aJ Tryz.prog 226 Lh:=bD Tryz.func226
def Lc:bA:=⟨19,ZA,[.tmp 4],true,false⟩
theorem U3:aJ Tryz.prog 227 Lc:=bD Tryz.func227
def Lb:bA:=⟨110,Zz,[.tmp 4, .tmp 5],true,false⟩
theorem U2:aJ Tryz.prog 251 Lb:=bD Tryz.func251
def La:bA:=⟨12,Zy,[.tmp 2, .tmp 3],true,false⟩
theorem U1:aJ Tryz.prog 252 La:=bD Tryz.func252
def K9:bA:=⟨31,Zx,[.tmp 4],true,false⟩
theorem U0:aJ Tryz.prog 253 K9:=bD Tryz.func253
def K8:bA:=⟨16,Zw,[.cell 4 (some 2)],true,false⟩
theorem UZ:aJ Tryz.prog 254 K8:=bD Tryz.func254
def K7:bA:=⟨59,Zv,[.tmp 6],true,false⟩
theorem UY:aJ Tryz.prog 255 K7:=bD Tryz.func255
def K6:bA:=⟨29,Zu,[.tmp 4],true,false⟩
theorem UX:aJ Tryz.prog 256 K6:=bD Tryz.func256
def K5:bA:=⟨6,Zt,[.tmp 2],true,false⟩
theorem UW:aJ Tryz.prog 257 K5:=bD Tryz.func257
def K4:bA:=⟨27,Zs,[.tmp 4],true,true⟩
theorem UU:aJ Tryz.prog 260 K4:=bD Tryz.func260
def K3:bA:=⟨50,Zr,[.tmp 2],true,false⟩
theorem UT:aJ Tryz.prog 261 K3:=bD Tryz.func261
def Az:bA:=⟨9,Zq,[.cell 2 (some 3)],true,false⟩
theorem US:aJ Tryz.prog 262 Az:=bD Tryz.func262
def K2:bA:=⟨38,Zp,[.tmp 4],true,false⟩
theorem UR:aJ Tryz.prog 263 K2:=bD Tryz.func263
def Ay:bA:=⟨16,Zo,[.cell 4 (some 2)],true,false⟩
theorem UQ:aJ Tryz.prog 264 Ay:=bD Tryz.func264
def K1:bA:=⟨5,Zn,[.cell 2 (some 2)],true,false⟩
theorem UP:aJ Tryz.prog 265 K1:=bD Tryz.func265
def K0:bA:=⟨19,Zm,[.tmp 4],true,false⟩
theorem UO:aJ Tryz.prog 266 K0:=bD Tryz.func266
def KZ:bA:=⟨21,Zl,[.tmp 2],true,false⟩
theorem UN:aJ Tryz.prog 269 KZ:=bD Tryz.func269
def KY:bA:=⟨25,Zk,[.tmp 2],true,false⟩
theorem UM:aJ Tryz.prog 291 KY:=bD Tryz.func291
def KX:bA:=⟨19,Zj,[.tmp 4],true,false⟩
theorem UL:aJ Tryz.prog 292 KX:=bD Tryz.func292
def KW:bA:=⟨37,Zi,[.cell 8 (some 6), .tmp 9],true,false⟩
theorem UK:aJ Tryz.prog 293 KW:=bD Tryz.func293
def wY:bA:=⟨8,Zh,[.cell 2 (some 6)],true,false⟩
theorem UJ:aJ Tryz.prog 294 wY:=bD Tryz.func294
def Gx:bA:=⟨30,Zg,[.cell 2 (some 2), .tmp 3],true,false⟩
theorem UI:aJ Tryz.prog 295 Gx:=bD Tryz.func295
def wX:bA:=⟨16,Zf,[.cell 4 (some 6)],true,false⟩
theorem UH:aJ Tryz.prog 296 wX:=bD Tryz.func296
def KV:bA:=⟨8,Ze,[.tmp 2],true,false⟩
theorem UG:aJ Tryz.prog 297 KV:=bD Tryz.func297
def KU:bA:=⟨18,Zd,[.tmp 2, .tmp 3],true,false⟩
theorem UF:aJ Tryz.prog 301 KU:=bD Tryz.func301
def KT:bA:=⟨52,Zc,[.tmp 2],true,false⟩
theorem UE:aJ Tryz.prog 302 KT:=bD Tryz.func302
def Gw:bA:=⟨6,Zb,[.tmp 2],true,false⟩
theorem UD:aJ Tryz.prog 304 Gw:=bD Tryz.func304
def KS:bA:=⟨10,Za,[.tmp 2],true,false⟩
theorem UC:aJ Tryz.prog 305 KS:=bD Tryz.func305
def KR:bA:=⟨8,Y9,[.cell 2 (some 2)],true,false⟩
theorem UB:aJ Tryz.prog 306 KR:=bD Tryz.func306
def KQ:bA:=⟨39,Y8,[.tmp 4],true,false⟩
theorem UA:aJ Tryz.prog 307 KQ:=bD Tryz.func307
def CV:bA:=⟨15,Y7,[.cell 4 (some 2)],true,false⟩
theorem Uz:aJ Tryz.prog 308 CV:=bD Tryz.func308
def CU:bA:=⟨71,Y6,[.tmp 4],true,false⟩
theorem Uy:aJ Tryz.prog 309 CU:=bD Tryz.func309
def KP:bA:=⟨5,Y5,[.tmp 2],true,false⟩
theorem Ux:aJ Tryz.prog 331 KP:=bD Tryz.func331
def Gv:bA:=⟨38,Y4,[.cell 4 (some 3), .tmp 5],true,false⟩
theorem Uw:aJ Tryz.prog 332 Gv:=bD Tryz.func332
def KO:bA:=⟨16,Y3,[.cell 4 (some 3)],true,false⟩
theorem Uv:aJ Tryz.prog 333 KO:=bD Tryz.func333
def KN:bA:=⟨14,Y2,[.cell 6 (some 6)],true,false⟩
theorem Uu:aJ Tryz.prog 334 KN:=bD Tryz.func334
def KM:bA:=⟨22,YZ,[.cell 4 (some 6)],true,false⟩
theorem Ut:aJ Tryz.prog 335 KM:=bD Tryz.func335
def Gu:bA:=⟨22,YY,[.tmp 2, .tmp 3],true,false⟩
theorem Ur:aJ Tryz.prog 336 Gu:=bD Tryz.func336
def uh:bA:=⟨9,YX,[.cell 4 (some 3)],true,false⟩
theorem Uq:aJ Tryz.prog 337 uh:=bD Tryz.func337
def CT:bA:=⟨25,YW,[.cell 4 (some 3), .tmp 5],true,false⟩
theorem Up:aJ Tryz.prog 340 CT:=bD Tryz.func340
def Gs:bA:=⟨20,YV,[.cell 4 (some 3)],true,false⟩
theorem Uo:aJ Tryz.prog 341 Gs:=bD Tryz.func341
def KL:bA:=⟨49,YU,[.tmp 2, .tmp 3],true,false⟩
theorem Un:aJ Tryz.prog 342 KL:=bD Tryz.func342
def KK:bA:=⟨21,YT,[.tmp 2],true,true⟩
theorem Um:aJ Tryz.prog 343 KK:=bD Tryz.func343
def KJ:bA:=⟨20,YS,[.tmp 4],true,false⟩
theorem Ul:aJ Tryz.prog 344 KJ:=bD Tryz.func344
def KI:bA:=⟨13,YR,[.tmp 2],true,false⟩
theorem Uk:aJ Tryz.prog 345 KI:=bD Tryz.func345
def uf:bA:=⟨38,YQ,[.cell 4 (some 3)],true,false⟩
theorem Uj:aJ Tryz.prog 364 uf:=bD Tryz.func364
def KH:bA:=⟨16,YP,[.cell 4 (some 6)],true,false⟩
theorem Ui:aJ Tryz.prog 365 KH:=bD Tryz.func365
def KG:bA:=⟨14,YO,[.cell 4 (some 6)],true,false⟩
theorem Uh:aJ Tryz.prog 366 KG:=bD Tryz.func366
def KF:bA:=⟨36,YN,[.cell 2 (some 2)],true,false⟩
theorem Ug:aJ Tryz.prog 367 KF:=bD Tryz.func367
def Ax:bA:=⟨30,YM,[.cell 4 (some 3)],true,false⟩
theorem Uf:aJ Tryz.prog 368 Ax:=bD Tryz.func368
def KE:bA:=⟨11,YL,[.cell 2 (some 3)],true,false⟩
theorem Ue:aJ Tryz.prog 369 KE:=bD Tryz.func369
def KD:bA:=⟨14,YK,[.cell 2 (some 2)],true,false⟩
theorem Ud:aJ Tryz.prog 370 KD:=bD Tryz.func370
def KC:bA:=⟨6,YJ,[.tmp 2],true,false⟩
theorem Uc:aJ Tryz.prog 371 KC:=bD Tryz.func371
def KB:bA:=⟨25,YI,[.tmp 4],true,false⟩
theorem Ub:aJ Tryz.prog 384 KB:=bD Tryz.func384
def wW:bA:=⟨93,YH,[.tmp 4, .tmp 5, .tmp 6],true,false⟩
theorem Ua:aJ Tryz.prog 385 wW:=bD Tryz.func385
def KA:bA:=⟨60,YG,[.tmp 4],true,false⟩
theorem T9:aJ Tryz.prog 386 KA:=bD Tryz.func386
def Kz:bA:=⟨47,YF,[.cell 4 (some 2)],true,false⟩
theorem T8:aJ Tryz.prog 387 Kz:=bD Tryz.func387
def Ky:bA:=⟨9,YE,[.cell 2 (some 2)],true,false⟩
theorem T7:aJ Tryz.prog 388 Ky:=bD Tryz.func388
def Kx:bA:=⟨43,YD,[.tmp 4, .tmp 5],true,false⟩
theorem T6:aJ Tryz.prog 390 Kx:=bD Tryz.func390
def Kw:bA:=⟨54,YC,[.tmp 4, .tmp 5],true,false⟩
theorem T5:aJ Tryz.prog 395 Kw:=bD Tryz.func395
end Go.aU.Cd
end
section
namespace Go.aU.Cd
open Go Go.Proofs
set_option maxRecDepth 100000
def T4:List (Nat×bA):=[(343,KK),(82,I5),(204,Lw),(262,Az),(308,CV),(309,CU),(264,Ay),(205,Lv),(364,uf),(337,uh),(296,wX),(294,wY),(345,KI),(170,LP),(385,wW),(341,Gs),(265,K1),(227,Lc),(116,Me),(368,Ax),(307,KQ),(111,Mf),(371,KC),(254,K8),(203,Lx),(168,LR),(155,LV),(154,LW),(108,Mi),(306,KR),(178,LH),(72,I6),(386,KA),(340,CT),(333,KO),(305,KS),(304,Gw),(292,KX),(269,KZ),(256,K6),(216,Lq),(212,Lt),(180,LG),(174,LL),(169,LQ),(387,Kz),(153,LX),(107,Mj),(384,KB),(369,KE),(344,KJ),(302,KT),(301,KU),(261,K3),(220,Gy),(217,Ln),(206,Lu),(175,LK),(156,LU),(29,TY),(390,Kx),(370,KD),(366,KG),(365,KH),(335,KM),(334,KN),(332,Gv),(295,Gx),(293,KW),(291,KY),(255,K7),(225,Li),(224,Lj),(181,LF),(173,LM),(121,Mc),(68,TM),(55,OI),(28,ON),(395,Kw),(388,Ky),(257,K5),(213,Gz),(179,GA),(125,GD),(109,Mh),(74,TH),(48,OJ),(33,TW),(32,TX),(336,Gu),(266,K0),(260,K4),(253,K9),(252,La),(226,Lh),(223,Lk),(221,Ll),(218,Lm),(215,Lr),(198,LC),(176,LJ),(172,LN),(171,LO),(167,LS),(150,LZ),(149,L3),(148,GC),(129,L4),(128,L5),(123,L9),(122,Ma),(119,Md),(110,Mg),(106,Ml),(104,Mo),(73,TI),(71,TJ),(57,TO),(41,TU),(40,OL),(39,OM),(19,T0),(17,T1),(14,T3),(367,KF),(342,KL),(331,KP),(297,KV),(263,K2),(251,Lb),(202,Ly),(200,LA),(199,LB),(182,LD),(177,LI),(152,LY),(127,L6),(126,L7),(124,L8),(105,Mm),(103,Mp),(91,TD),(90,TE),(88,TF),(87,TG),(70,TK),(69,TL),(67,TN),(56,TP),(54,TQ),(47,TR),(38,TV),(27,TZ),(16,T2),(13,OO)]
abbrev ej:Nat→Option bA:=find T4
theorem aS:Dm Tryz.prog ej:=AA (show Hw Tryz.prog T4 from⟨Um,asZ,Vi,US,Uz,Uy,UQ,Vh,Uj,Uq,UH,UJ,Uk,VB,Ua,Uo,UP,U3,VX,Uf,UA,VY,Uc,UZ,Vj,VD,VG,VH,V1,UB,Vt,atC,T9,Up,Uv,UC,UD,UL,UN,UX,Vc,Vf,Vr,Vx,VC,T8,VI,V2,Ub,Ue,Ul,UE,UF,UT,U9,Vb,Vg,Vw,VF,atV,T6,Ud,Uh,Ui,Ut,Uu,Uw,UI,UK,UM,UY,U5,U6,Vq,Vy,VV,atG,atK,atW,T5,T7,UW,Ve,Vs,VR,V0,atA,atM,atT,atU,Ur,UO,UU,U0,U1,U4,U7,U8,Va,Vd,Vo,Vv,Vz,VA,VE,VK,VL,VM,VN,VO,VT,VU,VW,VZ,V3,V5,atB,atD,atI,atO,atP,atQ,atY,atZ,auB,Ug,Un,Ux,UG,UR,U2,Vk,Vl,Vm,Vp,Vu,VJ,VP,VQ,VS,V4,V6,asV,asW,asX,asY,atE,atF,atH,atJ,atL,atN,atS,atX,auA,auC,trivial⟩)
def l0:List (Nat×List W×V):=[]
theorem k0:bk Tryz.prog (bi l0):=HV
def a1:List W:=[.one (.t (i 0)), .one (.t (i 0))]
def v1:V:= .w (.one (.t (i 0)))
theorem r1:Fn Tryz.prog 82 a1 [] v1 []∧v1.bJ=true:=aN (fuel:=10000) (d:=60) aS k0 (show ej 82=some I5 from rfl) (by kernel_rfl)
def l1:List (Nat×List W×V):=(82,a1,v1)::l0
theorem k1:bk Tryz.prog (bi l1):=aH k0 r1
def a2:List W:=[.one (.t (bo false)), .one (.t (.ao 1 []))]
def v2:V:= .w (.agg [.t (bo false), .t (.ao 1 [])])
theorem r2:Fn Tryz.prog 308 a2 [] v2 []∧v2.bJ=true:=aN (fuel:=10000) (d:=60) aS k1 (show ej 308=some CV from rfl) (by kernel_rfl)
def l2:List (Nat×List W×V):=(308,a2,v2)::l1
theorem k2:bk Tryz.prog (bi l2):=aH k1 r2
def a3:List W:=[.agg [.t (bo false), .t (nl), .t (nl)], .agg [.t (bo false), .t (nl), .t (nl)]]
def v3:V:= .w (.one (.t (i 0)))
theorem r3:Fn Tryz.prog 220 a3 [] v3 []∧v3.bJ=true:=aN (fuel:=10000) (d:=60) aS k2 (show ej 220=some Gy from rfl) (by kernel_rfl)
def l3:List (Nat×List W×V):=(220,a3,v3)::l2
theorem k3:bk Tryz.prog (bi l3):=aH k2 r3
def a4:List W:=[.one (.t (i 100)), .one (.t (i 0))]
def v4:V:= .w (.one (.t (i 1)))
theorem r4:Fn Tryz.prog 82 a4 [] v4 []∧v4.bJ=true:=aN (fuel:=10000) (d:=60) aS k3 (show ej 82=some I5 from rfl) (by kernel_rfl)
def l4:List (Nat×List W×V):=(82,a4,v4)::l3
theorem k4:bk Tryz.prog (bi l4):=aH k3 r4
def a5:List W:=[.one (.t (.ao 2 [[i 0,i 0],[i 10,i 0],[i 10,i 10],[i 0,i 10]]))]
def v5:V:= .w (.one (.t (i 0)))
theorem r5:Fn Tryz.prog 72 a5 [] v5 []∧v5.bJ=true:=aN (fuel:=10000) (d:=60) aS k4 (show ej 72=some I6 from rfl) (by kernel_rfl)
def l5:List (Nat×List W×V):=(72,a5,v5)::l4
theorem k5:bk Tryz.prog (bi l5):=aH k4 r5
def a6:List W:=[.one (.t (.ao 2 [[.val (.string ⟨#[108,111,119]⟩), .ao 2 [[i 0,i 0],[i 10,i 0]]],[.val (.string ⟨#[114,105,103,104,116]⟩), .ao 2 [[i 10,i 0],[i 10,i 10]]],[.val (.string ⟨#[104,105,103,104]⟩), .ao 2 [[i 10,i 10],[i 0,i 10]]],[.val (.string ⟨#[108,101,102,116]⟩), .ao 2 [[i 0,i 10],[i 0,i 0]]]]))]
def v6:V:= .w (.one (.t (i 0)))
theorem r6:Fn Tryz.prog 179 a6 [] v6 []∧v6.bJ=true:=aN (fuel:=10000) (d:=60) aS k5 (show ej 179=some GA from rfl) (by kernel_rfl)
def l6:List (Nat×List W×V):=(179,a6,v6)::l5
theorem k6:bk Tryz.prog (bi l6):=aH k5 r6
def a7:List W:=[.agg [.t (.val (.string ⟨#[102,114,111,110,116]⟩)), .t (.ao 2 [[.val (.string ⟨#[108,111,119]⟩), .ao 2 [[i 0,i 0],[i 10,i 0]]],[.val (.string ⟨#[114,105,103,104,116]⟩), .ao 2 [[i 10,i 0],[i 10,i 10]]],[.val (.string ⟨#[104,105,103,104]⟩), .ao 2 [[i 10,i 10],[i 0,i 10]]],[.val (.string ⟨#[108,101,102,116]⟩), .ao 2 [[i 0,i 10],[i 0,i 0]]]]), .t (i 1), .t (nl), .t (.ao 2 [[i 0,i 0],[i 1,i 0],[i 1,i 0],[i 0,i 0]]), .t (.ao 1 [[i 0],[i 0],[i 0],[i 0]]), .t (bo false)], .one (.t (i 0))]
def v7:V:= .dn [.one (.t (.ao 2 [[.val (.string ⟨#[108,111,119]⟩), .ao 2 [[i 0,i 0],[i 10,i 0]]],[.val (.string ⟨#[114,105,103,104,116]⟩), .ao 2 [[i 10,i 0],[i 10,i 10]]],[.val (.string ⟨#[104,105,103,104]⟩), .ao 2 [[i 10,i 10],[i 0,i 10]]],[.val (.string ⟨#[108,101,102,116]⟩), .ao 2 [[i 0,i 10],[i 0,i 0]]]])), .one (.t (i 0))]
theorem r7:Fn Tryz.prog 125 a7 [] v7 []∧v7.bJ=true:=aN (fuel:=10000) (d:=60) aS k6 (show ej 125=some GD from rfl) (by kernel_rfl)
def l7:List (Nat×List W×V):=(125,a7,v7)::l6
theorem k7:bk Tryz.prog (bi l7):=aH k6 r7
def a8:List W:=[.agg [.t (.val (.string ⟨#[115,104,105,114,116]⟩)), .t (.ao 1 [[.val (.string ⟨#[83]⟩)],[.val (.string ⟨#[77]⟩)]]), .t (.ao 1 [[i 0],[i 2]]), .t (.ao 7 [[.val (.string ⟨#[102,114,111,110,116]⟩), .ao 2 [[.val (.string ⟨#[108,111,119]⟩), .ao 2 [[i 0,i 0],[i 10,i 0]]],[.val (.string ⟨#[114,105,103,104,116]⟩), .ao 2 [[i 10,i 0],[i 10,i 10]]],[.val (.string ⟨#[104,105,103,104]⟩), .ao 2 [[i 10,i 10],[i 0,i 10]]],[.val (.string ⟨#[108,101,102,116]⟩), .ao 2 [[i 0,i 10],[i 0,i 0]]]],i 1,nl, .ao 2 [[i 0,i 0],[i 1,i 0],[i 1,i 0],[i 0,i 0]], .ao 1 [[i 0],[i 0],[i 0],[i 0]],bo false]]), .t (.ao 3 [[i 0,i 2,bo true]]), .t (nl), .t (.ao 5 [[.val (.string ⟨#[106,111,105,110]⟩),i 0,i 100,nl, .ao 1 [[i 0]]]])]]
def v8:V:= .w (.one (.t (i 0)))
theorem r8:Fn Tryz.prog 55 a8 [] v8 []∧v8.bJ=true:=aN (fuel:=10000) (d:=60) aS k7 (show ej 55=some OI from rfl) (by kernel_rfl)
def l8:List (Nat×List W×V):=(55,a8,v8)::l7
theorem k8:bk Tryz.prog (bi l8):=aH k7 r8
def a9:List W:=[.agg [.t (.val (.string ⟨#[115,104,105,114,116]⟩)), .t (.ao 1 [[.val (.string ⟨#[83]⟩)],[.val (.string ⟨#[77]⟩)]]), .t (.ao 1 [[i 0],[i 2]]), .t (.ao 7 [[.val (.string ⟨#[102,114,111,110,116]⟩), .ao 2 [[.val (.string ⟨#[108,111,119]⟩), .ao 2 [[i 0,i 0],[i 10,i 0]]],[.val (.string ⟨#[114,105,103,104,116]⟩), .ao 2 [[i 10,i 0],[i 10,i 10]]],[.val (.string ⟨#[104,105,103,104]⟩), .ao 2 [[i 10,i 10],[i 0,i 10]]],[.val (.string ⟨#[108,101,102,116]⟩), .ao 2 [[i 0,i 10],[i 0,i 0]]]],i 1,nl, .ao 2 [[i 0,i 0],[i 1,i 0],[i 1,i 0],[i 0,i 0]], .ao 1 [[i 0],[i 0],[i 0],[i 0]],bo false]]), .t (.ao 3 [[i 0,i 2,bo true]]), .t (nl), .t (.ao 5 [[.val (.string ⟨#[106,111,105,110]⟩),i 0,i 100,nl, .ao 1 [[i 0]]]])]]
def v9:V:= .w (.one (.t (i 0)))
theorem r9:Fn Tryz.prog 39 a9 [] v9 []∧v9.bJ=true:=aN (fuel:=10000) (d:=60) aS k8 (show ej 39=some OM from rfl) (by kernel_rfl)
def l9:List (Nat×List W×V):=(39,a9,v9)::l8
theorem k9:bk Tryz.prog (bi l9):=aH k8 r9
def a10:List W:=[.one (.t (.ao 2 [[i 0,i 0],[i 10,i 0],[i 10,i 10],[i 0,i 10]]))]
def v10:V:= .w (.one (.t (i 200)))
theorem r10:Fn Tryz.prog 213 a10 [] v10 []∧v10.bJ=true:=aN (fuel:=10000) (d:=60) aS k9 (show ej 213=some Gz from rfl) (by kernel_rfl)
def EA:List (Nat×List W×V):=(213,a10,v10)::l9
theorem k10:bk Tryz.prog (bi EA):=aH k9 r10
def a11:List W:=[.one (.t (.ao 1 [[u 1]])), .one (.t (.ao 1 [[u 1]]))]
def v11:V:= .dn [.one (.t (.ao 1 [[u 1]])), .one (.t (.ao 1 [])), .one (.t (bo true))]
theorem r11:Fn Tryz.prog 385 a11 [] v11 []∧v11.bJ=true:=aN (fuel:=10000) (d:=60) aS k10 (show ej 385=some wW from rfl) (by kernel_rfl)
def l11:List (Nat×List W×V):=(385,a11,v11)::EA
theorem k11:bk Tryz.prog (bi l11):=aH k10 r11
def a12:List W:=[.agg [.t (bo false), .t (.ao 1 [])], .one (.t (.ao 1 [[u 1]]))]
def v12:V:= .w (.agg [.t (bo false), .t (.ao 1 []), .t (.ao 1 [[u 1]])])
theorem r12:Fn Tryz.prog 364 a12 [] v12 []∧v12.bJ=true:=aN (fuel:=10000) (d:=60) aS k11 (show ej 364=some uf from rfl) (by kernel_rfl)
def l12:List (Nat×List W×V):=(364,a12,v12)::l11
theorem k12:bk Tryz.prog (bi l12):=aH k11 r12
def a13:List W:=[.one (.t (i 0)), .one (.t (i 1))]
def v13:V:= .dn [.agg [.t (bo false), .t (.ao 1 []), .t (.ao 1 [[u 1]])], .one (.t (bo true))]
theorem r13:Fn Tryz.prog 340 a13 [] v13 []∧v13.bJ=true:=aN (fuel:=10000) (d:=60) aS k12 (show ej 340=some CT from rfl) (by kernel_rfl)
def l13:List (Nat×List W×V):=(340,a13,v13)::l12
theorem k13:bk Tryz.prog (bi l13):=aH k12 r13
def a14:List W:=[.one (.t (.ao 1 [[u 10]])), .one (.t (.ao 1 [[u 1]]))]
def v14:V:= .dn [.one (.t (.ao 1 [[u 10]])), .one (.t (.ao 1 [])), .one (.t (bo true))]
theorem r14:Fn Tryz.prog 385 a14 [] v14 []∧v14.bJ=true:=aN (fuel:=10000) (d:=60) aS k13 (show ej 385=some wW from rfl) (by kernel_rfl)
def l14:List (Nat×List W×V):=(385,a14,v14)::l13
theorem k14:bk Tryz.prog (bi l14):=aH k13 r14
def a15:List W:=[.agg [.t (bo false), .t (.ao 1 [[u 10]])], .one (.t (.ao 1 [[u 1]]))]
def v15:V:= .w (.agg [.t (bo false), .t (.ao 1 [[u 10]]), .t (.ao 1 [[u 1]])])
theorem r15:Fn Tryz.prog 364 a15 [] v15 []∧v15.bJ=true:=aN (fuel:=10000) (d:=60) aS k14 (show ej 364=some uf from rfl) (by kernel_rfl)
def l15:List (Nat×List W×V):=(364,a15,v15)::l14
theorem k15:bk Tryz.prog (bi l15):=aH k14 r15
def a16:List W:=[.one (.t (i 10)), .one (.t (i 1))]
def v16:V:= .dn [.agg [.t (bo false), .t (.ao 1 [[u 10]]), .t (.ao 1 [[u 1]])], .one (.t (bo true))]
theorem r16:Fn Tryz.prog 340 a16 [] v16 []∧v16.bJ=true:=aN (fuel:=10000) (d:=60) aS k15 (show ej 340=some CT from rfl) (by kernel_rfl)
def l16:List (Nat×List W×V):=(340,a16,v16)::l15
theorem k16:bk Tryz.prog (bi l16):=aH k15 r16
def a17:List W:=[.agg [.t (i 0), .t (i 10)]]
def v17:V:= .w (.agg [.t (bo false), .t (.ao 1 []), .t (.ao 1 [[u 1]]), .t (bo false), .t (.ao 1 [[u 10]]), .t (.ao 1 [[u 1]])])
theorem r17:Fn Tryz.prog 294 a17 [] v17 []∧v17.bJ=true:=aN (fuel:=10000) (d:=60) aS k16 (show ej 294=some wY from rfl) (by kernel_rfl)
def l17:List (Nat×List W×V):=(294,a17,v17)::l16
theorem k17:bk Tryz.prog (bi l17):=aH k16 r17
def a18:List W:=[.agg [.t (i 0), .t (i 0)]]
def v18:V:= .w (.agg [.t (bo false), .t (.ao 1 []), .t (.ao 1 [[u 1]]), .t (bo false), .t (.ao 1 []), .t (.ao 1 [[u 1]])])
theorem r18:Fn Tryz.prog 294 a18 [] v18 []∧v18.bJ=true:=aN (fuel:=10000) (d:=60) aS k17 (show ej 294=some wY from rfl) (by kernel_rfl)
def l18:List (Nat×List W×V):=(294,a18,v18)::l17
theorem k18:bk Tryz.prog (bi l18):=aH k17 r18
def a19:List W:=[.agg [.t (i 10), .t (i 0)]]
def v19:V:= .w (.agg [.t (bo false), .t (.ao 1 [[u 10]]), .t (.ao 1 [[u 1]]), .t (bo false), .t (.ao 1 []), .t (.ao 1 [[u 1]])])
theorem r19:Fn Tryz.prog 294 a19 [] v19 []∧v19.bJ=true:=aN (fuel:=10000) (d:=60) aS k18 (show ej 294=some wY from rfl) (by kernel_rfl)
def l19:List (Nat×List W×V):=(294,a19,v19)::l18
theorem k19:bk Tryz.prog (bi l19):=aH k18 r19
def a20:List W:=[.one (.t (.ao 1 [[u 1]]))]
def v20:V:= .w (.one (.t (bo false)))
theorem r20:Fn Tryz.prog 304 a20 [] v20 []∧v20.bJ=true:=aN (fuel:=10000) (d:=60) aS k19 (show ej 304=some Gw from rfl) (by kernel_rfl)
def l20:List (Nat×List W×V):=(304,a20,v20)::l19
theorem k20:bk Tryz.prog (bi l20):=aH k19 r20
def a21:List W:=[.agg [.t (bo false), .t (.ao 1 []), .t (.ao 1 [[u 1]])]]
def v21:V:= .w (.agg [.t (bo false), .t (.ao 1 []), .t (.ao 1 [[u 1]])])
theorem r21:Fn Tryz.prog 262 a21 [] v21 []∧v21.bJ=true:=aN (fuel:=10000) (d:=60) aS k20 (show ej 262=some Az from rfl) (by kernel_rfl)
def l21:List (Nat×List W×V):=(262,a21,v21)::l20
theorem k21:bk Tryz.prog (bi l21):=aH k20 r21
def a22:List W:=[.agg [.t (bo false), .t (.ao 1 [[u 10]]), .t (.ao 1 [[u 1]])]]
def v22:V:= .w (.agg [.t (bo false), .t (.ao 1 [[u 10]]), .t (.ao 1 [[u 1]])])
theorem r22:Fn Tryz.prog 262 a22 [] v22 []∧v22.bJ=true:=aN (fuel:=10000) (d:=60) aS k21 (show ej 262=some Az from rfl) (by kernel_rfl)
def l22:List (Nat×List W×V):=(262,a22,v22)::l21
theorem k22:bk Tryz.prog (bi l22):=aH k21 r22
def a23:List W:=[.agg [.t (bo false), .t (.ao 1 [[u 10]])], .agg [.t (bo false), .t (.ao 1 [[u 1]])]]
def v23:V:= .w (.agg [.t (bo false), .t (.ao 1 [[u 10]])])
theorem r23:Fn Tryz.prog 264 a23 [] v23 []∧v23.bJ=true:=aN (fuel:=10000) (d:=60) aS k22 (show ej 264=some Ay from rfl) (by kernel_rfl)
def l23:List (Nat×List W×V):=(264,a23,v23)::l22
theorem k23:bk Tryz.prog (bi l23):=aH k22 r23
def a24:List W:=[.agg [.t (bo false), .t (.ao 1 [])], .agg [.t (bo false), .t (.ao 1 [[u 1]])]]
def v24:V:= .w (.agg [.t (bo false), .t (.ao 1 [])])
theorem r24:Fn Tryz.prog 264 a24 [] v24 []∧v24.bJ=true:=aN (fuel:=10000) (d:=60) aS k23 (show ej 264=some Ay from rfl) (by kernel_rfl)
def l24:List (Nat×List W×V):=(264,a24,v24)::l23
theorem k24:bk Tryz.prog (bi l24):=aH k23 r24
def a25:List W:=[.one (.t (.ao 1 [[u 1]])), .one (.t (.ao 1 [[u 1]]))]
def v25:V:= .w (.one (.t (.ao 1 [[u 1]])))
theorem r25:Fn Tryz.prog 309 a25 [] v25 []∧v25.bJ=true:=aN (fuel:=10000) (d:=60) aS k24 (show ej 309=some CU from rfl) (by kernel_rfl)
def l25:List (Nat×List W×V):=(309,a25,v25)::l24
theorem k25:bk Tryz.prog (bi l25):=aH k24 r25
def a26:List W:=[.agg [.t (bo false), .t (.ao 1 [[u 10]]), .t (.ao 1 [[u 1]])], .agg [.t (bo false), .t (.ao 1 []), .t (.ao 1 [[u 1]])]]
def v26:V:= .w (.agg [.t (bo false), .t (.ao 1 [[u 10]]), .t (.ao 1 [[u 1]])])
theorem r26:Fn Tryz.prog 368 a26 [] v26 []∧v26.bJ=true:=aN (fuel:=10000) (d:=60) aS k25 (show ej 368=some Ax from rfl) (by kernel_rfl)
def l26:List (Nat×List W×V):=(368,a26,v26)::l25
theorem k26:bk Tryz.prog (bi l26):=aH k25 r26
def a27:List W:=[.agg [.t (bo false), .t (.ao 1 []), .t (.ao 1 [[u 1]])], .agg [.t (bo false), .t (.ao 1 []), .t (.ao 1 [[u 1]])]]
def v27:V:= .w (.agg [.t (bo false), .t (.ao 1 []), .t (.ao 1 [[u 1]])])
theorem r27:Fn Tryz.prog 368 a27 [] v27 []∧v27.bJ=true:=aN (fuel:=10000) (d:=60) aS k26 (show ej 368=some Ax from rfl) (by kernel_rfl)
def l27:List (Nat×List W×V):=(368,a27,v27)::l26
theorem k27:bk Tryz.prog (bi l27):=aH k26 r27
def a28:List W:=[.agg [.t (bo false), .t (.ao 1 []), .t (.ao 1 [[u 1]])], .agg [.t (bo false), .t (.ao 1 []), .t (.ao 1 [[u 1]])]]
def v28:V:= .w (.agg [.t (bo false), .t (.ao 1 []), .t (.ao 1 [[u 1]])])
theorem r28:Fn Tryz.prog 337 a28 [] v28 []∧v28.bJ=true:=aN (fuel:=10000) (d:=60) aS k27 (show ej 337=some uh from rfl) (by kernel_rfl)
def l28:List (Nat×List W×V):=(337,a28,v28)::l27
theorem k28:bk Tryz.prog (bi l28):=aH k27 r28
def a29:List W:=[.agg [.t (bo false), .t (.ao 1 [[u 10]]), .t (.ao 1 [[u 1]]), .t (bo false), .t (.ao 1 []), .t (.ao 1 [[u 1]])], .agg [.t (bo false), .t (.ao 1 []), .t (.ao 1 [[u 1]]), .t (bo false), .t (.ao 1 []), .t (.ao 1 [[u 1]])]]
def v29:V:= .w (.agg [.t (bo false), .t (.ao 1 [[u 10]]), .t (.ao 1 [[u 1]]), .t (bo false), .t (.ao 1 []), .t (.ao 1 [[u 1]])])
theorem r29:Fn Tryz.prog 296 a29 [] v29 []∧v29.bJ=true:=aN (fuel:=10000) (d:=60) aS k28 (show ej 296=some wX from rfl) (by kernel_rfl)
def l29:List (Nat×List W×V):=(296,a29,v29)::l28
theorem k29:bk Tryz.prog (bi l29):=aH k28 r29
def a30:List W:=[.agg [.t (bo true), .t (.ao 1 [[u 10]])], .one (.t (.ao 1 [[u 1]]))]
def v30:V:= .w (.agg [.t (bo true), .t (.ao 1 [[u 10]]), .t (.ao 1 [[u 1]])])
theorem r30:Fn Tryz.prog 364 a30 [] v30 []∧v30.bJ=true:=aN (fuel:=10000) (d:=60) aS k29 (show ej 364=some uf from rfl) (by kernel_rfl)
def l30:List (Nat×List W×V):=(364,a30,v30)::l29
theorem k30:bk Tryz.prog (bi l30):=aH k29 r30
def a31:List W:=[.agg [.t (bo true), .t (.ao 1 [[u 10]]), .t (.ao 1 [[u 1]])]]
def v31:V:= .w (.agg [.t (bo true), .t (.ao 1 [[u 10]]), .t (.ao 1 [[u 1]])])
theorem r31:Fn Tryz.prog 262 a31 [] v31 []∧v31.bJ=true:=aN (fuel:=10000) (d:=60) aS k30 (show ej 262=some Az from rfl) (by kernel_rfl)
def l31:List (Nat×List W×V):=(262,a31,v31)::l30
theorem k31:bk Tryz.prog (bi l31):=aH k30 r31
def a32:List W:=[.agg [.t (bo true), .t (.ao 1 [[u 10]])], .agg [.t (bo false), .t (.ao 1 [[u 1]])]]
def v32:V:= .w (.agg [.t (bo true), .t (.ao 1 [[u 10]])])
theorem r32:Fn Tryz.prog 264 a32 [] v32 []∧v32.bJ=true:=aN (fuel:=10000) (d:=60) aS k31 (show ej 264=some Ay from rfl) (by kernel_rfl)
def l32:List (Nat×List W×V):=(264,a32,v32)::l31
theorem k32:bk Tryz.prog (bi l32):=aH k31 r32
def a33:List W:=[.agg [.t (bo false), .t (.ao 1 []), .t (.ao 1 [[u 1]])], .agg [.t (bo false), .t (.ao 1 [[u 10]]), .t (.ao 1 [[u 1]])]]
def v33:V:= .w (.agg [.t (bo true), .t (.ao 1 [[u 10]]), .t (.ao 1 [[u 1]])])
theorem r33:Fn Tryz.prog 337 a33 [] v33 []∧v33.bJ=true:=aN (fuel:=10000) (d:=60) aS k32 (show ej 337=some uh from rfl) (by kernel_rfl)
def l33:List (Nat×List W×V):=(337,a33,v33)::l32
theorem k33:bk Tryz.prog (bi l33):=aH k32 r33
def a34:List W:=[.agg [.t (bo false), .t (.ao 1 []), .t (.ao 1 [[u 1]]), .t (bo false), .t (.ao 1 []), .t (.ao 1 [[u 1]])], .agg [.t (bo false), .t (.ao 1 []), .t (.ao 1 [[u 1]]), .t (bo false), .t (.ao 1 [[u 10]]), .t (.ao 1 [[u 1]])]]
def v34:V:= .w (.agg [.t (bo false), .t (.ao 1 []), .t (.ao 1 [[u 1]]), .t (bo true), .t (.ao 1 [[u 10]]), .t (.ao 1 [[u 1]])])
theorem r34:Fn Tryz.prog 296 a34 [] v34 []∧v34.bJ=true:=aN (fuel:=10000) (d:=60) aS k33 (show ej 296=some wX from rfl) (by kernel_rfl)
def l34:List (Nat×List W×V):=(296,a34,v34)::l33
theorem k34:bk Tryz.prog (bi l34):=aH k33 r34
def a35:List W:=[.agg [.t (bo false), .t (.ao 1 []), .t (.ao 1 [[u 1]])], .agg [.t (bo false), .t (.ao 1 []), .t (.ao 1 [[u 1]])]]
def v35:V:= .w (.agg [.t (bo false), .t (.ao 1 []), .t (.ao 1 [[u 1]])])
theorem r35:Fn Tryz.prog 341 a35 [] v35 []∧v35.bJ=true:=aN (fuel:=10000) (d:=60) aS k34 (show ej 341=some Gs from rfl) (by kernel_rfl)
def l35:List (Nat×List W×V):=(341,a35,v35)::l34
theorem k35:bk Tryz.prog (bi l35):=aH k34 r35
def a36:List W:=[.one (.t (.ao 1 [[u 10]])), .one (.t (.ao 1 [[u 10]]))]
def v36:V:= .w (.one (.t (.ao 1 [[u 100]])))
theorem r36:Fn Tryz.prog 309 a36 [] v36 []∧v36.bJ=true:=aN (fuel:=10000) (d:=60) aS k35 (show ej 309=some CU from rfl) (by kernel_rfl)
def l36:List (Nat×List W×V):=(309,a36,v36)::l35
theorem k36:bk Tryz.prog (bi l36):=aH k35 r36
def a37:List W:=[.one (.t (.ao 1 [[u 100]])), .one (.t (.ao 1 [[u 1]]))]
def v37:V:= .dn [.one (.t (.ao 1 [[u 100]])), .one (.t (.ao 1 [])), .one (.t (bo true))]
theorem r37:Fn Tryz.prog 385 a37 [] v37 []∧v37.bJ=true:=aN (fuel:=10000) (d:=60) aS k36 (show ej 385=some wW from rfl) (by kernel_rfl)
def l37:List (Nat×List W×V):=(385,a37,v37)::l36
theorem k37:bk Tryz.prog (bi l37):=aH k36 r37
def a38:List W:=[.agg [.t (bo true), .t (.ao 1 [[u 100]])], .one (.t (.ao 1 [[u 1]]))]
def v38:V:= .w (.agg [.t (bo true), .t (.ao 1 [[u 100]]), .t (.ao 1 [[u 1]])])
theorem r38:Fn Tryz.prog 364 a38 [] v38 []∧v38.bJ=true:=aN (fuel:=10000) (d:=60) aS k37 (show ej 364=some uf from rfl) (by kernel_rfl)
def l38:List (Nat×List W×V):=(364,a38,v38)::l37
theorem k38:bk Tryz.prog (bi l38):=aH k37 r38
def a39:List W:=[.one (.t (bo false)), .one (.t (.ao 1 [[u 100]]))]
def v39:V:= .w (.agg [.t (bo false), .t (.ao 1 [[u 100]])])
theorem r39:Fn Tryz.prog 308 a39 [] v39 []∧v39.bJ=true:=aN (fuel:=10000) (d:=60) aS k38 (show ej 308=some CV from rfl) (by kernel_rfl)
def l39:List (Nat×List W×V):=(308,a39,v39)::l38
theorem k39:bk Tryz.prog (bi l39):=aH k38 r39
def a40:List W:=[.agg [.t (bo false), .t (.ao 1 [[u 100]])], .one (.t (.ao 1 [[u 1]]))]
def v40:V:= .w (.agg [.t (bo false), .t (.ao 1 [[u 100]]), .t (.ao 1 [[u 1]])])
theorem r40:Fn Tryz.prog 364 a40 [] v40 []∧v40.bJ=true:=aN (fuel:=10000) (d:=60) aS k39 (show ej 364=some uf from rfl) (by kernel_rfl)
def l40:List (Nat×List W×V):=(364,a40,v40)::l39
theorem k40:bk Tryz.prog (bi l40):=aH k39 r40
def a41:List W:=[.agg [.t (bo false), .t (.ao 1 []), .t (.ao 1 [[u 1]])], .agg [.t (bo true), .t (.ao 1 [[u 100]]), .t (.ao 1 [[u 1]])]]
def v41:V:= .w (.agg [.t (bo false), .t (.ao 1 [[u 100]]), .t (.ao 1 [[u 1]])])
theorem r41:Fn Tryz.prog 337 a41 [] v41 []∧v41.bJ=true:=aN (fuel:=10000) (d:=60) aS k40 (show ej 337=some uh from rfl) (by kernel_rfl)
def l41:List (Nat×List W×V):=(337,a41,v41)::l40
theorem k41:bk Tryz.prog (bi l41):=aH k40 r41
def a42:List W:=[.one (.t (.ao 1 [[u 100]])), .one (.t (.ao 1 [[u 100]]))]
def v42:V:= .dn [.one (.t (.ao 1 [[u 1]])), .one (.t (.ao 1 [])), .one (.t (bo true))]
theorem r42:Fn Tryz.prog 385 a42 [] v42 []∧v42.bJ=true:=aN (fuel:=10000) (d:=60) aS k41 (show ej 385=some wW from rfl) (by kernel_rfl)
def l42:List (Nat×List W×V):=(385,a42,v42)::l41
theorem k42:bk Tryz.prog (bi l42):=aH k41 r42
def a43:List W:=[.agg [.t (bo false), .t (.ao 1 [[u 100]]), .t (.ao 1 [[u 1]])], .agg [.t (bo false), .t (.ao 1 [[u 100]]), .t (.ao 1 [[u 1]])]]
def v43:V:= .dn [.agg [.t (bo false), .t (.ao 1 [[u 1]]), .t (.ao 1 [[u 1]])], .one (.t (bo true))]
theorem r43:Fn Tryz.prog 332 a43 [] v43 []∧v43.bJ=true:=aN (fuel:=10000) (d:=60) aS k42 (show ej 332=some Gv from rfl) (by kernel_rfl)
def l43:List (Nat×List W×V):=(332,a43,v43)::l42
theorem k43:bk Tryz.prog (bi l43):=aH k42 r43
def a44:List W:=[.agg [.t (bo false), .t (.ao 1 [[u 10]]), .t (.ao 1 [[u 1]])], .agg [.t (bo true), .t (.ao 1 [[u 10]]), .t (.ao 1 [[u 1]])]]
def v44:V:= .w (.agg [.t (bo false), .t (.ao 1 []), .t (.ao 1 [[u 1]])])
theorem r44:Fn Tryz.prog 368 a44 [] v44 []∧v44.bJ=true:=aN (fuel:=10000) (d:=60) aS k43 (show ej 368=some Ax from rfl) (by kernel_rfl)
def l44:List (Nat×List W×V):=(368,a44,v44)::l43
theorem k44:bk Tryz.prog (bi l44):=aH k43 r44
def a45:List W:=[.agg [.t (bo false), .t (.ao 1 []), .t (.ao 1 [[u 1]])]]
def v45:V:= .dn [.one (.t (i 0)), .one (.t (bo true))]
theorem r45:Fn Tryz.prog 336 a45 [] v45 []∧v45.bJ=true:=aN (fuel:=10000) (d:=60) aS k44 (show ej 336=some Gu from rfl) (by kernel_rfl)
def l45:List (Nat×List W×V):=(336,a45,v45)::l44
theorem k45:bk Tryz.prog (bi l45):=aH k44 r45
def a46:List W:=[.agg [.t (bo false), .t (.ao 1 []), .t (.ao 1 [[u 1]]), .t (bo false), .t (.ao 1 []), .t (.ao 1 [[u 1]])]]
def v46:V:= .dn [.agg [.t (i 0), .t (i 0)], .one (.t (i 0))]
theorem r46:Fn Tryz.prog 295 a46 [] v46 []∧v46.bJ=true:=aN (fuel:=10000) (d:=60) aS k45 (show ej 295=some Gx from rfl) (by kernel_rfl)
def l46:List (Nat×List W×V):=(295,a46,v46)::l45
theorem k46:bk Tryz.prog (bi l46):=aH k45 r46
def a47:List W:=[.agg [.t (i 10), .t (i 10)]]
def v47:V:= .w (.agg [.t (bo false), .t (.ao 1 [[u 10]]), .t (.ao 1 [[u 1]]), .t (bo false), .t (.ao 1 [[u 10]]), .t (.ao 1 [[u 1]])])
theorem r47:Fn Tryz.prog 294 a47 [] v47 []∧v47.bJ=true:=aN (fuel:=10000) (d:=60) aS k46 (show ej 294=some wY from rfl) (by kernel_rfl)
def l47:List (Nat×List W×V):=(294,a47,v47)::l46
theorem k47:bk Tryz.prog (bi l47):=aH k46 r47
def a48:List W:=[.agg [.t (bo false), .t (.ao 1 [[u 10]]), .t (.ao 1 [[u 1]])], .agg [.t (bo false), .t (.ao 1 [[u 10]]), .t (.ao 1 [[u 1]])]]
def v48:V:= .w (.agg [.t (bo false), .t (.ao 1 []), .t (.ao 1 [[u 1]])])
theorem r48:Fn Tryz.prog 337 a48 [] v48 []∧v48.bJ=true:=aN (fuel:=10000) (d:=60) aS k47 (show ej 337=some uh from rfl) (by kernel_rfl)
def l48:List (Nat×List W×V):=(337,a48,v48)::l47
theorem k48:bk Tryz.prog (bi l48):=aH k47 r48
def a49:List W:=[.agg [.t (bo false), .t (.ao 1 [[u 10]]), .t (.ao 1 [[u 1]]), .t (bo false), .t (.ao 1 [[u 10]]), .t (.ao 1 [[u 1]])], .agg [.t (bo false), .t (.ao 1 [[u 10]]), .t (.ao 1 [[u 1]]), .t (bo false), .t (.ao 1 []), .t (.ao 1 [[u 1]])]]
def v49:V:= .w (.agg [.t (bo false), .t (.ao 1 []), .t (.ao 1 [[u 1]]), .t (bo false), .t (.ao 1 [[u 10]]), .t (.ao 1 [[u 1]])])
theorem r49:Fn Tryz.prog 296 a49 [] v49 []∧v49.bJ=true:=aN (fuel:=10000) (d:=60) aS k48 (show ej 296=some wX from rfl) (by kernel_rfl)
def l49:List (Nat×List W×V):=(296,a49,v49)::l48
theorem k49:bk Tryz.prog (bi l49):=aH k48 r49
def a50:List W:=[.agg [.t (bo false), .t (.ao 1 [[u 100]]), .t (.ao 1 [[u 1]])], .agg [.t (bo false), .t (.ao 1 []), .t (.ao 1 [[u 1]])]]
def v50:V:= .w (.agg [.t (bo false), .t (.ao 1 [[u 100]]), .t (.ao 1 [[u 1]])])
theorem r50:Fn Tryz.prog 337 a50 [] v50 []∧v50.bJ=true:=aN (fuel:=10000) (d:=60) aS k49 (show ej 337=some uh from rfl) (by kernel_rfl)
def l50:List (Nat×List W×V):=(337,a50,v50)::l49
theorem k50:bk Tryz.prog (bi l50):=aH k49 r50
def a51:List W:=[.agg [.t (bo false), .t (.ao 1 []), .t (.ao 1 [[u 1]]), .t (bo false), .t (.ao 1 [[u 10]]), .t (.ao 1 [[u 1]])], .agg [.t (bo false), .t (.ao 1 [[u 10]]), .t (.ao 1 [[u 1]]), .t (bo false), .t (.ao 1 [[u 10]]), .t (.ao 1 [[u 1]])]]
def v51:V:= .w (.agg [.t (bo true), .t (.ao 1 [[u 10]]), .t (.ao 1 [[u 1]]), .t (bo false), .t (.ao 1 []), .t (.ao 1 [[u 1]])])
theorem r51:Fn Tryz.prog 296 a51 [] v51 []∧v51.bJ=true:=aN (fuel:=10000) (d:=60) aS k50 (show ej 296=some wX from rfl) (by kernel_rfl)
def l51:List (Nat×List W×V):=(296,a51,v51)::l50
theorem k51:bk Tryz.prog (bi l51):=aH k50 r51
def a52:List W:=[.agg [.t (.val (.string ⟨#[115,104,105,114,116]⟩)), .t (.ao 1 [[.val (.string ⟨#[83]⟩)],[.val (.string ⟨#[77]⟩)]]), .t (.ao 1 [[i 0],[i 2]]), .t (.ao 7 [[.val (.string ⟨#[102,114,111,110,116]⟩), .ao 2 [[.val (.string ⟨#[108,111,119]⟩), .ao 2 [[i 0,i 0],[i 10,i 0]]],[.val (.string ⟨#[114,105,103,104,116]⟩), .ao 2 [[i 10,i 0],[i 10,i 10]]],[.val (.string ⟨#[104,105,103,104]⟩), .ao 2 [[i 10,i 10],[i 0,i 10]]],[.val (.string ⟨#[108,101,102,116]⟩), .ao 2 [[i 0,i 10],[i 0,i 0]]]],i 1,nl, .ao 2 [[i 0,i 0],[i 1,i 0],[i 1,i 0],[i 0,i 0]], .ao 1 [[i 0],[i 0],[i 0],[i 0]],bo false]]), .t (.ao 3 [[i 0,i 2,bo true]]), .t (nl), .t (.ao 5 [[.val (.string ⟨#[106,111,105,110]⟩),i 0,i 100,nl, .ao 1 [[i 0]]]])], .one (.t (i 0)), .one (.t (i 0))]
def v52:V:= .dn [.one (.t (.ao 2 [[i 0,i 0],[i 10,i 0],[i 10,i 10],[i 0,i 10]])), .one (.t (i 0))]
theorem r52:Fn Tryz.prog 148 a52 [] v52 []∧v52.bJ=true:=aN (fuel:=10000) (d:=60) aS k51 (show ej 148=some GC from rfl) (by kernel_rfl)
def l52:List (Nat×List W×V):=(148,a52,v52)::l51
theorem k52:bk Tryz.prog (bi l52):=aH k51 r52
def a53:List W:=[.one (.t (.ao 5 [[.ao 2 [[i 0,i 0],[i 10,i 0],[i 10,i 10],[i 0,i 10]],i 1,bo false,i 0,i 0],[.ao 2 [[i 0,i 10],[i (-10),i 10],[i (-10),i 0],[i 0,i 0]],i 1,bo false,i 0,i 0]])), .agg [.t (i 0), .t (bo false), .t (i 0), .t (i 0), .t (i 0)]]
def v53:V:= .dn [.one (.t (.ao 2 [[i 0,i 0],[i 10,i 0],[i 10,i 10],[i 0,i 10]])), .one (.t (i 0))]
theorem r53:Fn Tryz.prog 48 a53 [] v53 []∧v53.bJ=true:=aN (fuel:=10000) (d:=60) aS k52 (show ej 48=some OJ from rfl) (by kernel_rfl)
def l53:List (Nat×List W×V):=(48,a53,v53)::l52
theorem k53:bk Tryz.prog (bi l53):=aH k52 r53
def a54:List W:=[.one (.t (.ao 2 [[i 20,i 10],[i 10,i 10],[i 10,i 0],[i 20,i 0]]))]
def v54:V:= .w (.one (.t (i 0)))
theorem r54:Fn Tryz.prog 72 a54 [] v54 []∧v54.bJ=true:=aN (fuel:=10000) (d:=60) aS k53 (show ej 72=some I6 from rfl) (by kernel_rfl)
def l54:List (Nat×List W×V):=(72,a54,v54)::l53
theorem k54:bk Tryz.prog (bi l54):=aH k53 r54
def a55:List W:=[.agg [.t (.val (.string ⟨#[115,104,105,114,116]⟩)), .t (.ao 1 [[.val (.string ⟨#[83]⟩)],[.val (.string ⟨#[77]⟩)]]), .t (.ao 1 [[i 0],[i 2]]), .t (.ao 7 [[.val (.string ⟨#[102,114,111,110,116]⟩), .ao 2 [[.val (.string ⟨#[108,111,119]⟩), .ao 2 [[i 0,i 0],[i 10,i 0]]],[.val (.string ⟨#[114,105,103,104,116]⟩), .ao 2 [[i 10,i 0],[i 10,i 10]]],[.val (.string ⟨#[104,105,103,104]⟩), .ao 2 [[i 10,i 10],[i 0,i 10]]],[.val (.string ⟨#[108,101,102,116]⟩), .ao 2 [[i 0,i 10],[i 0,i 0]]]],i 1,nl, .ao 2 [[i 0,i 0],[i 1,i 0],[i 1,i 0],[i 0,i 0]], .ao 1 [[i 0],[i 0],[i 0],[i 0]],bo false]]), .t (.ao 3 [[i 0,i 2,bo true]]), .t (nl), .t (.ao 5 [[.val (.string ⟨#[106,111,105,110]⟩),i 0,i 100,nl, .ao 1 [[i 0]]]])], .agg [.t (i 20), .t (i 10), .t (i 0), .t (i 0), .t (.ao 1 [[i 0]]), .t (.ao 7 [[i 0,i 0,i 0,bo false,i 0,i 0,i 0],[i 0,i 0,i 1,bo true,i 0,i 20,i 0]])]]
def v55:V:= .w (.one (.t (i 0)))
theorem r55:Fn Tryz.prog 40 a55 [] v55 []∧v55.bJ=true:=aN (fuel:=10000) (d:=60) aS k54 (show ej 40=some OL from rfl) (by kernel_rfl)
def l55:List (Nat×List W×V):=(40,a55,v55)::l54
theorem k55:bk Tryz.prog (bi l55):=aH k54 r55
def a56:List W:=[.agg [.t (.val (.string ⟨#[115,104,105,114,116]⟩)), .t (.ao 1 [[.val (.string ⟨#[83]⟩)],[.val (.string ⟨#[77]⟩)]]), .t (.ao 1 [[i 0],[i 2]]), .t (.ao 7 [[.val (.string ⟨#[102,114,111,110,116]⟩), .ao 2 [[.val (.string ⟨#[108,111,119]⟩), .ao 2 [[i 0,i 0],[i 10,i 0]]],[.val (.string ⟨#[114,105,103,104,116]⟩), .ao 2 [[i 10,i 0],[i 10,i 10]]],[.val (.string ⟨#[104,105,103,104]⟩), .ao 2 [[i 10,i 10],[i 0,i 10]]],[.val (.string ⟨#[108,101,102,116]⟩), .ao 2 [[i 0,i 10],[i 0,i 0]]]],i 1,nl, .ao 2 [[i 0,i 0],[i 1,i 0],[i 1,i 0],[i 0,i 0]], .ao 1 [[i 0],[i 0],[i 0],[i 0]],bo false]]), .t (.ao 3 [[i 0,i 2,bo true]]), .t (nl), .t (.ao 5 [[.val (.string ⟨#[106,111,105,110]⟩),i 0,i 100,nl, .ao 1 [[i 0]]]])], .agg [.t (i 20), .t (i 10), .t (i 0), .t (i 0), .t (.ao 1 [[i 0]]), .t (.ao 7 [[i 0,i 0,i 0,bo false,i 0,i 0,i 0],[i 0,i 0,i 1,bo true,i 0,i 20,i 0]]), .t (.ao 2 [[i 0, .ao 4 [[i 0,i 0,i 20,i 0]]],[i 1, .ao 4 [[i 1,i 0,i 20,i 0]]]])], .one (.t (.ao 6 [[i 1,i 0,i 0,i 0,i 0,i 1],[i 2,i 0,i 0,i 1,i 1,i 2]])), .one (.t (.ao 6 [[i 0,i 0,i 0,i 0, .ao 1 [[i 0]],bo false],[i 0,i 1,i 0,i 0, .ao 1 [[i 0]],bo false],[i 1,i 0,i 1,i 0, .ao 1 [[i 1]],bo false],[i 1,i 1,i 1,i 0, .ao 1 [[i 1]],bo false]]))]
def v56:V:= .w (.one (.t (i 0)))
theorem r56:Fn Tryz.prog 28 a56 [] v56 []∧v56.bJ=true:=aN (fuel:=10000) (d:=60) aS k55 (show ej 28=some ON from rfl) (by kernel_rfl)
def l56:List (Nat×List W×V):=(28,a56,v56)::l55
theorem k56:bk Tryz.prog (bi l56):=aH k55 r56
def a57:List W:=[]
def v57:V:= .w (.one (.t (bo true)))
theorem r57:Fn Tryz.prog 13 a57 [] v57 []∧v57.bJ=true:=aN (fuel:=10000) (d:=60) aS k56 (show ej 13=some OO from rfl) (by kernel_rfl)
end Go.aU.Cd
end
