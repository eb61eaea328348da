import Derived.Test.YtcaeamnhfodfoaaGreatME
import Derived.Test.YtcaeamnhfodfoaaGreatRows
import Derived.ProofKit
set_option linter.all false
section
namespace Go.aR.Cd
open Go Go.Proofs
set_option maxRecDepth 100000
set_option maxHeartbeats 2000000
variable [EI]
def c4:Rc:=Sq (Rg [Bx 1 0,Mb 2 false]) (Sq (Sq (Rg [Lo 16 13 1,p 14 (.call 8 [t 13]),Nt 15 14]) (Cn 15 (Sq (Rg [p 16 (.call 9 []),Mv 2 16]) Rt) Sk)) (Sq (Rg [Lo 16 18 1,p 19 (.call 10 [t 18]),Mv 17 19,Et 20 17 0,Et 21 17 1,Mv 3 20,Mv 4 21]) (Sq (Sq (Rg [Mv 22 4,Bi 23 .neq 22 0]) (Cn 23 (Sq (Rg [p 24 (.call 9 []),Mv 2 24]) Rt) Sk)) (Sq (Rg [Mk 5 0]) (Sq (Sq (Rg [Mk 6 0]) (Bk 0 (Lp (Sq (Sq (Rg [Mv 25 6,Mv 26 3,Le 27 26,Bt 28 .lss 25 27]) (Cn 28 Sk (Ex 0))) (Sq (Bk 1 (Sq (Rg [Mv 31 3,Mv 32 6,Ia 33 6 31 32,Fa 34 5 33,Ld 35 34,Nt 36 35]) (Cn 36 (Rg [Mv 37 5,Bi 38 .add 37 1,Mv 5 38]) Sk))) (Rg [Mv 29 6,Bi 30 .add 29 1,Mv 6 30])))))) (Sq (Rg [Mk 7 0]) (Sq (Sq (Rg [Mk 8 0]) (Bk 2 (Lp (Sq (Sq (Rg [Mv 39 8,Fa 40 0 1,Fa 41 1 40,Ld 42 41,Le 43 42,Bt 44 .lss 39 43]) (Cn 44 Sk (Ex 2))) (Sq (Bk 3 (Sq (Rg [Mk 9 0]) (Sq (Sq (Rg [Mk 10 0]) (Bk 4 (Lp (Sq (Sq (Rg [Mv 47 10,Fa 48 7 1,Fa 49 0 48,Fa 50 5 49,Ld 51 50,Le 52 51,Bt 53 .lss 47 52]) (Cn 53 Sk (Ex 4))) (Sq (Bk 5 (Sq (Rg [Fa 56 7 1,Fa 57 0 56,Fa 58 5 57,Ld 59 58,Mv 60 10,Ia 61 7 59 60,Fa 62 0 61,Ld 63 62,Mv 11 63]) (Sq (Sq (Rg [Mv 64 11,Bi 65 .lss 64 0,Mv 66 65,Ga 66 (Mv 67 11),Ga 66 (Fa 68 7 1),Ga 66 (Fa 69 0 68),Ga 66 (Fa 70 4 69),Ga 66 (Ld 71 70),Ga 66 (Le 72 71),Ga 66 (Bt 73 .geq 67 72),Pt 74 66 73]) (Cn 74 (Sq (Rg [Mb 2 false]) Rt) Sk)) (Sq (Rg [Fa 75 7 1,Fa 76 0 75,Fa 77 4 76,Ld 78 77,Mv 79 11,Ia 80 1 78 79,Ld 81 80,Mv 82 8,Bt 83 .eql 81 82]) (Cn 83 (Rg [Mv 84 9,Bi 85 .add 84 1,Mv 9 85]) Sk))))) (Rg [Mv 54 10,Bi 55 .add 54 1,Mv 10 55])))))) (Sq (Rg [Mv 86 3,Mv 87 8,p 88 (.call 13 [t 86,t 87]),Mv 12 88]) (Sq (Sq (Rg [Mv 89 12,Bi 90 .lss 89 0,Mv 91 90,Ga 91 (Mv 92 12),Ga 91 (Mv 93 9),Ga 91 (Fa 94 7 1),Ga 91 (Fa 95 6 94),Ga 91 (Ld 96 95),Ga 91 (Le 97 96),Ga 91 (Bt 98 .mul 93 97),Ga 91 (Bt 99 .gtr 92 98),Pt 100 91 99]) (Cn 100 (Sq (Rg [Mb 2 false]) Rt) Sk)) (Rg [Mv 101 7,Mv 102 12,Bt 103 .add 101 102,Mv 7 103])))))) (Rg [Mv 45 8,Bi 46 .add 45 1,Mv 8 46])))))) (Sq (Rg [Mv 104 7,Mv 105 5,Bt 106 .eql 104 105,Mv 107 106,Gb 107 (Mv 108 3),Gb 107 (p 109 (.call 13 [t 108,(k (-1))])),Gb 107 (Bi 110 .eql 109 0),Pf 111 107 110,Mv 112 111,Gb 112 (p 113 (.call 9 [])),Pf 114 112 113,Mv 2 114]) Rt))))))))
theorem ck4:ae Tryz.prog (Tryz.f4.body.getD .skip)=some c4:=by kernel_rfl
theorem bk4:Tryz.f4.body=some (Tryz.f4.body.getD .skip):=rfl
def O7 (row:List T) (aZ:Lz) (m:Nat) (vs:List V) (xss:List (Lz)):Prop:= ∃ (i:Nat) (n:Int),i≤aZ.length∧m=aZ.length - i∧vs=[iV .i64 n,iV .i64 (i:Int)]∧n=((aZ.take i).countP EN:Int)∧xss=[[row]]
theorem CM {aZ:Lz} {i:Nat} {e:List T} (hs:aZ[((i:Int)).toNat]? =some e):(aZ.take (i+1)).countP EN=(aZ.take i).countP EN+if EN e=true then 1 else 0:=by
 have hs':aZ[i]? =some e:=by simpa using hs
 rw[List.take_add_one,hs',List.countP_append]
 simp[List.countP_cons]
theorem O7.hit {row:List T} {p q l s:Int} {x:T} {d:Bool} {aZ:Lz} {i:Nat} {n:Int} (hi:(i:Int) < (aZ.length:Int)) (hl:aZ.length≤1000000) (hn:n=((aZ.take i).countP EN:Int)) (hs:aZ[((i:Int)).toNat]? =some [tI p,tI q,tI l,tI s,x,tB d]) (h2:(!d)=true):O7 row aZ (aZ.length - (i+1)) [iV .i64 (IntKind.i64.wrap (n+1)),iV .i64 (IntKind.i64.wrap ((i:Int)+1))] [[row]]:=by
 have hb:(aZ.take i).countP EN≤i:=Nat.le_trans List.countP_le_length (by rw[List.length_take];omega)
 refine⟨i+1,n+1,by omega,rfl,by rw[bp (by omega) (by omega),bp (by omega) (by omega)];rfl,?_,rfl⟩
 rw[CM hs,if_pos (show EN [tI p,tI q,tI l,tI s,x,tB d]=true from h2),hn]
 rfl
theorem O7.eu {row:List T} {p q l s:Int} {x:T} {d:Bool} {aZ:Lz} {i:Nat} {n:Int} (hi:(i:Int) < (aZ.length:Int)) (hl:aZ.length≤1000000) (hn:n=((aZ.take i).countP EN:Int)) (hs:aZ[((i:Int)).toNat]? =some [tI p,tI q,tI l,tI s,x,tB d]) (h2:(!d)=false):O7 row aZ (aZ.length - (i+1)) [iV .i64 n,iV .i64 (IntKind.i64.wrap ((i:Int)+1))] [[row]]:=by
 refine⟨i+1,n,by omega,rfl,by rw[bp (by omega) (by omega)];rfl,?_,rfl⟩
 rw[CM hs,if_neg (show ¬EN [tI p,tI q,tI l,tI s,x,tB d]=true by show ¬ (!d)=true;rw[h2];simp),hn]
 rfl
def rz (row:List T) (aZ:Lz) (N:Nat) (m:Nat) (vs:List V) (xss:List (Lz)):Prop:= ∃ (s:Nat) (n:Int),s≤N∧m=N - s∧vs=[iV .i64 n,iV .i64 (s:Int)]∧n=(aZ.countP (CO (s:Int)):Int)∧xss=[[row]]
theorem rz.next {row:List T} {aZ:Lz} {N s:Nat} {n:Int} (hs:(s:Int) < (N:Int)) (hN:N≤maxLen) (hl:aZ.length≤1000000) (hn:n=(aZ.countP (CO (s:Int)):Int)):rz row aZ N (N - (s+1)) [iV .i64 (IntKind.i64.wrap (n+(aZ.countP (tq (s:Int)):Int))),iV .i64 (IntKind.i64.wrap ((s:Int)+1))] [[row]]:=by
 simp only[maxLen]at hN
 have h1:=List.countP_le_length (p:=CO ((s:Int)+1)) (l:=aZ)
 have h2:=lt_succ aZ s
 refine⟨s+1,n+(aZ.countP (tq (s:Int)):Int),by omega,rfl,by rw[bp (by omega) (by omega),bp (by omega) (by omega)];rfl,?_,rfl⟩
 rw[show(((s+1:Nat):Int))=(s:Int)+1 from rfl,h2,hn]
 rfl
def O8 (row:List T) (sizes places:Lz) (s:Int) (m:Nat) (vs:List V) (xss:List (Lz)):Prop:= ∃ (k:Nat) (n:Int),k≤places.length∧m=places.length - k∧vs=[iV .i64 n,iV .i64 (k:Int)]∧n=((places.take k).countP (Be sizes s):Int)∧xss=[[row]]
theorem CC {sizes places:Lz} {s:Int} {k:Nat} {e:List T} (hs:places[((k:Int)).toNat]? =some e):(places.take (k+1)).countP (Be sizes s)=(places.take k).countP (Be sizes s)+if Be sizes s e=true then 1 else 0:=by
 have hs':places[k]? =some e:=by simpa using hs
 rw[List.take_add_one,hs',List.countP_append]
 simp[List.countP_cons]
theorem O8.hit {row r:List T} {sizes places:Lz} {s n g a:Int} {k:Nat} (hk:(k:Int) < (places.length:Int)) (hl:places.length≤1000000) (hn:n=((places.take k).countP (Be sizes s):Int)) (hs:places[((k:Int)).toNat]? =some (tI g::r)) (h1:sizes[g.toNat]? =some [tI a]) (h2:a=s):O8 row sizes places s (places.length - (k+1)) [iV .i64 (IntKind.i64.wrap (n+1)),iV .i64 (IntKind.i64.wrap ((k:Int)+1))] [[row]]:=by
 have hb:(places.take k).countP (Be sizes s)≤k:=Nat.le_trans List.countP_le_length (by rw[List.length_take];omega)
 refine⟨k+1,n+1,by omega,rfl,by rw[bp (by omega) (by omega),bp (by omega) (by omega)];rfl,?_,rfl⟩
 rw[CC hs,if_pos (by
  simp only[Be,decide_eq_true_eq]
  show nI 0 (ou sizes g)=s
  rw[kS h1]
  exact h2),hn]
 rfl
theorem O8.eu {row r:List T} {sizes places:Lz} {s n g a:Int} {k:Nat} (hk:(k:Int) < (places.length:Int)) (hl:places.length≤1000000) (hn:n=((places.take k).countP (Be sizes s):Int)) (hs:places[((k:Int)).toNat]? =some (tI g::r)) (h1:sizes[g.toNat]? =some [tI a]) (h2:¬a=s):O8 row sizes places s (places.length - (k+1)) [iV .i64 n,iV .i64 (IntKind.i64.wrap ((k:Int)+1))] [[row]]:=by
 refine⟨k+1,n,by omega,rfl,by rw[bp (by omega) (by omega)];rfl,?_,rfl⟩
 rw[CC hs,if_neg (by
  simp only[Be,decide_eq_true_eq]
  show ¬nI 0 (ou sizes g)=s
  rw[kS h1]
  exact h2),hn]
 rfl
structure CtK (M:Nat) (sizes places ak plies aZ:Lz):Prop where
 cx: ∀e,e∈aZ→PI e
 len:aZ.length≤1000000
 lo: ∀c,c∈aZ→0≤nI 3 c
 hi: ∀c,c∈aZ→nI 3 c < (M:Int)
 ga:Bb sizes.length places
 le: ∀s:Int,(aZ.countP (tq s):Int)≤((plies.length * places.countP (Be sizes s):Nat):Int)
theorem OJ {M:Nat} {rolls sizes places ak plies aZ:Lz} (h:aZ=eb rolls sizes places ak plies plies.length) (hA:Bd sizes places M ak) (hq:places.length≤20) (hp:plies.length≤12):CtK M sizes places ak plies aZ:=by
 subst h
 have hr:=GS (rolls:=rolls) (plies:=plies) (n:=plies.length) hA.2.2.1 hA.2.2.2.1 hA.2.1
 refine⟨I9,?_,fun c hc=>(hr c hc).1,fun c hc=>(hr c hc).2,hA.2.2.1,fun s=>by have:=GW rolls sizes places ak plies s hA.2.1 plies.length;omega⟩
 rw[AS]
 have:plies.length * ak.length≤12 * 20:=Nat.mul_le_mul hp (by have:=hA.2.1;omega)
 omega
theorem alA {sizes places plies aZ ak:Lz} {M k:Nat} {s n c:Int} (hK:CtK M sizes places ak plies aZ) (hq:places.length≤20) (hp:plies.length≤12) (hk:places.length≤k) (hn:n=((places.take k).countP (Be sizes s):Int)) (hc:c=(aZ.countP (tq s):Int)) (h:c < 0∨c > IntKind.i64.wrap (n * (plies.length:Int))):False:=by
 rw[List.take_of_length_le hk]at hn
 have h1:=hK.le s
 have h2:places.countP (Be sizes s)≤20:=Nat.le_trans List.countP_le_length hq
 rw[hn,Iu h2 hp]at h
 omega
theorem Nb {aZ:Lz} {M s i:Nat} {n w:Int} (hi: ∀c,c∈aZ→nI 3 c < (M:Int)) (hs:s≤M) (bY:M≤s) (hn:n=(aZ.countP (CO (s:Int)):Int)) (hw:w=((aZ.take i).countP EN:Int)) (hi2:aZ.length≤i):n=w:=by
 have e:s=M:=by omega
 subst e
 rw[hn,hw,NO hi,List.take_of_length_le hi2]
theorem jt (sn:ByteArray) (bB ms ps us ss os:Lz) (ln wd rx ry:Int) (sizes places plies rolls aU:Lz) (hC:JN sn bB ms ps us ss os sizes places plies rolls aU) (FY:bB.length≤maxLen) (ha:Cr):Tg 4 [oCt sn bB ms ps us ss os ln wd rx ry sizes places plies rolls aU] GTr:=by
 refine ag (n:=115) (rs:=[.tmp 2]) Tryz.func4 bk4 ck4 rfl rfl (by simp) ?_
 repeat' (conv=>whnf
          first
  |(refine aA (fun h=>?_) (fun h=>?_))
  |(refine cH (fun h=>?_) (fun h=>?_))
  |(refine bj (fun h=>?_) (fun h=>?_))
  |(refine au (fun h=>?_) (fun h=>?_))
  |(have hF:=hb (pM (by assumption));have hK:=OJ (BU (by assumption)).1 (BU (by assumption)).2 hF.q hF.f.p;clear BU)
  |(refine aB (xs:=aZ) hK.cx (by omega) (by omega) ?_;rintro _ ⟨p,q,l,s,x,d,rfl⟩ hs)
  |(refine aB (xs:=places) hC.hp (by omega) (by omega) ?_;rintro _ ⟨g,u,kk,f,qq,x2,y2,rfl⟩ bY;have hga:=BZ hK.ga bY)
  |(refine aB (xs:=sizes) hC.hz (by omega) (by omega) ?_;rintro _ ⟨sz,rfl⟩ D9)
  |(refine bF (by omega) (by omega) ?_;intro bb)
  |(refine bi (by omega) (by omega) ?_)
  |(refine And.intro (by kernel_rfl) ?_)
  |(refine And.intro (by omega) ?_)
  |(refine ah rfl (kM sn bB ms ps us ss os hC.QV ln wd rx ry sizes places plies rolls aU hC.hy hC.jC hC.hR hC.vQ) ?_;rintro _ ⟨b,rfl,hb⟩)
  |(refine ai rfl (kM sn bB ms ps us ss os hC.QV ln wd rx ry sizes places plies rolls aU hC.hy hC.jC hC.hR hC.vQ) ?_;rintro _ ⟨b,rfl,hb⟩)
  |(refine ah rfl (ha) ?_;rintro _ rfl)
  |(refine ai rfl (ha) ?_;rintro _ rfl)
  |(refine ah rfl (xF sn bB ms ps us ss os ln wd rx ry sizes places plies rolls aU hC (hb (pM (by assumption)))) ?_;rintro _ ⟨aZ,e,rfl,he1,BU⟩)
  |(refine ai rfl (xF sn bB ms ps us ss os ln wd rx ry sizes places plies rolls aU hC (hb (pM (by assumption)))) ?_;rintro _ ⟨aZ,e,rfl,he1,BU⟩)
  |(refine ah rfl (ot aZ hK.cx hK.len _) ?_;rintro _ ⟨cn,rfl,SC⟩)
  |(refine ai rfl (ot aZ hK.cx hK.len _) ?_;rintro _ ⟨cn,rfl,SC⟩)
  |exact g1 rfl rfl rfl
  |(exfalso;omega)
  |(exfalso;exact alA hK hF.q hF.f.p (by omega) hnp SC (by omega))
  |(exfalso;have h9:=Nb hK.hi hs0 (by omega) hsm hwh (by omega);omega)
  |(exfalso;have h9:=OL hK.lo;omega)
  |(apply bz [1,3,5,7,8,9,10] [] [9,10] [(4,16)] (O8 (ET sn bB ms ps us ss os ln wd rx ry sizes places plies rolls aU) sizes places (s:Int)) (places.length) [iV .i64 0,iV .i64 0];(conv=>whnf);exact⟨rfl,rfl,rfl,rfl⟩;exact rfl;exact rfl;exact .cons (aC.av (xs:=[ET sn bB ms ps us ss os ln wd rx ry sizes places plies rolls aU]) rfl _) .nil;exact⟨0,0,by omega,rfl,rfl,by simp,rfl⟩;rintro _ _ _ ⟨k,np,hk,rfl,rfl,hnp,rfl⟩)
  |(refine aq [1,3,5,7,8,9,10] [] ?_;(conv=>whnf);first|exact⟨rfl,_,[_,_],_, .cons (aC.av (xs:=[ET sn bB ms ps us ss os ln wd rx ry sizes places plies rolls aU]) rfl _) .nil,O8.hit (by omega) (by have:=hF.q;omega) hnp bY D9 (by omega),rfl,rfl,by omega⟩|exact⟨rfl,_,[_,_],_, .cons (aC.av (xs:=[ET sn bB ms ps us ss os ln wd rx ry sizes places plies rolls aU]) rfl _) .nil,O8.eu (by omega) (by have:=hF.q;omega) hnp bY D9 (by omega),rfl,rfl,by omega⟩)
  |(apply bz [1,3,5,7,8] [] [7,8] [(4,16)] (rz (ET sn bB ms ps us ss os ln wd rx ry sizes places plies rolls aU) aZ bB.length) (bB.length) [iV .i64 0,iV .i64 0];(conv=>whnf);exact⟨rfl,rfl,rfl,rfl⟩;exact rfl;exact rfl;exact .cons (aC.av (xs:=[ET sn bB ms ps us ss os ln wd rx ry sizes places plies rolls aU]) rfl _) .nil;exact⟨0,0,by omega,rfl,rfl,by rw[show((0:Nat):Int)=0 from rfl,Iv hK.lo];rfl,rfl⟩;rintro _ _ _ ⟨s,sm,hs0,rfl,rfl,hsm,rfl⟩)
  |(refine aq [1,3,5,7,8] [] ?_;(conv=>whnf);exact⟨rfl,_,[_,_],_, .cons (aC.av (xs:=[ET sn bB ms ps us ss os ln wd rx ry sizes places plies rolls aU]) rfl _) .nil,(by subst SC;exact rz.next (by omega) FY hK.len hsm),rfl,rfl,by omega⟩)
  |(apply bz [1,3,5,6] [] [5,6] [(4,16)] (O7 (ET sn bB ms ps us ss os ln wd rx ry sizes places plies rolls aU) aZ) (aZ.length) [iV .i64 0,iV .i64 0];(conv=>whnf);exact⟨rfl,rfl,rfl,rfl⟩;exact rfl;exact rfl;exact .cons (aC.av (xs:=[ET sn bB ms ps us ss os ln wd rx ry sizes places plies rolls aU]) rfl _) .nil;exact⟨0,0,by omega,rfl,rfl,by simp,rfl⟩;rintro _ _ _ ⟨i,wh,hi,rfl,rfl,hwh,rfl⟩)
  |(refine aq [1,3,5,6] [] ?_;(conv=>whnf);first|exact⟨rfl,_,[_,_],_, .cons (aC.av (xs:=[ET sn bB ms ps us ss os ln wd rx ry sizes places plies rolls aU]) rfl _) .nil,O7.hit (by omega) hK.len hwh hs (by assumption),rfl,rfl,by omega⟩|exact⟨rfl,_,[_,_],_, .cons (aC.av (xs:=[ET sn bB ms ps us ss os ln wd rx ry sizes places plies rolls aU]) rfl _) .nil,O7.eu (by omega) hK.len hwh hs (by assumption),rfl,rfl,by omega⟩)
  |(exfalso;omega))
 all_goals (conv=>whnf)
theorem pS (hw:Cr) {x:List T} (h:iJ OI x):Fn Tryz.prog 4 [.agg (x.map .t)] [] (bV true) []:=by
 obtain⟨sn,bB,ms,ps,us,ss,os,ln,wd,rx,ry,sizes,places,plies,rolls,aU,rfl,hC,FY⟩:=V0 h
 obtain⟨ts,f,_,rfl⟩:=jt sn bB ms ps us ss os ln wd rx ry sizes places plies rolls aU hC FY hw
 exact f
end Go.aR.Cd
end
section
namespace Go.aR.Cd
open Go Go.Proofs
set_option maxRecDepth 100000
theorem bH {n:Nat} {fr:bq} {fn:Func} {c:Code} (h:Tryz.prog.funcs[n]? =some fn) (h1:fn.body=some c:=by rfl) (h2:ae Tryz.prog c=some fr.code:=by kernel_rfl) (h3:fn.ntmps=fr.n:=by rfl) (h4:eS Tryz.prog fn.results.toList=some fr.res:=by kernel_rfl) (h5:fS fr.n fr.code=true:=by kernel_rfl):aL Tryz.prog n fr:=⟨fn,c,h,h1,h2,h3,h4,h5⟩
def fr9:bq:=⟨134,(Sq (Rg [Mb 0 false]) (Sq (Rg [p 12 (.call 27 []),p 1 (.alloc [.t (.val (.string ⟨#[]⟩)),zn,zn,zn,zn,zn,zn,zi,zi,zi,zi,zn,zn,zn,zn,zn]),So 16 1 12]) (Sq (Rg [Fa 14 0 1,Lo 7 15 14,Fa 16 7 1,Lo 7 17 16,Fa 18 14 1,Ld 19 18,Fa 20 15 1,Ld 21 20,p 22 (.call 22 [t 15,t 17,t 19,t 21]),Mv 13 22,Et 23 13 0,Et 24 13 1,Mv 2 23,Mv 3 24]) (Sq (Rg [p 25 (.aY [zi] 1 [(0,(k 2))]),p 26 (.build [zi,zi,zi,zi,zn,zb] [(2,1,(k 1)),(3,1,(k 1)),(4,1,t 25)]),p 27 (.aY [zi] 1 [(0,(k 2))]),p 28 (.build [zi,zi,zi,zi,zn,zb] [(1,1,(k 1)),(2,1,(k 1)),(3,1,(k 1)),(4,1,t 27),(5,1,(kb true))]),p 4 (.alloc [zi,zi,zi,zi,zn,zb]),p 5 (.alloc [zi,zi,zi,zi,zn,zb]),So 6 4 26,So 6 5 28]) (Sq (Rg [Lo 6 29 5,p 6 (.alloc [zi,zi,zi,zi,zn,zb]),So 6 6 29]) (Sq (Rg [Fa 30 2 6,q (.store 1 (t 30) (k 0))]) (Sq (Sq (Rg [Mv 31 3,Bi 32 .neq 31 0,Mv 33 32,Ga 33 (Mv 34 2),Ga 33 (Lo 6 35 4),Ga 33 (Lo 6 36 5),Ga 33 (p 37 (.aY [zi,zi,zi,zi,zn,zb] 2 [(0,t 35),(1,t 36)])),Ga 33 (p 38 (.call 28 [t 34,t 37])),Ga 33 (Nt 39 38),Pt 40 33 39,Mv 41 40,Ga 41 (Mv 42 2),Ga 41 (p 43 (.call 13 [t 42,(k 1)])),Ga 41 (Bi 44 .neq 43 1),Pt 45 41 44,Mv 46 45,Ga 46 (Mv 47 2),Ga 46 (p 48 (.call 13 [t 47,(k 0)])),Ga 46 (Bi 49 .neq 48 0),Pt 50 46 49]) (Cn 50 (Sq (Rg [Mb 0 false]) Rt) Sk)) (Sq (Rg [Fa 51 0 1,Lo 7 52 51,Fa 53 7 1,Lo 7 54 53,Fa 55 14 1,Ld 56 55,Fa 57 15 1,Ld 58 57,Lo 6 59 4,p 60 (.aY [zi,zi,zi,zi,zn,zb] 1 [(0,t 59)]),p 61 (.call 12 [t 52,t 54,t 56,t 58,t 60]),Mv 7 61]) (Sq (Rg [Fa 62 0 1,Lo 7 63 62,Fa 64 7 1,Lo 7 65 64,Fa 66 14 1,Ld 67 66,Fa 68 15 1,Ld 69 68,Lo 6 70 4,Lo 6 71 4,p 72 (.aY [zi,zi,zi,zi,zn,zb] 2 [(0,t 70),(1,t 71)]),p 73 (.call 12 [t 63,t 65,t 67,t 69,t 72]),Mv 8 73]) (Sq (Rg [Fa 74 0 1,Lo 7 75 74,Fa 76 7 1,Lo 7 77 76,Fa 78 14 1,Ld 79 78,Fa 80 15 1,Ld 81 80,Lo 6 82 4,Lo 6 83 6,p 84 (.aY [zi,zi,zi,zi,zn,zb] 2 [(0,t 82),(1,t 83)]),p 85 (.call 12 [t 75,t 77,t 79,t 81,t 84]),Mv 9 85]) (Sq (Rg [p 86 (.build [.t (.val (.string ⟨#[]⟩)),zn,zn,zn,zn,zn,zn] []),Fa 87 7 1,Lo 7 88 87,Fa 89 14 1,Ld 90 89,Fa 91 15 1,Ld 92 91,p 93 (.call 12 [t 86,t 88,t 90,t 92,kn]),Mv 10 93]) (Sq (Rg [Fa 94 0 1,Lo 7 95 94,Fa 96 7 1,Lo 7 97 96,Fa 98 14 1,Ld 99 98,Fa 100 15 1,Ld 101 100,Lo 6 102 5,Lo 6 103 4,p 104 (.aY [zi,zi,zi,zi,zn,zb] 2 [(0,t 102),(1,t 103)]),p 105 (.call 12 [t 95,t 97,t 99,t 101,t 104]),Mv 11 105]) (Sq (Rg [Mv 106 7,p 107 (.build [zi,zi,zi] [(0,1,(k 2)),(2,1,(k 1))]),p 108 (.aY [zi,zi,zi] 1 [(0,t 107)]),p 109 (.call 11 [t 106,t 108]),Mv 110 109,Gb 110 (Mv 111 8),Gb 110 (p 112 (.build [zi,zi,zi] [(0,1,(k 2)),(2,1,(k 1))])),Gb 110 (p 113 (.build [zi,zi,zi] [(0,1,(k 3)),(1,1,(k 1))])),Gb 110 (p 114 (.aY [zi,zi,zi] 2 [(0,t 112),(1,t 113)])),Gb 110 (p 115 (.call 11 [t 111,t 114])),Pf 116 110 115,Mv 117 116,Gb 117 (Mv 118 9),Gb 117 (p 119 (.build [zi,zi,zi] [(0,1,(k 1)),(1,1,(k 1)),(2,1,(k 1))])),Gb 117 (p 120 (.aY [zi,zi,zi] 1 [(0,t 119)])),Gb 117 (p 121 (.call 11 [t 118,t 120])),Pf 122 117 121,Mv 123 122,Gb 123 (Mv 124 10),Gb 123 (p 125 (.build [zi,zi,zi] [(0,1,(k 9)),(1,1,(k 1))])),Gb 123 (p 126 (.aY [zi,zi,zi] 1 [(0,t 125)])),Gb 123 (p 127 (.call 11 [t 124,t 126])),Pf 128 123 127,Mv 129 128,Gb 129 (Mv 130 11),Gb 129 (Le 131 130),Gb 129 (Bi 132 .eql 131 0),Pf 133 129 132,Mv 0 133]) Rt))))))))))))),[.tmp 0],true,false⟩
theorem fk9:aL Tryz.prog 9 fr9:=bH Tryz.func9
def TU:bq:=⟨26,(Sq (Rg [Mb 4 false]) (Sq (Sq (Rg [Mv 6 0,Le 7 6,Mv 8 1,Le 9 8,Bt 10 .neq 7 9]) (Cn 10 (Sq (Rg [Mb 4 false]) Rt) Sk)) (Sq (Sq (Rg [Mk 5 0]) (Bk 0 (Lp (Sq (Sq (Rg [Mv 11 5,Mv 12 0,Le 13 12,Bt 14 .lss 11 13]) (Cn 14 Sk (Ex 0))) (Sq (Bk 1 (Sq (Dr [Mv 17 0,Mv 18 5,Ia 19 3 17 18,Lo 3 20 19,Mv 21 1,Mv 22 5,Ia 23 3 21 22,Lo 3 24 23,p 25 (.AO true [0,0,0] (t 20) (t 24))] [[],[],[0,1],[2],[],[],[4,5],[6],[3,7]]) (Cn 25 (Sq (Rg [Mb 4 false]) Rt) Sk))) (Rg [Mv 15 5,Bi 16 .add 15 1,Mv 5 16])))))) (Sq (Rg [Mb 4 true]) Rt)))),[.tmp 4],true,false⟩
theorem arF:aL Tryz.prog 11 TU:=bH Tryz.func11
def TR:bq:=⟨155,(Sq (Rg [Bx 5 0,Bx 6 1,Mn 10]) (Sq (Rg [Lo 7 32 5,Lo 7 33 6,Mv 34 2,Mv 35 3,p 36 (.call 22 [t 32,t 33,t 34,t 35]),Mv 31 36,Et 37 31 0,Et 38 31 1,Mv 11 37,Mv 12 38]) (Sq (Sq (Rg [Mv 39 12,Bi 40 .neq 39 0]) (Cn 40 (Sq (Rg [Mv 41 12,p 42 (.build [zi,zi,zi] [(0,1,(k 9)),(1,1,t 41)]),p 43 (.aY [zi,zi,zi] 1 [(0,t 42)]),Mv 10 43]) Rt) Sk)) (Sq (Rg [p 44 (.raw (.makeMap 96 none) 96),Mv 13 44]) (Sq (Sq (Rg [Mv 45 11,Le 46 45,Mk 47 0]) (Bk 0 (Lp (Sq (Rg [Bt 48 .lss 47 46]) (Sq (Cn 48 Sk (Ex 0)) (Sq (Bk 1 (Sq (Rg [Ia 49 6 45 47,Lo 6 50 49,p 15 (.alloc [zi,zi,zi,zi,zn,zb]),So 6 15 50]) (Rg [Mv 51 13,Fa 52 0 15,Ld 53 52,Fa 54 1 15,Ld 55 54,p 56 (.build [zi,zi] [(0,1,t 53),(1,1,t 55)]),Lo 6 57 15,q (.raw (.mapUpdate 96 (.tmp 51) (.tmp 56) (.tmp 57)) 0)]))) (Rg [Bi 58 .add 47 1,Mv 47 58]))))))) (Sq (Rg [p 59 (.raw (.makeMap 99 none) 99),Mv 16 59]) (Sq (Rg [Mn 17]) (Sq (Sq (Rg [Mv 60 4,Le 61 60,Mk 62 0]) (Bk 2 (Lp (Sq (Rg [Bt 63 .lss 62 61]) (Sq (Cn 63 Sk (Ex 2)) (Sq (Bk 3 (Sq (Rg [Mv 64 62,Ia 65 6 60 62,Lo 6 66 65,p 19 (.alloc [zi,zi,zi,zi,zn,zb]),Mv 18 64,So 6 19 66]) (Sq (Rg [Fa 67 0 19,Ld 68 67,Fa 69 1 19,Ld 70 69,p 71 (.build [zi,zi] [(0,1,t 68),(1,1,t 70)]),p 20 (.alloc [zi,zi]),So 2 20 71]) (Sq (Sq (Rg [Mv 73 13,Lo 2 74 20,p 75 (.raw (.lookup 96 (.tmp 73) (.tmp 74) true) 100),Mv 72 75,Et 76 72 0,Et 77 72 1,p 21 (.alloc [zi,zi,zi,zi,zn,zb]),So 6 21 76,Mv 22 77]) (Sq (Rg [Mv 78 22,Nt 79 78,Mv 80 79,Ga 80 (Lo 6 81 19),Ga 80 (Lo 6 82 21),Ga 80 (p 83 (.call 29 [t 81,t 82])),Ga 80 (Nt 84 83),Pt 85 80 84]) (Cn 85 (Rg [Mv 86 17,Mv 87 18,Fa 88 1 19,Ld 89 88,p 90 (.build [zi,zi,zi] [(0,1,(k 1)),(1,1,t 87),(2,1,t 89)]),p 91 (.aY [zi,zi,zi] 1 [(0,t 90)]),p 92 (.append 3 24 (t 86) (t 91)),Mv 17 92]) Sk))) (Sq (Rg [Mv 94 16,Lo 2 95 20,p 96 (.raw (.lookup 99 (.tmp 94) (.tmp 95) true) 101),Mv 93 96,Et 97 93 0,Et 98 93 1,Mv 23 97,Mv 24 98]) (Sq (Rg [Mv 99 24,Nt 100 99]) (Cn 100 (Rg [Mv 101 16,Lo 2 102 20,Mv 103 18,q (.raw (.mapUpdate 99 (.tmp 101) (.tmp 102) (.tmp 103)) 0)]) Sk))))))) (Rg [Bi 104 .add 62 1,Mv 62 104]))))))) (Sq (Sq (Rg [Mv 105 11,Le 106 105,Mk 107 0]) (Bk 4 (Lp (Sq (Rg [Bt 108 .lss 107 106]) (Sq (Cn 108 Sk (Ex 4)) (Sq (Bk 5 (Sq (Rg [Ia 109 6 105 107,Lo 6 110 109,p 26 (.alloc [zi,zi,zi,zi,zn,zb]),So 6 26 110]) (Sq (Rg [Mv 112 16,Fa 113 0 26,Ld 114 113,Fa 115 1 26,Ld 116 115,p 117 (.build [zi,zi] [(0,1,t 114),(1,1,t 116)]),p 118 (.raw (.lookup 99 (.tmp 112) (.tmp 117) true) 101),Mv 111 118,Et 119 111 0,Et 120 111 1,Mv 27 119,Mv 28 120]) (Sq (Rg [Mv 121 28,Nt 122 121]) (Cn 122 (Rg [Mv 123 17,Fa 124 0 26,Ld 125 124,Fa 126 1 26,Ld 127 126,p 128 (.build [zi,zi,zi] [(0,1,(k 2)),(1,1,t 125),(2,1,t 127)]),p 129 (.aY [zi,zi,zi] 1 [(0,t 128)]),p 130 (.append 3 24 (t 123) (t 129)),Mv 17 130]) Sk))))) (Rg [Bi 131 .add 107 1,Mv 107 131]))))))) (Sq (Sq (Rg [Mv 132 4,Le 133 132,Mk 134 0]) (Bk 6 (Lp (Sq (Rg [Bt 135 .lss 134 133]) (Sq (Cn 135 Sk (Ex 6)) (Sq (Bk 7 (Sq (Rg [Mv 136 134,Ia 137 6 132 134,Lo 6 138 137,p 30 (.alloc [zi,zi,zi,zi,zn,zb]),Mv 29 136,So 6 30 138]) (Sq (Rg [Mv 139 16,Fa 140 0 30,Ld 141 140,Fa 142 1 30,Ld 143 142,p 144 (.build [zi,zi] [(0,1,t 141),(1,1,t 143)]),p 145 (.raw (.lookup 99 (.tmp 139) (.tmp 144) false) 3),Mv 146 29,Bt 147 .neq 145 146]) (Cn 147 (Rg [Mv 148 17,Mv 149 29,p 150 (.build [zi,zi,zi] [(0,1,(k 3)),(1,1,t 149)]),p 151 (.aY [zi,zi,zi] 1 [(0,t 150)]),p 152 (.append 3 24 (t 148) (t 151)),Mv 17 152]) Sk)))) (Rg [Bi 153 .add 134 1,Mv 134 153]))))))) (Sq (Rg [Mv 154 17,Mv 10 154]) Rt))))))))))),[.tmp 10],false,false⟩
theorem arE:aL Tryz.prog 12 TR:=bH Tryz.func12
def TQ:bq:=⟨27,c13,[.tmp 4],true,false⟩
theorem arD:aL Tryz.prog 13 TQ:=bH Tryz.func13
def TP:bq:=⟨66,(Sq (Rg [Bx 2 0,Bx 3 1,Mb 4 false]) (Sq (Sq (Rg [Fa 6 0 2,Ld 7 6,Fa 8 0 3,Ld 9 8,Bt 10 .neq 7 9,Mv 11 10,Ga 11 (Fa 12 1 2),Ga 11 (Ld 13 12),Ga 11 (Fa 14 1 3),Ga 11 (Ld 15 14),Ga 11 (Bt 16 .neq 13 15),Pt 17 11 16,Mv 18 17,Ga 18 (Fa 19 2 2),Ga 18 (Ld 20 19),Ga 18 (Fa 21 2 3),Ga 18 (Ld 22 21),Ga 18 (Bt 23 .neq 20 22),Pt 24 18 23,Mv 25 24,Ga 25 (Fa 26 3 2),Ga 25 (Ld 27 26),Ga 25 (Fa 28 3 3),Ga 25 (Ld 29 28),Ga 25 (Bt 30 .neq 27 29),Pt 31 25 30,Mv 32 31,Ga 32 (Fa 33 5 2),Ga 32 (Ld 34 33),Ga 32 (Fa 35 5 3),Ga 32 (Ld 36 35),Ga 32 (p 37 (.qk .neq (t 34) (t 36))),Pt 38 32 37,Mv 39 38,Ga 39 (Fa 40 4 2),Ga 39 (Ld 41 40),Ga 39 (Le 42 41),Ga 39 (Fa 43 4 3),Ga 39 (Ld 44 43),Ga 39 (Le 45 44),Ga 39 (Bt 46 .neq 42 45),Pt 47 39 46]) (Cn 47 (Sq (Rg [Mb 4 false]) Rt) Sk)) (Sq (Sq (Rg [Mk 5 0]) (Bk 0 (Lp (Sq (Sq (Rg [Mv 48 5,Fa 49 4 2,Ld 50 49,Le 51 50,Bt 52 .lss 48 51]) (Cn 52 Sk (Ex 0))) (Sq (Bk 1 (Sq (Dr [Fa 55 4 2,Ld 56 55,Mv 57 5,Ia 58 1 56 57,Ld 59 58,Fa 60 4 3,Ld 61 60,Mv 62 5,Ia 63 1 61 62,Ld 64 63,Bt 65 .neq 59 64] [[],[0],[],[1,2],[3],[],[5],[],[6,7],[8],[4,9]]) (Cn 65 (Sq (Rg [Mb 4 false]) Rt) Sk))) (Rg [Mv 53 5,Bi 54 .add 53 1,Mv 5 54])))))) (Sq (Rg [Mb 4 true]) Rt)))),[.tmp 4],true,false⟩
theorem arC:aL Tryz.prog 14 TP:=bH Tryz.func14
def TO:bq:=⟨45,c15,[.tmp 4, .tmp 5],true,false⟩
theorem arB:aL Tryz.prog 15 TO:=bH Tryz.func15
def TN:bq:=⟨54,c16,[.tmp 8],true,false⟩
theorem arA:aL Tryz.prog 16 TN:=bH Tryz.func16
def Oo:bq:=⟨69,c22,[.tmp 8, .tmp 9],true,false⟩
theorem aqZ:aL Tryz.prog 22 Oo:=bH Tryz.func22
def TM:bq:=⟨58,(Sq (Rg [p 0 (.alloc [.t (.val (.string ⟨#[]⟩)),zn,zn,zn,zn,zn,zn,zi,zi,zi,zi,zn,zn,zn,zn,zn])]) (Sq (Rg [p 9 (.build [zi,zi] []),p 10 (.build [zi,zi] [(0,1,(k 10))]),p 11 (.build [zi,zi] [(0,1,(k 10)),(1,1,(k 10))]),p 12 (.build [zi,zi] [(1,1,(k 10))]),p 1 (.alloc [zi,zi]),p 2 (.alloc [zi,zi]),p 3 (.alloc [zi,zi]),p 4 (.alloc [zi,zi]),So 2 1 9,So 2 2 10,So 2 3 11,So 2 4 12]) (Sq (Dr [Lo 2 13 1,Lo 2 14 2,p 15 (.call 48 [(.c (.w (.one (.t (.val (.string ⟨#[108,111,119]⟩)))))),t 13,t 14]),Lo 2 16 2,Lo 2 17 3,p 18 (.call 48 [(.c (.w (.one (.t (.val (.string ⟨#[114,105,103,104,116]⟩)))))),t 16,t 17]),Lo 2 19 3,Lo 2 20 4,p 21 (.call 48 [(.c (.w (.one (.t (.val (.string ⟨#[104,105,103,104]⟩)))))),t 19,t 20]),Lo 2 22 4,Lo 2 23 1,p 24 (.call 48 [(.c (.w (.one (.t (.val (.string ⟨#[108,101,102,116]⟩)))))),t 22,t 23]),p 25 (.aY [.t (.val (.string ⟨#[]⟩)),zn] 4 [(0,t 15),(1,t 18),(2,t 21),(3,t 24)]),p 26 (.make [zi,zi] 16 (k 4) (k 4)),p 27 (.make [zi] 8 (k 4) (k 4)),p 28 (.build [.t (.val (.string ⟨#[]⟩)),zn,zi,zn,zn,zn,zb] [(0,1,(.c (.w (.one (.t (.val (.string ⟨#[102,114,111,110,116]⟩))))))),(2,1,(k 1)),(1,1,t 25),(4,1,t 26),(5,1,t 27)]),p 5 (.alloc [.t (.val (.string ⟨#[]⟩)),zn,zi,zn,zn,zn,zb]),So 7 5 28] [[],[],[0,1],[],[],[3,4,2],[],[],[6,7,5],[],[],[9,10,8],[2,5,8,11],[],[],[12,13,14],[],[16,15,11,0,1,2,3,4,5,6,7,8,9,10,11,12,13,14,15,16]]) (Sq (Rg [p 29 (.aY [.t (.val (.string ⟨#[]⟩))] 2 [(0,(.c (.w (.one (.t (.val (.string ⟨#[83]⟩))))))),(1,(.c (.w (.one (.t (.val (.string ⟨#[77]⟩)))))))]),p 30 (.aY [zi] 2 [(0,(k 0)),(1,(k 0))]),Lo 7 31 5,p 32 (.aY [.t (.val (.string ⟨#[]⟩)),zn,zi,zn,zn,zn,zb] 1 [(0,t 31)]),p 33 (.build [zi,zi,zb] [(1,1,(k 2))]),p 34 (.aY [zi,zi,zb] 1 [(0,t 33)]),p 35 (.build [.t (.val (.string ⟨#[]⟩)),zn,zn,zn,zn,zn,zn] [(0,1,(.c (.w (.one (.t (.val (.string ⟨#[115,104,105,114,116]⟩))))))),(1,1,t 29),(2,1,t 30),(3,1,t 32),(4,1,t 34)]),p 6 (.alloc [.t (.val (.string ⟨#[]⟩)),zn,zn,zn,zn,zn,zn]),So 7 6 35]) (Sq (Rg [p 36 (.aY [zi] 1 [(0,(k 1))]),p 37 (.build [zi,zi,zi,zb,zi,zi,zi] []),p 38 (.build [zi,zi] [(0,1,(k 10))]),p 39 (.build [zi,zi,zi,zb,zi,zi,zi] [(2,1,(k 1)),(5,2,t 38)]),p 40 (.aY [zi,zi,zi,zb,zi,zi,zi] 2 [(0,t 37),(1,t 39)]),p 41 (.build [zi,zi,zi,zi,zn,zn] [(0,1,(k 20)),(1,1,(k 10)),(4,1,t 36),(5,1,t 40)]),p 7 (.alloc [zi,zi,zi,zi,zn,zn]),So 6 7 41]) (Sq (Rg [p 42 (.build [.t (.val (.string ⟨#[]⟩)),zi,zi,zi,zi,zi,zn] [(0,1,(.c (.w (.one (.t (.val (.string ⟨#[65]⟩))))))),(1,1,(k 9)),(2,1,(k 50))]),p 43 (.build [.t (.val (.string ⟨#[]⟩)),zi,zi,zi,zi,zi,zn] [(0,1,(.c (.w (.one (.t (.val (.string ⟨#[66]⟩))))))),(1,1,(k 10)),(2,1,(k 50))]),p 44 (.build [zi,zi,zi,zi] [(0,1,(k 20)),(1,1,(k 2)),(2,1,(k 1)),(3,1,(k 1))]),p 45 (.aY [zi,zi,zi,zi] 1 [(0,t 44)]),p 46 (.build [.t (.val (.string ⟨#[]⟩)),zi,zi,zi,zi,zi,zn] [(0,1,(.c (.w (.one (.t (.val (.string ⟨#[67]⟩))))))),(1,1,(k 10)),(2,1,(k 50)),(6,1,t 45)]),p 47 (.aY [.t (.val (.string ⟨#[]⟩)),zi,zi,zi,zi,zi,zn] 3 [(0,t 42),(1,t 43),(2,t 46)]),Mv 8 47]) (Sq (Rg [Lo 7 48 6,Lo 6 49 7,p 50 (.build [zi,zi,zi,zi] [(0,1,(k 2)),(1,1,(k 5)),(2,1,(k 25))]),p 51 (.aY [zi,zi,zi,zi] 1 [(0,t 50)]),p 52 (.build [zi,zn] [(0,1,(k 1)),(1,1,t 51)]),p 53 (.aY [zi,zn] 1 [(0,t 52)]),p 54 (.build [zi,zi,zi,zi,zn,zn,zn] [(0,6,t 49),(6,1,t 53)]),Mv 55 8,p 56 (.aY [zi] 3 [(0,(k 0)),(1,(k 0)),(2,(k 1))]),p 57 (.build [.t (.val (.string ⟨#[]⟩)),zn,zn,zn,zn,zn,zn,zi,zi,zi,zi,zn,zn,zn,zn,zn] [(0,7,t 48),(7,7,t 54),(14,1,t 55),(15,1,t 56)]),So 16 0 57]) Rt))))))),[.cell 0 (some 16)],true,false⟩
theorem aqY:aL Tryz.prog 27 TM:=bH Tryz.func27
def TL:bq:=⟨27,(Sq (Rg [Mb 4 false]) (Sq (Sq (Rg [Mv 6 0,Le 7 6,Mv 8 1,Le 9 8,Bt 10 .neq 7 9]) (Cn 10 (Sq (Rg [Mb 4 false]) Rt) Sk)) (Sq (Sq (Rg [Mk 5 0]) (Bk 0 (Lp (Sq (Sq (Rg [Mv 11 5,Mv 12 0,Le 13 12,Bt 14 .lss 11 13]) (Cn 14 Sk (Ex 0))) (Sq (Bk 1 (Sq (Dr [Mv 17 0,Mv 18 5,Ia 19 6 17 18,Lo 6 20 19,Mv 21 1,Mv 22 5,Ia 23 6 21 22,Lo 6 24 23,p 25 (.call 14 [t 20,t 24]),Nt 26 25] [[],[],[0,1],[2],[],[],[4,5],[6],[3,7],[8]]) (Cn 26 (Sq (Rg [Mb 4 false]) Rt) Sk))) (Rg [Mv 15 5,Bi 16 .add 15 1,Mv 5 16])))))) (Sq (Rg [Mb 4 true]) Rt)))),[.tmp 4],true,false⟩
theorem aqX:aL Tryz.prog 28 TL:=bH Tryz.func28
def TK:bq:=⟨45,(Sq (Rg [Bx 2 0,Bx 3 1,Mb 4 false]) (Sq (Rg [Fa 5 0 2,Ld 6 5,Fa 7 0 3,Ld 8 7,Bt 9 .eql 6 8,Mv 10 9,Gb 10 (Fa 11 1 2),Gb 10 (Ld 12 11),Gb 10 (Fa 13 1 3),Gb 10 (Ld 14 13),Gb 10 (Bt 15 .eql 12 14),Pf 16 10 15,Mv 17 16,Gb 17 (Fa 18 2 2),Gb 17 (Ld 19 18),Gb 17 (Fa 20 2 3),Gb 17 (Ld 21 20),Gb 17 (Bt 22 .eql 19 21),Pf 23 17 22,Mv 24 23,Gb 24 (Fa 25 3 2),Gb 24 (Ld 26 25),Gb 24 (Fa 27 3 3),Gb 24 (Ld 28 27),Gb 24 (Bt 29 .eql 26 28),Pf 30 24 29,Mv 31 30,Gb 31 (Fa 32 5 2),Gb 31 (Ld 33 32),Gb 31 (Fa 34 5 3),Gb 31 (Ld 35 34),Gb 31 (p 36 (.qk .eql (t 33) (t 35))),Pf 37 31 36,Mv 38 37,Gb 38 (Fa 39 4 2),Gb 38 (Ld 40 39),Gb 38 (Fa 41 4 3),Gb 38 (Ld 42 41),Gb 38 (p 43 (.call 49 [t 40,t 42])),Pf 44 38 43,Mv 4 44]) Rt)),[.tmp 4],true,false⟩
theorem aqW:aL Tryz.prog 29 TK:=bH Tryz.func29
def TJ:bq:=⟨126,c30,[.tmp 4, .tmp 5, .tmp 6],true,false⟩
theorem aqV:aL Tryz.prog 30 TJ:=bH Tryz.func30
def TI:bq:=⟨49,c31,[.tmp 4, .tmp 5],true,false⟩
theorem aqU:aL Tryz.prog 31 TI:=bH Tryz.func31
def TH:bq:=⟨36,c32,[.tmp 8],true,false⟩
theorem aqT:aL Tryz.prog 32 TH:=bH Tryz.func32
def TG:bq:=⟨96,c33,[.tmp 10],true,false⟩
theorem aqS:aL Tryz.prog 33 TG:=bH Tryz.func33
def TF:bq:=⟨77,c34,[.tmp 4, .tmp 5],true,false⟩
theorem aqR:aL Tryz.prog 34 TF:=bH Tryz.func34
def TE:bq:=⟨80,c35,[.tmp 6, .tmp 7],true,false⟩
theorem aqQ:aL Tryz.prog 35 TE:=bH Tryz.func35
def TD:bq:=⟨31,c36,[.tmp 4, .tmp 5],true,false⟩
theorem aqP:aL Tryz.prog 36 TD:=bH Tryz.func36
def TC:bq:=⟨67,c42,[.cell 10 (some 6), .tmp 11],true,false⟩
theorem aqO:aL Tryz.prog 42 TC:=bH Tryz.func42
def TB:bq:=⟨12,(Sq (Rg [Bx 4 1,Bx 5 2,p 6 (.alloc [.t (.val (.string ⟨#[]⟩)),zn])]) (Sq (Rg [Mv 7 0,Lo 2 8 4,Lo 2 9 5,p 10 (.aY [zi,zi] 2 [(0,t 8),(1,t 9)]),p 11 (.build [.t (.val (.string ⟨#[]⟩)),zn] [(0,1,t 7),(1,1,t 10)]),So 2 6 11]) Rt)),[.cell 6 (some 2)],true,false⟩
theorem aqN:aL Tryz.prog 48 TB:=bH Tryz.func48
def TA:bq:=⟨26,(Sq (Rg [Mb 4 false]) (Sq (Sq (Rg [Mv 6 0,Le 7 6,Mv 8 1,Le 9 8,Bt 10 .neq 7 9]) (Cn 10 (Sq (Rg [Mb 4 false]) Rt) Sk)) (Sq (Sq (Rg [Mv 11 0,Le 12 11,Mk 13 0]) (Bk 0 (Lp (Sq (Rg [Bt 14 .lss 13 12]) (Sq (Cn 14 Sk (Ex 0)) (Sq (Bk 1 (Sq (Rg [Mv 15 13,Mv 5 15]) (Sq (Dr [Mv 16 0,Mv 17 5,Ia 18 1 16 17,Ld 19 18,Mv 20 1,Mv 21 5,Ia 22 1 20 21,Ld 23 22,Bt 24 .neq 19 23] [[],[],[0,1],[2],[],[],[4,5],[6],[3,7]]) (Cn 24 (Sq (Rg [Mb 4 false]) Rt) Sk)))) (Rg [Bi 25 .add 13 1,Mv 13 25]))))))) (Sq (Rg [Mb 4 true]) Rt)))),[.tmp 4],true,false⟩
theorem aqM:aL Tryz.prog 49 TA:=bH Tryz.func49
def Tz:bq:=⟨93,c50,[.tmp 4, .tmp 5, .tmp 6],true,false⟩
theorem aqL:aL Tryz.prog 50 Tz:=bH Tryz.func50
def Ty:bq:=⟨10,c51,[.cell 2 (some 3)],true,false⟩
theorem aqK:aL Tryz.prog 51 Ty:=bH Tryz.func51
def Tx:bq:=⟨9,c52,[.tmp 4],true,false⟩
theorem aqJ:aL Tryz.prog 52 Tx:=bH Tryz.func52
def Tw:bq:=⟨31,c53,[.tmp 6],true,false⟩
theorem aqI:aL Tryz.prog 53 Tw:=bH Tryz.func53
def Tv:bq:=⟨21,c54,[.tmp 2],true,false⟩
theorem aqH:aL Tryz.prog 54 Tv:=bH Tryz.func54
def I1:bq:=⟨14,c55,[.tmp 2],true,false⟩
theorem aqG:aL Tryz.prog 55 I1:=bH Tryz.func55
def Tu:bq:=⟨8,c56,[.tmp 4],true,false⟩
theorem aqF:aL Tryz.prog 56 Tu:=bH Tryz.func56
def Ts:bq:=⟨33,c57,[.tmp 4],true,false⟩
theorem aqE:aL Tryz.prog 57 Ts:=bH Tryz.func57
def Tq:bq:=⟨29,c58,[.tmp 6, .tmp 7],true,false⟩
theorem aqD:aL Tryz.prog 58 Tq:=bH Tryz.func58
def Tp:bq:=⟨28,c59,[.tmp 4],true,false⟩
theorem aqC:aL Tryz.prog 59 Tp:=bH Tryz.func59
def To:bq:=⟨38,c60,[.tmp 4],true,false⟩
theorem aqB:aL Tryz.prog 60 To:=bH Tryz.func60
def Tn:bq:=⟨11,c62,[.tmp 2],true,false⟩
theorem aqA:aL Tryz.prog 62 Tn:=bH Tryz.func62
def Tm:bq:=⟨14,(Sq (Rg [Mv 5 0,Le 6 5,Mv 4 6]) (Rg [Mv 7 0,Mv 8 4,Mv 9 4,p 10 (.conv .u64 (t 9)),p 11 (.call 87 [t 10]),Mv 12 1,p 13 (.call 86 [t 7,(k 0),t 8,t 11,t 12])])),[],true,true⟩
theorem apZ:aL Tryz.prog 63 Tm:=bH Tryz.func63
def Tl:bq:=⟨20,c65,[.tmp 4],true,false⟩
theorem apY:aL Tryz.prog 65 Tl:=bH Tryz.func65
def Tk:bq:=⟨101,c66,[.tmp 2],true,false⟩
theorem apX:aL Tryz.prog 66 Tk:=bH Tryz.func66
def Tj:bq:=⟨81,c67,[.tmp 4, .tmp 5],true,false⟩
theorem apW:aL Tryz.prog 67 Tj:=bH Tryz.func67
def Ti:bq:=⟨65,c68,[.cell 2 (some 4), .tmp 3],true,false⟩
theorem apV:aL Tryz.prog 68 Ti:=bH Tryz.func68
def Th:bq:=⟨41,c69,[.tmp 4],true,false⟩
theorem apU:aL Tryz.prog 69 Th:=bH Tryz.func69
def On:bq:=⟨90,c74,[.tmp 2],true,false⟩
theorem apT:aL Tryz.prog 74 On:=bH Tryz.func74
def Tf:bq:=⟨42,c75,[.tmp 2],true,false⟩
theorem apS:aL Tryz.prog 75 Tf:=bH Tryz.func75
def Td:bq:=⟨65,c76,[.cell 6 (some 5), .tmp 7],true,false⟩
theorem apR:aL Tryz.prog 76 Td:=bH Tryz.func76
def Tc:bq:=⟨19,c77,[.tmp 4],true,false⟩
theorem apQ:aL Tryz.prog 77 Tc:=bH Tryz.func77
def Tb:bq:=⟨123,c78,[.tmp 8],true,false⟩
theorem apP:aL Tryz.prog 78 Tb:=bH Tryz.func78
def Ta:bq:=⟨9,c79,[.tmp 4],true,false⟩
theorem apO:aL Tryz.prog 79 Ta:=bH Tryz.func79
def S9:bq:=⟨21,c80,[.tmp 2],true,false⟩
theorem apN:aL Tryz.prog 80 S9:=bH Tryz.func80
def S8:bq:=⟨79,c81,[.tmp 2],true,false⟩
theorem apM:aL Tryz.prog 81 S8:=bH Tryz.func81
def S7:bq:=⟨34,c82,[.tmp 4],true,false⟩
theorem apL:aL Tryz.prog 82 S7:=bH Tryz.func82
def S6:bq:=⟨24,c83,[.cell 4 (some 2)],true,false⟩
theorem apK:aL Tryz.prog 83 S6:=bH Tryz.func83
def S5:bq:=⟨59,c84,[.tmp 4, .tmp 5],true,false⟩
theorem apJ:aL Tryz.prog 84 S5:=bH Tryz.func84
def S4:bq:=⟨25,c85,[.tmp 4],true,false⟩
theorem apI:aL Tryz.prog 85 S4:=bH Tryz.func85
def S3:bq:=⟨148,(Sq (Rg [Mb 10 true]) (Sq (Rg [Mb 11 true]) (Bk 0 (Lp (Bk 1 (Sq (Rg [Mv 21 2,Mv 22 1,Bt 23 .sub 21 22,Mv 12 23]) (Sq (Sq (Rg [Mv 24 12,Bi 25 .leq 24 12]) (Cn 25 (Sq (Rg [Mv 26 0,Mv 27 1,Mv 28 2,Mv 29 4,p 30 (.call 109 [t 26,t 27,t 28,t 29])]) Rt) Sk)) (Sq (Sq (Rg [Mv 31 3,Bi 32 .eql 31 0]) (Cn 32 (Sq (Rg [Mv 33 0,Mv 34 1,Mv 35 2,Mv 36 4,p 37 (.call 110 [t 33,t 34,t 35,t 36])]) Rt) Sk)) (Sq (Sq (Rg [Mv 38 10,Nt 39 38]) (Cn 39 (Sq (Rg [Mv 40 0,Mv 41 1,Mv 42 2,Mv 43 4,p 44 (.call 111 [t 40,t 41,t 42,t 43])]) (Rg [Mv 45 3,Bi 46 .sub 45 1,Mv 3 46])) Sk)) (Sq (Rg [Mv 48 0,Mv 49 1,Mv 50 2,Mv 51 4,p 52 (.call 112 [t 48,t 49,t 50,t 51]),Mv 47 52,Et 53 47 0,Et 54 47 1,Mv 13 53,Mv 14 54]) (Sq (Sq (Rg [Mv 55 14,Bi 56 .eql 55 2]) (Cn 56 (Sq (Rg [Mv 57 0,Mv 58 1,Mv 59 2,Mv 60 4,p 61 (.call 113 [t 57,t 58,t 59,t 60])]) (Sq (Rg [Mv 62 2,Bi 63 .sub 62 1,Mv 64 13,Mv 65 1,Bt 66 .sub 64 65,Bt 67 .sub 63 66,Mv 13 67]) (Rg [Mk 14 1]))) Sk)) (Sq (Sq (Rg [Mv 68 10,Mv 69 68,Gb 69 (Mv 70 11),Pf 71 69 70,Mv 72 71,Gb 72 (Mv 73 14),Gb 72 (Bi 74 .eql 73 1),Pf 75 72 74]) (Cn 75 (Sq (Rg [Mv 76 0,Mv 77 1,Mv 78 2,Mv 79 4,p 80 (.call 114 [t 76,t 77,t 78,t 79])]) (Cn 80 Rt Sk)) Sk)) (Sq (Sq (Dr [Mv 81 1,Bi 82 .gtr 81 0,Mv 83 82,Gb 83 (Mv 84 4),Gb 83 (Mv 85 0),Gb 83 (Mv 86 1),Gb 83 (Bi 87 .sub 86 1),Gb 83 (Ia 88 2 85 87),Gb 83 (Lo 2 89 88),Gb 83 (Mv 90 0),Gb 83 (Mv 91 13),Gb 83 (Ia 92 2 90 91),Gb 83 (Lo 2 93 92),Gb 83 (p 94 (.fb (t 84) [t 89,t 93])),Gb 83 (Bi 95 .lss 94 0),Gb 83 (Nt 96 95),Pf 97 83 96] [[],[0],[1],[2],[2],[2],[5,2],[4,6,2],[7,2],[2],[2],[9,10,2],[11,2],[3,8,12,2,2],[13,2],[14,2],[2,15]]) (Cn 97 (Sq (Rg [Mv 98 0,Mv 99 1,Mv 100 2,Mv 101 13,Mv 102 4,p 103 (.call 115 [t 98,t 99,t 100,t 101,t 102]),Mv 15 103]) (Sq (Rg [Mv 104 15,Mv 1 104]) (Ex 1))) Sk)) (Sq (Rg [Mv 106 0,Mv 107 1,Mv 108 2,Mv 109 13,Mv 110 4,p 111 (.call 116 [t 106,t 107,t 108,t 109,t 110]),Mv 105 111,Et 112 105 0,Et 113 105 1,Mv 16 112,Mv 17 113]) (Sq (Rg [Mv 114 17,Mv 11 114]) (Sq (Rg [Mv 115 16,Mv 116 1,Bt 117 .sub 115 116,Mv 118 2,Mv 119 16,Bt 120 .sub 118 119,Mv 18 117,Mv 19 120]) (Sq (Rg [Mv 121 12,Bi 122 .quo 121 8,Mv 20 122]) (Sq (Rg [Mv 123 18,Mv 124 19,Bt 125 .lss 123 124]) (Cn 125 (Sq (Rg [Mv 126 18,Mv 127 20,Bt 128 .geq 126 127,Mv 10 128]) (Sq (Rg [Mv 129 0,Mv 130 1,Mv 131 16,Mv 132 3,Mv 133 4,p 134 (.call 86 [t 129,t 130,t 131,t 132,t 133])]) (Rg [Mv 135 16,Bi 136 .add 135 1,Mv 1 136]))) (Sq (Rg [Mv 137 19,Mv 138 20,Bt 139 .geq 137 138,Mv 10 139]) (Sq (Rg [Mv 140 0,Mv 141 16,Bi 142 .add 141 1,Mv 143 2,Mv 144 3,Mv 145 4,p 146 (.call 86 [t 140,t 142,t 143,t 144,t 145])]) (Rg [Mv 147 16,Mv 2 147])))))))))))))))))))))),[],true,true⟩
theorem apH:aL Tryz.prog 86 S3:=bH Tryz.func86
def S2:bq:=⟨8,c87,[.tmp 2],true,false⟩
theorem apG:aL Tryz.prog 87 S2:=bH Tryz.func87
def S1:bq:=⟨6,c88,[.tmp 2],true,false⟩
theorem apF:aL Tryz.prog 88 S1:=bH Tryz.func88
def S0:bq:=⟨54,c89,[.tmp 2],true,false⟩
theorem apE:aL Tryz.prog 89 S0:=bH Tryz.func89
def I0:bq:=⟨78,c90,[.tmp 2, .tmp 3],true,false⟩
theorem apD:aL Tryz.prog 90 I0:=bH Tryz.func90
def SZ:bq:=⟨23,c91,[.tmp 4, .tmp 5, .tmp 6],true,false⟩
theorem apC:aL Tryz.prog 91 SZ:=bH Tryz.func91
def SY:bq:=⟨12,c92,[.tmp 4],true,false⟩
theorem apB:aL Tryz.prog 92 SY:=bH Tryz.func92
def SX:bq:=⟨9,c93,[.tmp 2],true,false⟩
theorem apA:aL Tryz.prog 93 SX:=bH Tryz.func93
def SV:bq:=⟨98,c97,[.tmp 2],true,false⟩
theorem aoZ:aL Tryz.prog 97 SV:=bH Tryz.func97
def SU:bq:=⟨79,c98,[.tmp 4],true,false⟩
theorem aoY:aL Tryz.prog 98 SU:=bH Tryz.func98
def Gw:bq:=⟨28,Z9,[.tmp 6, .tmp 7],true,false⟩
theorem VV:aL Tryz.prog 100 Gw:=bH Tryz.func100
def L8:bq:=⟨29,Z8,[.cell 6 (some 2), .tmp 7],true,false⟩
theorem VU:aL Tryz.prog 101 L8:=bH Tryz.func101
def L7:bq:=⟨31,Z7,[.tmp 6],true,false⟩
theorem VT:aL Tryz.prog 102 L7:=bH Tryz.func102
def L6:bq:=⟨21,Z6,[.tmp 4, .tmp 5],true,false⟩
theorem VS:aL Tryz.prog 104 L6:=bH Tryz.func104
def L5:bq:=⟨19,Z5,[.tmp 4],true,false⟩
theorem VR:aL Tryz.prog 105 L5:=bH Tryz.func105
def L4:bq:=⟨9,Z4,[.tmp 4],true,false⟩
theorem VQ:aL Tryz.prog 106 L4:=bH Tryz.func106
def L3:bq:=⟨38,Z3,[.tmp 6],true,false⟩
theorem VP:aL Tryz.prog 107 L3:=bH Tryz.func107
def LZ:bq:=⟨45,Z2,[.tmp 8],true,false⟩
theorem VO:aL Tryz.prog 108 LZ:=bH Tryz.func108
def LY:bq:=⟨53,(Sq (Rg [Mv 10 1,Bi 11 .add 10 1,Mv 8 11]) (Bk 0 (Lp (Sq (Sq (Rg [Mv 12 8,Mv 13 2,Bt 14 .lss 12 13]) (Cn 14 Sk (Ex 0))) (Sq (Bk 1 (Sq (Rg [Mv 17 8,Mv 9 17]) (Bk 2 (Lp (Sq (Sq (Dr [Mv 18 9,Mv 19 1,Bt 20 .gtr 18 19,Mv 21 20,Gb 21 (Mv 22 3),Gb 21 (Mv 23 0),Gb 21 (Mv 24 9),Gb 21 (Ia 25 2 23 24),Gb 21 (Lo 2 26 25),Gb 21 (Mv 27 0),Gb 21 (Mv 28 9),Gb 21 (Bi 29 .sub 28 1),Gb 21 (Ia 30 2 27 29),Gb 21 (Lo 2 31 30),Gb 21 (p 32 (.fb (t 22) [t 26,t 31])),Gb 21 (Bi 33 .lss 32 0),Pf 34 21 33] [[],[],[0,1],[2],[3],[3],[3],[5,6,3],[7,3],[3],[3],[10,3],[9,11,3],[12,3],[4,8,13,3,3],[14,3],[3,15]]) (Cn 34 Sk (Ex 2))) (Sq (Bk 3 (Dr [Mv 37 0,Mv 38 9,Mv 39 0,Mv 40 9,Bi 41 .sub 40 1,Mv 42 0,Mv 43 9,Bi 44 .sub 43 1,Ia 45 2 42 44,Lo 2 46 45,Mv 47 0,Mv 48 9,Ia 49 2 47 48,Lo 2 50 49,Ia 51 2 37 38,So 2 51 46,Ia 52 2 39 41,So 2 52 50] [[],[],[],[],[3],[],[],[6],[5,7],[8],[],[],[10,11],[12],[0,1,0,1,5,6,7,8,9,13],[14,9,0,1,5,6,7,8,9,13],[2,4,0,1,2,3,4,5,6,7,8,9,10,11,12,13,14,15],[16,13,15,0,1,2,3,4,5,6,7,8,9,10,11,12,13,14,15]])) (Rg [Mv 35 9,Bi 36 .sub 35 1,Mv 9 36]))))))) (Rg [Mv 15 8,Bi 16 .add 15 1,Mv 8 16])))))),[],true,true⟩
theorem VN:aL Tryz.prog 109 LY:=bH Tryz.func109
def LX:bq:=⟨25,Z1,[.tmp 2],true,false⟩
theorem VM:aL Tryz.prog 118 LX:=bH Tryz.func118
def LW:bq:=⟨78,Z0,[.tmp 2, .tmp 3],true,false⟩
theorem VL:aL Tryz.prog 119 LW:=bH Tryz.func119
def LV:bq:=⟨29,ZZ,[.cell 3 (some 2), .cell 4 (some 2), .cell 5 (some 2)],true,false⟩
theorem VK:aL Tryz.prog 120 LV:=bH Tryz.func120
def LU:bq:=⟨12,ZY,[.tmp 3],true,false⟩
theorem VJ:aL Tryz.prog 121 LU:=bH Tryz.func121
def LS:bq:=⟨30,ZX,[.tmp 6],true,false⟩
theorem VI:aL Tryz.prog 122 LS:=bH Tryz.func122
def LR:bq:=⟨51,ZW,[.tmp 4],true,false⟩
theorem VH:aL Tryz.prog 123 LR:=bH Tryz.func123
def LQ:bq:=⟨73,ZV,[.tmp 4],true,false⟩
theorem VG:aL Tryz.prog 124 LQ:=bH Tryz.func124
def LP:bq:=⟨15,ZU,[.tmp 4],true,false⟩
theorem VF:aL Tryz.prog 125 LP:=bH Tryz.func125
def LO:bq:=⟨67,ZT,[.tmp 4],true,false⟩
theorem VE:aL Tryz.prog 126 LO:=bH Tryz.func126
def LN:bq:=⟨7,ZS,[.tmp 2],true,false⟩
theorem VD:aL Tryz.prog 129 LN:=bH Tryz.func129
def LM:bq:=⟨8,ZR,[.tmp 2],true,false⟩
theorem VC:aL Tryz.prog 130 LM:=bH Tryz.func130
def LL:bq:=⟨9,ZQ,[.tmp 4],true,false⟩
theorem VB:aL Tryz.prog 131 LL:=bH Tryz.func131
def Gv:bq:=⟨84,ZP,[.tmp 4, .tmp 5],true,false⟩
theorem VA:aL Tryz.prog 132 Gv:=bH Tryz.func132
def LK:bq:=⟨18,ZO,[.tmp 4, .tmp 5],true,false⟩
theorem Vz:aL Tryz.prog 133 LK:=bH Tryz.func133
def LJ:bq:=⟨63,ZN,[.tmp 6, .cell 7 (some 7), .tmp 8],true,false⟩
theorem Vy:aL Tryz.prog 134 LJ:=bH Tryz.func134
def LI:bq:=⟨164,ZM,[.tmp 4, .tmp 5],true,false⟩
theorem Vx:aL Tryz.prog 135 LI:=bH Tryz.func135
def LH:bq:=⟨9,ZL,[.cell 2 (some 2)],true,false⟩
theorem Vw:aL Tryz.prog 136 LH:=bH Tryz.func136
def LG:bq:=⟨50,ZK,[.tmp 4, .tmp 5],true,false⟩
theorem Vv:aL Tryz.prog 138 LG:=bH Tryz.func138
def LF:bq:=⟨19,ZJ,[.tmp 4],true,false⟩
theorem Vu:aL Tryz.prog 139 LF:=bH Tryz.func139
def LD:bq:=⟨30,ZI,[.tmp 6],true,false⟩
theorem Vt:aL Tryz.prog 140 LD:=bH Tryz.func140
def LC:bq:=⟨52,ZH,[.tmp 6],true,false⟩
theorem Vs:aL Tryz.prog 141 LC:=bH Tryz.func141
def LB:bq:=⟨21,ZG,[.tmp 8],true,false⟩
theorem Vr:aL Tryz.prog 142 LB:=bH Tryz.func142
def LA:bq:=⟨29,ZF,[.tmp 4],true,false⟩
theorem Vq:aL Tryz.prog 148 LA:=bH Tryz.func148
def Ly:bq:=⟨37,ZE,[.tmp 2],true,false⟩
theorem Vp:aL Tryz.prog 149 Ly:=bH Tryz.func149
def Lx:bq:=⟨36,ZD,[.tmp 2],false,false⟩
theorem Vo:aL Tryz.prog 151 Lx:=bH Tryz.func151
def Lw:bq:=⟨21,ZC,[.tmp 2],true,false⟩
theorem Vm:aL Tryz.prog 152 Lw:=bH Tryz.func152
def Lv:bq:=⟨5,ZB,[.tmp 2],true,false⟩
theorem Vl:aL Tryz.prog 156 Lv:=bH Tryz.func156
def Lu:bq:=⟨103,ZA,[.tmp 2],true,false⟩
theorem Vd:aL Tryz.prog 157 Lu:=bH Tryz.func157
def Lt:bq:=⟨19,Zz,[.tmp 4],true,false⟩
theorem Vc:aL Tryz.prog 158 Lt:=bH Tryz.func158
def Lr:bq:=⟨14,Zy,[.tmp 4],true,false⟩
theorem Vb:aL Tryz.prog 159 Lr:=bH Tryz.func159
def Gu:bq:=⟨81,Zx,[.tmp 2],true,false⟩
theorem Va:aL Tryz.prog 160 Gu:=bH Tryz.func160
def Lq:bq:=⟨26,Zw,[.cell 4 (some 2)],true,false⟩
theorem U9:aL Tryz.prog 161 Lq:=bH Tryz.func161
def Ln:bq:=⟨62,Zv,[.tmp 6],true,false⟩
theorem U8:aL Tryz.prog 162 Ln:=bH Tryz.func162
def Lm:bq:=⟨92,Zu,[.tmp 4, .tmp 5, .tmp 6],true,false⟩
theorem U7:aL Tryz.prog 163 Lm:=bH Tryz.func163
def Ll:bq:=⟨110,Zt,[.tmp 4, .tmp 5],true,false⟩
theorem U6:aL Tryz.prog 164 Ll:=bH Tryz.func164
def Lk:bq:=⟨12,Zs,[.tmp 2, .tmp 3],true,false⟩
theorem U5:aL Tryz.prog 165 Lk:=bH Tryz.func165
def Lj:bq:=⟨31,Zr,[.tmp 4],true,false⟩
theorem U4:aL Tryz.prog 166 Lj:=bH Tryz.func166
def Li:bq:=⟨16,Zq,[.cell 4 (some 2)],true,false⟩
theorem U3:aL Tryz.prog 167 Li:=bH Tryz.func167
def Lh:bq:=⟨59,Zp,[.tmp 6],true,false⟩
theorem U2:aL Tryz.prog 168 Lh:=bH Tryz.func168
def Lc:bq:=⟨29,Zo,[.tmp 4],true,false⟩
theorem U1:aL Tryz.prog 169 Lc:=bH Tryz.func169
def Lb:bq:=⟨6,Zm,[.tmp 2],true,false⟩
theorem U0:aL Tryz.prog 170 Lb:=bH Tryz.func170
def La:bq:=⟨27,Zl,[.tmp 4],true,true⟩
theorem UZ:aL Tryz.prog 173 La:=bH Tryz.func173
def K9:bq:=⟨28,Zk,[.tmp 4],true,false⟩
theorem UY:aL Tryz.prog 174 K9:=bH Tryz.func174
def K8:bq:=⟨46,Zj,[.tmp 2],true,false⟩
theorem UX:aL Tryz.prog 175 K8:=bH Tryz.func175
def Gs:bq:=⟨22,Zi,[.tmp 4],true,false⟩
theorem UW:aL Tryz.prog 177 Gs:=bH Tryz.func177
def K7:bq:=⟨9,Zh,[.tmp 4],true,false⟩
theorem UU:aL Tryz.prog 178 K7:=bH Tryz.func178
def K6:bq:=⟨14,Zg,[.tmp 4],true,false⟩
theorem UT:aL Tryz.prog 180 K6:=bH Tryz.func180
def K5:bq:=⟨7,Zf,[.tmp 2],true,false⟩
theorem US:aL Tryz.prog 181 K5:=bH Tryz.func181
def K4:bq:=⟨29,Ze,[.tmp 2],true,false⟩
theorem UR:aL Tryz.prog 182 K4:=bH Tryz.func182
def K3:bq:=⟨23,Zd,[.tmp 2],true,false⟩
theorem UQ:aL Tryz.prog 183 K3:=bH Tryz.func183
def K0:bq:=⟨19,Zc,[.tmp 4],true,false⟩
theorem UP:aL Tryz.prog 184 K0:=bH Tryz.func184
def KZ:bq:=⟨25,Zb,[.tmp 2],true,false⟩
theorem UO:aL Tryz.prog 187 KZ:=bH Tryz.func187
def KY:bq:=⟨19,Za,[.tmp 4],true,false⟩
theorem UN:aL Tryz.prog 188 KY:=bH Tryz.func188
def KX:bq:=⟨37,Y9,[.cell 8 (some 6), .tmp 9],true,false⟩
theorem UM:aL Tryz.prog 189 KX:=bH Tryz.func189
def xy:bq:=⟨8,Y8,[.cell 2 (some 6)],true,false⟩
theorem UL:aL Tryz.prog 190 xy:=bH Tryz.func190
def Gr:bq:=⟨30,Y7,[.cell 2 (some 2), .tmp 3],true,false⟩
theorem UK:aL Tryz.prog 191 Gr:=bH Tryz.func191
def xw:bq:=⟨16,Y6,[.cell 4 (some 6)],true,false⟩
theorem UJ:aL Tryz.prog 192 xw:=bH Tryz.func192
def KW:bq:=⟨8,Y5,[.tmp 2],true,false⟩
theorem UI:aL Tryz.prog 193 KW:=bH Tryz.func193
def KV:bq:=⟨50,Y4,[.tmp 2],true,false⟩
theorem UH:aL Tryz.prog 197 KV:=bH Tryz.func197
def C3:bq:=⟨9,Y3,[.cell 2 (some 3)],true,false⟩
theorem UG:aL Tryz.prog 198 C3:=bH Tryz.func198
def KU:bq:=⟨38,Y2,[.tmp 4],true,false⟩
theorem UF:aL Tryz.prog 199 KU:=bH Tryz.func199
def Gq:bq:=⟨16,YZ,[.cell 4 (some 2)],true,false⟩
theorem UE:aL Tryz.prog 200 Gq:=bH Tryz.func200
def KT:bq:=⟨5,YY,[.cell 2 (some 2)],true,false⟩
theorem UD:aL Tryz.prog 201 KT:=bH Tryz.func201
def KS:bq:=⟨19,YX,[.tmp 4],true,false⟩
theorem UC:aL Tryz.prog 202 KS:=bH Tryz.func202
def KR:bq:=⟨21,YW,[.tmp 2],true,false⟩
theorem UB:aL Tryz.prog 205 KR:=bH Tryz.func205
def KQ:bq:=⟨5,YV,[.tmp 2],true,false⟩
theorem UA:aL Tryz.prog 209 KQ:=bH Tryz.func209
def Gp:bq:=⟨38,YU,[.cell 4 (some 3), .tmp 5],true,false⟩
theorem Uz:aL Tryz.prog 210 Gp:=bH Tryz.func210
def KP:bq:=⟨16,YT,[.cell 4 (some 3)],true,false⟩
theorem Uy:aL Tryz.prog 211 KP:=bH Tryz.func211
def KO:bq:=⟨14,YS,[.cell 6 (some 6)],true,false⟩
theorem Ux:aL Tryz.prog 212 KO:=bH Tryz.func212
def KN:bq:=⟨22,YR,[.cell 4 (some 6)],true,false⟩
theorem Uw:aL Tryz.prog 213 KN:=bH Tryz.func213
def KM:bq:=⟨22,YQ,[.tmp 2, .tmp 3],true,false⟩
theorem Uv:aL Tryz.prog 214 KM:=bH Tryz.func214
def uU:bq:=⟨9,YP,[.cell 4 (some 3)],true,false⟩
theorem Uu:aL Tryz.prog 215 uU:=bH Tryz.func215
def KL:bq:=⟨18,YO,[.tmp 2, .tmp 3],true,false⟩
theorem Ut:aL Tryz.prog 217 KL:=bH Tryz.func217
def KK:bq:=⟨52,YN,[.tmp 2],true,false⟩
theorem Ur:aL Tryz.prog 218 KK:=bH Tryz.func218
def KJ:bq:=⟨6,YM,[.tmp 2],true,false⟩
theorem Uq:aL Tryz.prog 220 KJ:=bH Tryz.func220
def KI:bq:=⟨10,YL,[.tmp 2],true,false⟩
theorem Up:aL Tryz.prog 221 KI:=bH Tryz.func221
def KH:bq:=⟨8,YK,[.cell 2 (some 2)],true,false⟩
theorem Uo:aL Tryz.prog 222 KH:=bH Tryz.func222
def KG:bq:=⟨39,YJ,[.tmp 4],true,false⟩
theorem Un:aL Tryz.prog 223 KG:=bH Tryz.func223
def KF:bq:=⟨15,YI,[.cell 4 (some 2)],true,false⟩
theorem Um:aL Tryz.prog 224 KF:=bH Tryz.func224
def C2:bq:=⟨71,YH,[.tmp 4],true,false⟩
theorem Ul:aL Tryz.prog 225 C2:=bH Tryz.func225
def uT:bq:=⟨38,YG,[.cell 4 (some 3)],true,false⟩
theorem Uk:aL Tryz.prog 229 uT:=bH Tryz.func229
def Gn:bq:=⟨20,YF,[.cell 4 (some 3)],true,false⟩
theorem Uj:aL Tryz.prog 230 Gn:=bH Tryz.func230
def KE:bq:=⟨16,YE,[.cell 4 (some 6)],true,false⟩
theorem Ui:aL Tryz.prog 231 KE:=bH Tryz.func231
def KD:bq:=⟨14,YD,[.cell 4 (some 6)],true,false⟩
theorem Uh:aL Tryz.prog 232 KD:=bH Tryz.func232
def Gm:bq:=⟨25,YC,[.cell 4 (some 3), .tmp 5],true,false⟩
theorem Ug:aL Tryz.prog 233 Gm:=bH Tryz.func233
def KC:bq:=⟨49,YB,[.tmp 2, .tmp 3],true,false⟩
theorem Uf:aL Tryz.prog 234 KC:=bH Tryz.func234
def KB:bq:=⟨36,YA,[.cell 2 (some 2)],true,false⟩
theorem Ue:aL Tryz.prog 235 KB:=bH Tryz.func235
def AG:bq:=⟨30,Yz,[.cell 4 (some 3)],true,false⟩
theorem T9:aL Tryz.prog 236 AG:=bH Tryz.func236
def KA:bq:=⟨11,Yy,[.cell 2 (some 3)],true,false⟩
theorem T8:aL Tryz.prog 237 KA:=bH Tryz.func237
def Kz:bq:=⟨21,Yx,[.tmp 2],true,true⟩
theorem T7:aL Tryz.prog 239 Kz:=bH Tryz.func239
def Ky:bq:=⟨20,Yw,[.tmp 4],true,false⟩
theorem T6:aL Tryz.prog 240 Ky:=bH Tryz.func240
def Kx:bq:=⟨13,Yv,[.tmp 2],true,false⟩
theorem T5:aL Tryz.prog 241 Kx:=bH Tryz.func241
def Kw:bq:=⟨25,Yu,[.tmp 4],true,false⟩
theorem T4:aL Tryz.prog 242 Kw:=bH Tryz.func242
def Gl:bq:=⟨93,Yt,[.tmp 4, .tmp 5, .tmp 6],true,false⟩
theorem T3:aL Tryz.prog 243 Gl:=bH Tryz.func243
def Kv:bq:=⟨14,Ys,[.cell 2 (some 2)],true,false⟩
theorem T2:aL Tryz.prog 244 Kv:=bH Tryz.func244
def Ku:bq:=⟨60,Yr,[.tmp 4],true,false⟩
theorem T1:aL Tryz.prog 245 Ku:=bH Tryz.func245
def Kt:bq:=⟨47,Yq,[.cell 4 (some 2)],true,false⟩
theorem T0:aL Tryz.prog 246 Kt:=bH Tryz.func246
def Ks:bq:=⟨9,Yp,[.cell 2 (some 2)],true,false⟩
theorem TZ:aL Tryz.prog 247 Ks:=bH Tryz.func247
def Kr:bq:=⟨6,Yo,[.tmp 2],true,false⟩
theorem TY:aL Tryz.prog 248 Kr:=bH Tryz.func248
def Kq:bq:=⟨43,Yn,[.tmp 4, .tmp 5],true,false⟩
theorem TX:aL Tryz.prog 249 Kq:=bH Tryz.func249
def Kp:bq:=⟨54,Ym,[.tmp 4, .tmp 5],true,false⟩
theorem TW:aL Tryz.prog 254 Kp:=bH Tryz.func254
end Go.aR.Cd
end
section
namespace Go.aR.Cd
open Go Go.Proofs
set_option maxRecDepth 100000
def TV:List (Nat×bq):=[(65,Tl),(239,Kz),(88,S1),(140,LD),(198,C3),(224,KF),(225,C2),(200,Gq),(229,uT),(215,uU),(192,xw),(190,xy),(241,Kx),(122,LS),(243,Gl),(230,Gn),(201,KT),(184,K0),(141,LC),(236,AG),(126,LO),(223,KG),(248,Kr),(167,Li),(120,LV),(55,I1),(222,KH),(159,Lr),(245,Ku),(233,Gm),(221,KI),(220,KJ),(211,KP),(205,KR),(188,KY),(169,Lc),(161,Lq),(152,Lw),(148,LA),(139,LF),(121,LU),(107,L3),(106,L4),(80,S9),(246,Kt),(218,KK),(217,KL),(197,KV),(174,K9),(156,Lv),(92,SY),(29,TK),(242,Kw),(240,Ky),(237,KA),(177,Gs),(105,L5),(93,SX),(79,Ta),(22,Oo),(66,Tk),(31,TI),(12,TR),(249,Kq),(244,Kv),(232,KD),(231,KE),(213,KN),(212,KO),(210,Gp),(191,Gr),(189,KX),(187,KZ),(182,K4),(181,K5),(168,Lh),(162,Ln),(142,LB),(125,LP),(108,LZ),(91,SZ),(90,I0),(83,S6),(74,On),(68,Ti),(51,Ty),(48,TB),(36,TD),(11,TU),(254,Kp),(247,Ks),(170,Lb),(160,Gu),(149,Ly),(132,Gv),(129,LN),(109,LY),(89,S0),(87,S2),(86,S3),(63,Tm),(214,KM),(202,KS),(183,K3),(180,K6),(178,K7),(175,K8),(173,La),(166,Lj),(165,Lk),(157,Lu),(151,Lx),(134,LJ),(130,LM),(124,LQ),(123,LR),(119,LW),(118,LX),(102,L7),(101,L8),(100,Gw),(97,SV),(82,S7),(81,S8),(78,Tb),(76,Td),(69,Th),(67,Tj),(57,Ts),(56,Tu),(54,Tv),(50,Tz),(49,TA),(42,TC),(35,TE),(30,TJ),(15,TO),(14,TP),(13,TQ),(235,KB),(234,KC),(209,KQ),(199,KU),(193,KW),(164,Ll),(163,Lm),(158,Lt),(138,LG),(136,LH),(135,LI),(133,LK),(131,LL),(104,L6),(98,SU),(85,S4),(84,S5),(77,Tc),(75,Tf),(62,Tn),(60,To),(59,Tp),(58,Tq),(53,Tw),(52,Tx),(34,TF),(33,TG),(32,TH),(28,TL),(27,TM),(16,TN),(9,fr9)]
abbrev gR:Nat→Option bq:=find TV
theorem bG:Dp Tryz.prog gR:=AH (show Hs Tryz.prog TV from⟨apY,T7,apF,Vt,UG,Um,Ul,UE,Uk,Uu,UJ,UL,T5,VI,T3,Uj,UD,UP,Vs,T9,VE,Un,TY,U3,VK,aqG,Uo,Vb,T1,Ug,Up,Uq,Uy,UB,UN,U1,U9,Vm,Vq,Vu,VJ,VP,VQ,apN,T0,Ur,Ut,UH,UY,Vl,apB,aqW,T4,T6,T8,UW,VR,apA,apO,aqZ,apX,aqU,arE,TX,T2,Uh,Ui,Uw,Ux,Uz,UK,UM,UO,UR,US,U2,U8,Vr,VF,VO,apC,apD,apK,apT,apV,aqK,aqN,aqP,arF,TW,TZ,U0,Va,Vp,VA,VD,VN,apE,apG,apH,apZ,Uv,UC,UQ,UT,UU,UX,UZ,U4,U5,Vd,Vo,Vy,VC,VG,VH,VL,VM,VT,VU,VV,aoZ,apL,apM,apP,apR,apU,apW,aqE,aqF,aqH,aqL,aqM,aqO,aqQ,aqV,arB,arC,arD,Ue,Uf,UA,UF,UI,U6,U7,Vc,Vv,Vw,Vx,Vz,VB,VS,aoY,apI,apJ,apQ,apS,aqA,aqB,aqC,aqD,aqI,aqJ,aqR,aqS,aqT,aqX,aqY,arA,fk9,trivial⟩)
def l0:List (Nat×List W×V):=[]
theorem k0:bW Tryz.prog (bQ l0):=H6
def a1:List W:=[.agg [.t (bo false), .t (nl), .t (nl)], .agg [.t (bo false), .t (nl), .t (nl)]]
def v1:V:= .w (.one (.t (i 0)))
theorem r1:Fn Tryz.prog 177 a1 [] v1 []∧v1.cg=true:=bc (fuel:=10000) (d:=60) bG k0 (show gR 177=some Gs from rfl) (by kernel_rfl)
def l1:List (Nat×List W×V):=(177,a1,v1)::l0
theorem k1:bW Tryz.prog (bQ l1):=aS k0 r1
def a2:List W:=[.one (.t (.aD 2 [[i 0,i 0],[i 10,i 0],[i 10,i 10],[i 0,i 10]]))]
def v2:V:= .w (.one (.t (i 0)))
theorem r2:Fn Tryz.prog 55 a2 [] v2 []∧v2.cg=true:=bc (fuel:=10000) (d:=60) bG k1 (show gR 55=some I1 from rfl) (by kernel_rfl)
def l2:List (Nat×List W×V):=(55,a2,v2)::l1
theorem k2:bW Tryz.prog (bQ l2):=aS k1 r2
def a3:List W:=[.one (.t (.aD 2 [[.val (.string ⟨#[108,111,119]⟩), .aD 2 [[i 0,i 0],[i 10,i 0]]],[.val (.string ⟨#[114,105,103,104,116]⟩), .aD 2 [[i 10,i 0],[i 10,i 10]]],[.val (.string ⟨#[104,105,103,104]⟩), .aD 2 [[i 10,i 10],[i 0,i 10]]],[.val (.string ⟨#[108,101,102,116]⟩), .aD 2 [[i 0,i 10],[i 0,i 0]]]]))]
def v3:V:= .w (.one (.t (i 0)))
theorem r3:Fn Tryz.prog 160 a3 [] v3 []∧v3.cg=true:=bc (fuel:=10000) (d:=60) bG k2 (show gR 160=some Gu from rfl) (by kernel_rfl)
def l3:List (Nat×List W×V):=(160,a3,v3)::l2
theorem k3:bW Tryz.prog (bQ l3):=aS k2 r3
def a4:List W:=[.agg [.t (.val (.string ⟨#[102,114,111,110,116]⟩)), .t (.aD 2 [[.val (.string ⟨#[108,111,119]⟩), .aD 2 [[i 0,i 0],[i 10,i 0]]],[.val (.string ⟨#[114,105,103,104,116]⟩), .aD 2 [[i 10,i 0],[i 10,i 10]]],[.val (.string ⟨#[104,105,103,104]⟩), .aD 2 [[i 10,i 10],[i 0,i 10]]],[.val (.string ⟨#[108,101,102,116]⟩), .aD 2 [[i 0,i 10],[i 0,i 0]]]]), .t (i 1), .t (nl), .t (.aD 2 [[i 0,i 0],[i 0,i 0],[i 0,i 0],[i 0,i 0]]), .t (.aD 1 [[i 0],[i 0],[i 0],[i 0]]), .t (bo false)], .one (.t (i 0))]
def v4:V:= .ej [.one (.t (.aD 2 [[.val (.string ⟨#[108,111,119]⟩), .aD 2 [[i 0,i 0],[i 10,i 0]]],[.val (.string ⟨#[114,105,103,104,116]⟩), .aD 2 [[i 10,i 0],[i 10,i 10]]],[.val (.string ⟨#[104,105,103,104]⟩), .aD 2 [[i 10,i 10],[i 0,i 10]]],[.val (.string ⟨#[108,101,102,116]⟩), .aD 2 [[i 0,i 10],[i 0,i 0]]]])), .one (.t (i 0))]
theorem r4:Fn Tryz.prog 132 a4 [] v4 []∧v4.cg=true:=bc (fuel:=10000) (d:=60) bG k3 (show gR 132=some Gv from rfl) (by kernel_rfl)
def l4:List (Nat×List W×V):=(132,a4,v4)::l3
theorem k4:bW Tryz.prog (bQ l4):=aS k3 r4
def a5:List W:=[.agg [.t (.val (.string ⟨#[115,104,105,114,116]⟩)), .t (.aD 1 [[.val (.string ⟨#[83]⟩)],[.val (.string ⟨#[77]⟩)]]), .t (.aD 1 [[i 0],[i 0]]), .t (.aD 7 [[.val (.string ⟨#[102,114,111,110,116]⟩), .aD 2 [[.val (.string ⟨#[108,111,119]⟩), .aD 2 [[i 0,i 0],[i 10,i 0]]],[.val (.string ⟨#[114,105,103,104,116]⟩), .aD 2 [[i 10,i 0],[i 10,i 10]]],[.val (.string ⟨#[104,105,103,104]⟩), .aD 2 [[i 10,i 10],[i 0,i 10]]],[.val (.string ⟨#[108,101,102,116]⟩), .aD 2 [[i 0,i 10],[i 0,i 0]]]],i 1,nl, .aD 2 [[i 0,i 0],[i 0,i 0],[i 0,i 0],[i 0,i 0]], .aD 1 [[i 0],[i 0],[i 0],[i 0]],bo false]]), .t (.aD 3 [[i 0,i 2,bo false]]), .t (nl), .t (nl)]]
def v5:V:= .w (.one (.t (i 0)))
theorem r5:Fn Tryz.prog 74 a5 [] v5 []∧v5.cg=true:=bc (fuel:=10000) (d:=60) bG k4 (show gR 74=some On from rfl) (by kernel_rfl)
def l5:List (Nat×List W×V):=(74,a5,v5)::l4
theorem k5:bW Tryz.prog (bQ l5):=aS k4 r5
def a6:List W:=[.one (.t (.aD 1 [[u 1]])), .one (.t (.aD 1 [[u 1]]))]
def v6:V:= .ej [.one (.t (.aD 1 [[u 1]])), .one (.t (.aD 1 [])), .one (.t (bo true))]
theorem r6:Fn Tryz.prog 243 a6 [] v6 []∧v6.cg=true:=bc (fuel:=10000) (d:=60) bG k5 (show gR 243=some Gl from rfl) (by kernel_rfl)
def l6:List (Nat×List W×V):=(243,a6,v6)::l5
theorem k6:bW Tryz.prog (bQ l6):=aS k5 r6
def a7:List W:=[.agg [.t (bo false), .t (.aD 1 [])], .one (.t (.aD 1 [[u 1]]))]
def v7:V:= .w (.agg [.t (bo false), .t (.aD 1 []), .t (.aD 1 [[u 1]])])
theorem r7:Fn Tryz.prog 229 a7 [] v7 []∧v7.cg=true:=bc (fuel:=10000) (d:=60) bG k6 (show gR 229=some uT from rfl) (by kernel_rfl)
def l7:List (Nat×List W×V):=(229,a7,v7)::l6
theorem k7:bW Tryz.prog (bQ l7):=aS k6 r7
def a8:List W:=[.agg [.t (bo false), .t (.aD 1 [[u 10]])], .one (.t (.aD 1 [[u 1]]))]
def v8:V:= .w (.agg [.t (bo false), .t (.aD 1 [[u 10]]), .t (.aD 1 [[u 1]])])
theorem r8:Fn Tryz.prog 229 a8 [] v8 []∧v8.cg=true:=bc (fuel:=10000) (d:=60) bG k7 (show gR 229=some uT from rfl) (by kernel_rfl)
def l8:List (Nat×List W×V):=(229,a8,v8)::l7
theorem k8:bW Tryz.prog (bQ l8):=aS k7 r8
def a9:List W:=[.one (.t (i 10)), .one (.t (i 1))]
def v9:V:= .ej [.agg [.t (bo false), .t (.aD 1 [[u 10]]), .t (.aD 1 [[u 1]])], .one (.t (bo true))]
theorem r9:Fn Tryz.prog 233 a9 [] v9 []∧v9.cg=true:=bc (fuel:=10000) (d:=60) bG k8 (show gR 233=some Gm from rfl) (by kernel_rfl)
def l9:List (Nat×List W×V):=(233,a9,v9)::l8
theorem k9:bW Tryz.prog (bQ l9):=aS k8 r9
def a10:List W:=[.agg [.t (i 0), .t (i 10)]]
def v10:V:= .w (.agg [.t (bo false), .t (.aD 1 []), .t (.aD 1 [[u 1]]), .t (bo false), .t (.aD 1 [[u 10]]), .t (.aD 1 [[u 1]])])
theorem r10:Fn Tryz.prog 190 a10 [] v10 []∧v10.cg=true:=bc (fuel:=10000) (d:=60) bG k9 (show gR 190=some xy from rfl) (by kernel_rfl)
def EO:List (Nat×List W×V):=(190,a10,v10)::l9
theorem k10:bW Tryz.prog (bQ EO):=aS k9 r10
def a11:List W:=[.agg [.t (i 0), .t (i 0)]]
def v11:V:= .w (.agg [.t (bo false), .t (.aD 1 []), .t (.aD 1 [[u 1]]), .t (bo false), .t (.aD 1 []), .t (.aD 1 [[u 1]])])
theorem r11:Fn Tryz.prog 190 a11 [] v11 []∧v11.cg=true:=bc (fuel:=10000) (d:=60) bG k10 (show gR 190=some xy from rfl) (by kernel_rfl)
def l11:List (Nat×List W×V):=(190,a11,v11)::EO
theorem k11:bW Tryz.prog (bQ l11):=aS k10 r11
def a12:List W:=[.agg [.t (i 10), .t (i 0)]]
def v12:V:= .w (.agg [.t (bo false), .t (.aD 1 [[u 10]]), .t (.aD 1 [[u 1]]), .t (bo false), .t (.aD 1 []), .t (.aD 1 [[u 1]])])
theorem r12:Fn Tryz.prog 190 a12 [] v12 []∧v12.cg=true:=bc (fuel:=10000) (d:=60) bG k11 (show gR 190=some xy from rfl) (by kernel_rfl)
def l12:List (Nat×List W×V):=(190,a12,v12)::l11
theorem k12:bW Tryz.prog (bQ l12):=aS k11 r12
def a13:List W:=[.agg [.t (bo false), .t (.aD 1 []), .t (.aD 1 [[u 1]])]]
def v13:V:= .w (.agg [.t (bo false), .t (.aD 1 []), .t (.aD 1 [[u 1]])])
theorem r13:Fn Tryz.prog 198 a13 [] v13 []∧v13.cg=true:=bc (fuel:=10000) (d:=60) bG k12 (show gR 198=some C3 from rfl) (by kernel_rfl)
def l13:List (Nat×List W×V):=(198,a13,v13)::l12
theorem k13:bW Tryz.prog (bQ l13):=aS k12 r13
def a14:List W:=[.agg [.t (bo false), .t (.aD 1 [[u 10]]), .t (.aD 1 [[u 1]])]]
def v14:V:= .w (.agg [.t (bo false), .t (.aD 1 [[u 10]]), .t (.aD 1 [[u 1]])])
theorem r14:Fn Tryz.prog 198 a14 [] v14 []∧v14.cg=true:=bc (fuel:=10000) (d:=60) bG k13 (show gR 198=some C3 from rfl) (by kernel_rfl)
def l14:List (Nat×List W×V):=(198,a14,v14)::l13
theorem k14:bW Tryz.prog (bQ l14):=aS k13 r14
def a15:List W:=[.agg [.t (bo false), .t (.aD 1 [])], .agg [.t (bo false), .t (.aD 1 [[u 1]])]]
def v15:V:= .w (.agg [.t (bo false), .t (.aD 1 [])])
theorem r15:Fn Tryz.prog 200 a15 [] v15 []∧v15.cg=true:=bc (fuel:=10000) (d:=60) bG k14 (show gR 200=some Gq from rfl) (by kernel_rfl)
def l15:List (Nat×List W×V):=(200,a15,v15)::l14
theorem k15:bW Tryz.prog (bQ l15):=aS k14 r15
def a16:List W:=[.one (.t (.aD 1 [[u 1]])), .one (.t (.aD 1 [[u 1]]))]
def v16:V:= .w (.one (.t (.aD 1 [[u 1]])))
theorem r16:Fn Tryz.prog 225 a16 [] v16 []∧v16.cg=true:=bc (fuel:=10000) (d:=60) bG k15 (show gR 225=some C2 from rfl) (by kernel_rfl)
def l16:List (Nat×List W×V):=(225,a16,v16)::l15
theorem k16:bW Tryz.prog (bQ l16):=aS k15 r16
def a17:List W:=[.agg [.t (bo false), .t (.aD 1 [[u 10]]), .t (.aD 1 [[u 1]])], .agg [.t (bo false), .t (.aD 1 []), .t (.aD 1 [[u 1]])]]
def v17:V:= .w (.agg [.t (bo false), .t (.aD 1 [[u 10]]), .t (.aD 1 [[u 1]])])
theorem r17:Fn Tryz.prog 236 a17 [] v17 []∧v17.cg=true:=bc (fuel:=10000) (d:=60) bG k16 (show gR 236=some AG from rfl) (by kernel_rfl)
def l17:List (Nat×List W×V):=(236,a17,v17)::l16
theorem k17:bW Tryz.prog (bQ l17):=aS k16 r17
def a18:List W:=[.agg [.t (bo false), .t (.aD 1 []), .t (.aD 1 [[u 1]])], .agg [.t (bo false), .t (.aD 1 []), .t (.aD 1 [[u 1]])]]
def v18:V:= .w (.agg [.t (bo false), .t (.aD 1 []), .t (.aD 1 [[u 1]])])
theorem r18:Fn Tryz.prog 236 a18 [] v18 []∧v18.cg=true:=bc (fuel:=10000) (d:=60) bG k17 (show gR 236=some AG from rfl) (by kernel_rfl)
def l18:List (Nat×List W×V):=(236,a18,v18)::l17
theorem k18:bW Tryz.prog (bQ l18):=aS k17 r18
def a19:List W:=[.agg [.t (bo false), .t (.aD 1 []), .t (.aD 1 [[u 1]])], .agg [.t (bo false), .t (.aD 1 []), .t (.aD 1 [[u 1]])]]
def v19:V:= .w (.agg [.t (bo false), .t (.aD 1 []), .t (.aD 1 [[u 1]])])
theorem r19:Fn Tryz.prog 215 a19 [] v19 []∧v19.cg=true:=bc (fuel:=10000) (d:=60) bG k18 (show gR 215=some uU from rfl) (by kernel_rfl)
def l19:List (Nat×List W×V):=(215,a19,v19)::l18
theorem k19:bW Tryz.prog (bQ l19):=aS k18 r19
def a20:List W:=[.agg [.t (bo false), .t (.aD 1 [[u 10]]), .t (.aD 1 [[u 1]]), .t (bo false), .t (.aD 1 []), .t (.aD 1 [[u 1]])], .agg [.t (bo false), .t (.aD 1 []), .t (.aD 1 [[u 1]]), .t (bo false), .t (.aD 1 []), .t (.aD 1 [[u 1]])]]
def v20:V:= .w (.agg [.t (bo false), .t (.aD 1 [[u 10]]), .t (.aD 1 [[u 1]]), .t (bo false), .t (.aD 1 []), .t (.aD 1 [[u 1]])])
theorem r20:Fn Tryz.prog 192 a20 [] v20 []∧v20.cg=true:=bc (fuel:=10000) (d:=60) bG k19 (show gR 192=some xw from rfl) (by kernel_rfl)
def l20:List (Nat×List W×V):=(192,a20,v20)::l19
theorem k20:bW Tryz.prog (bQ l20):=aS k19 r20
def a21:List W:=[.agg [.t (bo true), .t (.aD 1 [[u 10]])], .one (.t (.aD 1 [[u 1]]))]
def v21:V:= .w (.agg [.t (bo true), .t (.aD 1 [[u 10]]), .t (.aD 1 [[u 1]])])
theorem r21:Fn Tryz.prog 229 a21 [] v21 []∧v21.cg=true:=bc (fuel:=10000) (d:=60) bG k20 (show gR 229=some uT from rfl) (by kernel_rfl)
def l21:List (Nat×List W×V):=(229,a21,v21)::l20
theorem k21:bW Tryz.prog (bQ l21):=aS k20 r21
def a22:List W:=[.agg [.t (bo false), .t (.aD 1 []), .t (.aD 1 [[u 1]])], .agg [.t (bo false), .t (.aD 1 [[u 10]]), .t (.aD 1 [[u 1]])]]
def v22:V:= .w (.agg [.t (bo true), .t (.aD 1 [[u 10]]), .t (.aD 1 [[u 1]])])
theorem r22:Fn Tryz.prog 215 a22 [] v22 []∧v22.cg=true:=bc (fuel:=10000) (d:=60) bG k21 (show gR 215=some uU from rfl) (by kernel_rfl)
def l22:List (Nat×List W×V):=(215,a22,v22)::l21
theorem k22:bW Tryz.prog (bQ l22):=aS k21 r22
def a23:List W:=[.agg [.t (bo false), .t (.aD 1 []), .t (.aD 1 [[u 1]]), .t (bo false), .t (.aD 1 []), .t (.aD 1 [[u 1]])], .agg [.t (bo false), .t (.aD 1 []), .t (.aD 1 [[u 1]]), .t (bo false), .t (.aD 1 [[u 10]]), .t (.aD 1 [[u 1]])]]
def v23:V:= .w (.agg [.t (bo false), .t (.aD 1 []), .t (.aD 1 [[u 1]]), .t (bo true), .t (.aD 1 [[u 10]]), .t (.aD 1 [[u 1]])])
theorem r23:Fn Tryz.prog 192 a23 [] v23 []∧v23.cg=true:=bc (fuel:=10000) (d:=60) bG k22 (show gR 192=some xw from rfl) (by kernel_rfl)
def l23:List (Nat×List W×V):=(192,a23,v23)::l22
theorem k23:bW Tryz.prog (bQ l23):=aS k22 r23
def a24:List W:=[.agg [.t (bo false), .t (.aD 1 []), .t (.aD 1 [[u 1]])], .agg [.t (bo false), .t (.aD 1 []), .t (.aD 1 [[u 1]])]]
def v24:V:= .w (.agg [.t (bo false), .t (.aD 1 []), .t (.aD 1 [[u 1]])])
theorem r24:Fn Tryz.prog 230 a24 [] v24 []∧v24.cg=true:=bc (fuel:=10000) (d:=60) bG k23 (show gR 230=some Gn from rfl) (by kernel_rfl)
def l24:List (Nat×List W×V):=(230,a24,v24)::l23
theorem k24:bW Tryz.prog (bQ l24):=aS k23 r24
def a25:List W:=[.one (.t (.aD 1 [[u 10]])), .one (.t (.aD 1 [[u 10]]))]
def v25:V:= .w (.one (.t (.aD 1 [[u 100]])))
theorem r25:Fn Tryz.prog 225 a25 [] v25 []∧v25.cg=true:=bc (fuel:=10000) (d:=60) bG k24 (show gR 225=some C2 from rfl) (by kernel_rfl)
def l25:List (Nat×List W×V):=(225,a25,v25)::l24
theorem k25:bW Tryz.prog (bQ l25):=aS k24 r25
def a26:List W:=[.agg [.t (bo true), .t (.aD 1 [[u 100]])], .one (.t (.aD 1 [[u 1]]))]
def v26:V:= .w (.agg [.t (bo true), .t (.aD 1 [[u 100]]), .t (.aD 1 [[u 1]])])
theorem r26:Fn Tryz.prog 229 a26 [] v26 []∧v26.cg=true:=bc (fuel:=10000) (d:=60) bG k25 (show gR 229=some uT from rfl) (by kernel_rfl)
def l26:List (Nat×List W×V):=(229,a26,v26)::l25
theorem k26:bW Tryz.prog (bQ l26):=aS k25 r26
def a27:List W:=[.agg [.t (bo false), .t (.aD 1 [[u 100]])], .one (.t (.aD 1 [[u 1]]))]
def v27:V:= .w (.agg [.t (bo false), .t (.aD 1 [[u 100]]), .t (.aD 1 [[u 1]])])
theorem r27:Fn Tryz.prog 229 a27 [] v27 []∧v27.cg=true:=bc (fuel:=10000) (d:=60) bG k26 (show gR 229=some uT from rfl) (by kernel_rfl)
def l27:List (Nat×List W×V):=(229,a27,v27)::l26
theorem k27:bW Tryz.prog (bQ l27):=aS k26 r27
def a28:List W:=[.agg [.t (bo false), .t (.aD 1 []), .t (.aD 1 [[u 1]])], .agg [.t (bo true), .t (.aD 1 [[u 100]]), .t (.aD 1 [[u 1]])]]
def v28:V:= .w (.agg [.t (bo false), .t (.aD 1 [[u 100]]), .t (.aD 1 [[u 1]])])
theorem r28:Fn Tryz.prog 215 a28 [] v28 []∧v28.cg=true:=bc (fuel:=10000) (d:=60) bG k27 (show gR 215=some uU from rfl) (by kernel_rfl)
def l28:List (Nat×List W×V):=(215,a28,v28)::l27
theorem k28:bW Tryz.prog (bQ l28):=aS k27 r28
def a29:List W:=[.agg [.t (bo false), .t (.aD 1 [[u 100]]), .t (.aD 1 [[u 1]])], .agg [.t (bo false), .t (.aD 1 [[u 100]]), .t (.aD 1 [[u 1]])]]
def v29:V:= .ej [.agg [.t (bo false), .t (.aD 1 [[u 1]]), .t (.aD 1 [[u 1]])], .one (.t (bo true))]
theorem r29:Fn Tryz.prog 210 a29 [] v29 []∧v29.cg=true:=bc (fuel:=10000) (d:=60) bG k28 (show gR 210=some Gp from rfl) (by kernel_rfl)
def l29:List (Nat×List W×V):=(210,a29,v29)::l28
theorem k29:bW Tryz.prog (bQ l29):=aS k28 r29
def a30:List W:=[.agg [.t (bo false), .t (.aD 1 [[u 10]]), .t (.aD 1 [[u 1]])], .agg [.t (bo true), .t (.aD 1 [[u 10]]), .t (.aD 1 [[u 1]])]]
def v30:V:= .w (.agg [.t (bo false), .t (.aD 1 []), .t (.aD 1 [[u 1]])])
theorem r30:Fn Tryz.prog 236 a30 [] v30 []∧v30.cg=true:=bc (fuel:=10000) (d:=60) bG k29 (show gR 236=some AG from rfl) (by kernel_rfl)
def l30:List (Nat×List W×V):=(236,a30,v30)::l29
theorem k30:bW Tryz.prog (bQ l30):=aS k29 r30
def a31:List W:=[.agg [.t (bo false), .t (.aD 1 []), .t (.aD 1 [[u 1]]), .t (bo false), .t (.aD 1 []), .t (.aD 1 [[u 1]])]]
def v31:V:= .ej [.agg [.t (i 0), .t (i 0)], .one (.t (i 0))]
theorem r31:Fn Tryz.prog 191 a31 [] v31 []∧v31.cg=true:=bc (fuel:=10000) (d:=60) bG k30 (show gR 191=some Gr from rfl) (by kernel_rfl)
def l31:List (Nat×List W×V):=(191,a31,v31)::l30
theorem k31:bW Tryz.prog (bQ l31):=aS k30 r31
def a32:List W:=[.agg [.t (i 10), .t (i 10)]]
def v32:V:= .w (.agg [.t (bo false), .t (.aD 1 [[u 10]]), .t (.aD 1 [[u 1]]), .t (bo false), .t (.aD 1 [[u 10]]), .t (.aD 1 [[u 1]])])
theorem r32:Fn Tryz.prog 190 a32 [] v32 []∧v32.cg=true:=bc (fuel:=10000) (d:=60) bG k31 (show gR 190=some xy from rfl) (by kernel_rfl)
def l32:List (Nat×List W×V):=(190,a32,v32)::l31
theorem k32:bW Tryz.prog (bQ l32):=aS k31 r32
def a33:List W:=[.agg [.t (bo false), .t (.aD 1 [[u 10]]), .t (.aD 1 [[u 1]])], .agg [.t (bo false), .t (.aD 1 [[u 10]]), .t (.aD 1 [[u 1]])]]
def v33:V:= .w (.agg [.t (bo false), .t (.aD 1 []), .t (.aD 1 [[u 1]])])
theorem r33:Fn Tryz.prog 215 a33 [] v33 []∧v33.cg=true:=bc (fuel:=10000) (d:=60) bG k32 (show gR 215=some uU from rfl) (by kernel_rfl)
def l33:List (Nat×List W×V):=(215,a33,v33)::l32
theorem k33:bW Tryz.prog (bQ l33):=aS k32 r33
def a34:List W:=[.agg [.t (bo false), .t (.aD 1 [[u 10]]), .t (.aD 1 [[u 1]]), .t (bo false), .t (.aD 1 [[u 10]]), .t (.aD 1 [[u 1]])], .agg [.t (bo false), .t (.aD 1 [[u 10]]), .t (.aD 1 [[u 1]]), .t (bo false), .t (.aD 1 []), .t (.aD 1 [[u 1]])]]
def v34:V:= .w (.agg [.t (bo false), .t (.aD 1 []), .t (.aD 1 [[u 1]]), .t (bo false), .t (.aD 1 [[u 10]]), .t (.aD 1 [[u 1]])])
theorem r34:Fn Tryz.prog 192 a34 [] v34 []∧v34.cg=true:=bc (fuel:=10000) (d:=60) bG k33 (show gR 192=some xw from rfl) (by kernel_rfl)
def l34:List (Nat×List W×V):=(192,a34,v34)::l33
theorem k34:bW Tryz.prog (bQ l34):=aS k33 r34
def a35:List W:=[.agg [.t (bo false), .t (.aD 1 [[u 100]]), .t (.aD 1 [[u 1]])], .agg [.t (bo false), .t (.aD 1 []), .t (.aD 1 [[u 1]])]]
def v35:V:= .w (.agg [.t (bo false), .t (.aD 1 [[u 100]]), .t (.aD 1 [[u 1]])])
theorem r35:Fn Tryz.prog 215 a35 [] v35 []∧v35.cg=true:=bc (fuel:=10000) (d:=60) bG k34 (show gR 215=some uU from rfl) (by kernel_rfl)
def l35:List (Nat×List W×V):=(215,a35,v35)::l34
theorem k35:bW Tryz.prog (bQ l35):=aS k34 r35
def a36:List W:=[.agg [.t (bo false), .t (.aD 1 []), .t (.aD 1 [[u 1]]), .t (bo false), .t (.aD 1 [[u 10]]), .t (.aD 1 [[u 1]])], .agg [.t (bo false), .t (.aD 1 [[u 10]]), .t (.aD 1 [[u 1]]), .t (bo false), .t (.aD 1 [[u 10]]), .t (.aD 1 [[u 1]])]]
def v36:V:= .w (.agg [.t (bo true), .t (.aD 1 [[u 10]]), .t (.aD 1 [[u 1]]), .t (bo false), .t (.aD 1 []), .t (.aD 1 [[u 1]])])
theorem r36:Fn Tryz.prog 192 a36 [] v36 []∧v36.cg=true:=bc (fuel:=10000) (d:=60) bG k35 (show gR 192=some xw from rfl) (by kernel_rfl)
def l36:List (Nat×List W×V):=(192,a36,v36)::l35
theorem k36:bW Tryz.prog (bQ l36):=aS k35 r36
def a37:List W:=[.agg [.t (.val (.string ⟨#[115,104,105,114,116]⟩)), .t (.aD 1 [[.val (.string ⟨#[83]⟩)],[.val (.string ⟨#[77]⟩)]]), .t (.aD 1 [[i 0],[i 0]]), .t (.aD 7 [[.val (.string ⟨#[102,114,111,110,116]⟩), .aD 2 [[.val (.string ⟨#[108,111,119]⟩), .aD 2 [[i 0,i 0],[i 10,i 0]]],[.val (.string ⟨#[114,105,103,104,116]⟩), .aD 2 [[i 10,i 0],[i 10,i 10]]],[.val (.string ⟨#[104,105,103,104]⟩), .aD 2 [[i 10,i 10],[i 0,i 10]]],[.val (.string ⟨#[108,101,102,116]⟩), .aD 2 [[i 0,i 10],[i 0,i 0]]]],i 1,nl, .aD 2 [[i 0,i 0],[i 0,i 0],[i 0,i 0],[i 0,i 0]], .aD 1 [[i 0],[i 0],[i 0],[i 0]],bo false]]), .t (.aD 3 [[i 0,i 2,bo false]]), .t (nl), .t (nl)], .one (.t (i 1)), .one (.t (i 0))]
def v37:V:= .ej [.one (.t (.aD 2 [[i 0,i 0],[i 10,i 0],[i 10,i 10],[i 0,i 10]])), .one (.t (i 0))]
theorem r37:Fn Tryz.prog 100 a37 [] v37 []∧v37.cg=true:=bc (fuel:=10000) (d:=60) bG k36 (show gR 100=some Gw from rfl) (by kernel_rfl)
def l37:List (Nat×List W×V):=(100,a37,v37)::l36
theorem k37:bW Tryz.prog (bQ l37):=aS k36 r37
def a38:List W:=[.one (.t (.aD 2 [[i 10,i 0],[i 20,i 0],[i 20,i 10],[i 10,i 10]]))]
def v38:V:= .w (.one (.t (i 0)))
theorem r38:Fn Tryz.prog 55 a38 [] v38 []∧v38.cg=true:=bc (fuel:=10000) (d:=60) bG k37 (show gR 55=some I1 from rfl) (by kernel_rfl)
def l38:List (Nat×List W×V):=(55,a38,v38)::l37
theorem k38:bW Tryz.prog (bQ l38):=aS k37 r38
def a39:List W:=[.one (.t (.aD 2 [[i 0,i 0],[i 10,i 0],[i 10,i 10],[i 0,i 10]]))]
def v39:V:= .ej [.one (.t (.aD 1 [[.aD 2 [[i 0,i 10],[i 0,i 0],[i 10,i 0]]],[.aD 2 [[i 10,i 0],[i 10,i 10],[i 0,i 10]]]])), .one (.t (i 0))]
theorem r39:Fn Tryz.prog 90 a39 [] v39 []∧v39.cg=true:=bc (fuel:=10000) (d:=60) bG k38 (show gR 90=some I0 from rfl) (by kernel_rfl)
def l39:List (Nat×List W×V):=(90,a39,v39)::l38
theorem k39:bW Tryz.prog (bQ l39):=aS k38 r39
def a40:List W:=[.one (.t (.aD 2 [[i 10,i 0],[i 20,i 0],[i 20,i 10],[i 10,i 10]]))]
def v40:V:= .ej [.one (.t (.aD 1 [[.aD 2 [[i 10,i 10],[i 10,i 0],[i 20,i 0]]],[.aD 2 [[i 20,i 0],[i 20,i 10],[i 10,i 10]]]])), .one (.t (i 0))]
theorem r40:Fn Tryz.prog 90 a40 [] v40 []∧v40.cg=true:=bc (fuel:=10000) (d:=60) bG k39 (show gR 90=some I0 from rfl) (by kernel_rfl)
def l40:List (Nat×List W×V):=(90,a40,v40)::l39
theorem k40:bW Tryz.prog (bQ l40):=aS k39 r40
def a41:List W:=[.agg [.t (.val (.string ⟨#[115,104,105,114,116]⟩)), .t (.aD 1 [[.val (.string ⟨#[83]⟩)],[.val (.string ⟨#[77]⟩)]]), .t (.aD 1 [[i 0],[i 0]]), .t (.aD 7 [[.val (.string ⟨#[102,114,111,110,116]⟩), .aD 2 [[.val (.string ⟨#[108,111,119]⟩), .aD 2 [[i 0,i 0],[i 10,i 0]]],[.val (.string ⟨#[114,105,103,104,116]⟩), .aD 2 [[i 10,i 0],[i 10,i 10]]],[.val (.string ⟨#[104,105,103,104]⟩), .aD 2 [[i 10,i 10],[i 0,i 10]]],[.val (.string ⟨#[108,101,102,116]⟩), .aD 2 [[i 0,i 10],[i 0,i 0]]]],i 1,nl, .aD 2 [[i 0,i 0],[i 0,i 0],[i 0,i 0],[i 0,i 0]], .aD 1 [[i 0],[i 0],[i 0],[i 0]],bo false]]), .t (.aD 3 [[i 0,i 2,bo false]]), .t (nl), .t (nl)], .agg [.t (i 20), .t (i 10), .t (i 0), .t (i 0), .t (.aD 1 [[i 1]]), .t (.aD 7 [[i 0,i 0,i 0,bo false,i 0,i 0,i 0],[i 0,i 0,i 1,bo false,i 0,i 10,i 0]]), .t (.aD 2 [[i 1, .aD 4 [[i 2,i 5,i 25,i 0]]]])], .one (.t (.aD 7 [[.val (.string ⟨#[65]⟩),i 9,i 50,i 0,i 0,i 0,nl],[.val (.string ⟨#[66]⟩),i 10,i 50,i 0,i 0,i 0,nl],[.val (.string ⟨#[67]⟩),i 10,i 50,i 0,i 0,i 0, .aD 4 [[i 20,i 2,i 1,i 1]]]])), .one (.t (.aD 1 [[i 0],[i 0],[i 1]]))]
def v41:V:= .ej [.one (.t (.aD 6 [[i 0,i 0,i 1,i 1, .aD 1 [[i 2]],bo false],[i 0,i 1,i 1,i 1, .aD 1 [[i 2]],bo true]])), .one (.t (i 0))]
theorem r41:Fn Tryz.prog 22 a41 [] v41 []∧v41.cg=true:=bc (fuel:=10000) (d:=60) bG k40 (show gR 22=some Oo from rfl) (by kernel_rfl)
def l41:List (Nat×List W×V):=(22,a41,v41)::l40
theorem k41:bW Tryz.prog (bQ l41):=aS k40 r41
def a42:List W:=[]
def v42:V:= .w (.one (.t (bo true)))
theorem r42:Fn Tryz.prog 9 a42 [] v42 []∧v42.cg=true:=bc (fuel:=10000) (d:=60) bG k41 (show gR 9=some fr9 from rfl) (by kernel_rfl)
end Go.aR.Cd
end
section
namespace Go.Proofs.YtcaeamnhfodfoaaGreat
open Go.ChangeShapes Go.WideShapes Go.ChangeAt Go.RowKit
set_option maxRecDepth 100000
theorem AW:(Rows.cuttingCountsRow.inPlace==Tryz.prog.inPlace 4)=true:=by kernel_rfl
theorem Je:(Rows.cuttingCountsRow.unfollowed==Tryz.prog.unfollowed 4)=true:=by kernel_rfl
theorem Jf:(Rows.cuttingCountsRow.recurses==Tryz.prog.recurses 4)=true:=by kernel_rfl
theorem EB:(Rows.cuttingCountsRow.named==Tryz.prog.varsNamed 4)=true:=by kernel_rfl
theorem Yk:(Rows.cuttingCountsRow.wf (OpenSpec.ofChange Rows.cuttingCountsSpec)&&laidOutB Tryz.prog&&mapsRowed Tryz.prog&&Tryz.f4.params.all (Tryz.prog.readableRec ·)&&namedTie Tryz.prog Rows.cuttingCountsRow.named Rows.cuttingCountsSpec.vars&& (Rows.cuttingCountsRow.stops== [])&& (Tryz.prog.stops== [])&& (Rows.cuttingCountsRow.knobs== [])&& (Tryz.prog.stopKnobs== []))=true:=by kernel_rfl
theorem Jg:joinedFacts Tryz.prog 4 Tryz.f4 Rows.cuttingCountsSpec Rows.cuttingCountsRow=true:=by
 unfold joinedFacts
 rw[Yk,AW,Je,Jf,EB]
 kernel_rfl
end Go.Proofs.YtcaeamnhfodfoaaGreat
end
section
namespace Go.Proofs.YtcaeamnhfodfoaaGreat
open Go.aR Go.ChangeShapes Go.WideShapes Go.ChangeAt Go.RowKit
theorem Tryz.own:ownKnob Tryz.prog.godebug=none:=by kernel_rfl
theorem Tryz.laidOut:laidOutB Tryz.prog=true:=by kernel_rfl
def Yl:Value:= .agg #[.string ⟨#[]⟩, .slice none 0 0, .slice none 0 0, .slice none 0 0, .slice none 0 0, .slice none 0 0, .slice none 0 0, .int .i64 0, .int .i64 0, .int .i64 0, .int .i64 0, .slice none 0 0, .slice none 0 0, .slice none 0 0, .slice none 0 0, .slice none 0 0]
set_option maxRecDepth 100000 in
theorem B4 (SM: ∀us,Typed Tryz.prog 12 Tryz.f4.params.toList us→aR.Fn Tryz.prog 4 us [] (.w (.one (.t (.val (.bool true))))) []) (os:Os) (started:os.Started) (H:Type) (enc:TypeId×Value→H):
 ReturnsInHanded {} Tryz.checked os 4 .any (Rows.cuttingCountsSpec.pre6 enc Tryz.prog Tryz.f4 Rows.cuttingCountsRow.domain false) (Rows.cuttingCountsSpec.post enc Tryz.prog Tryz.f4 false true false false):=by
 refine returnsInHanded_of_change (C:=Tryz.checked) Tryz.own started (by kernel_rfl) Tryz.func4
  (ChangeSpec.witness6 (enc:=enc) (C:=Tryz.checked) false ⟨#[], #[Yl],[]⟩ 8 (by kernel_rfl) (by kernel_rfl) (by kernel_rfl) (by kernel_rfl)) ?_
 intro W base args ds gs before hval hW _ _
 refine DZ (P:=Tryz.prog) (d:=11) (s:=Rows.cuttingCountsSpec) Tryz.laidOut rfl (by kernel_rfl) Tryz.underlying4 ?_ ?_ ?_ SM hval (fun g vs hg=>by simp[zL,HZ]at hg) hW
 · intro ds hds
   rw[Tryz.params4]at hds
   match ds,hds with
   | [a],_=>exact⟨rfl,rfl,rfl⟩
 · have:(Tryz.f4.params.toList.all fun t=>gM Tryz.prog 12 t)=true:=by kernel_rfl
   exact List.all_eq_true.1 this
 · have:(Tryz.f4.params.toList.all fun t=>Tryz.prog.readableRec t&&decide (t < Tryz.prog.types.size))=true:=by kernel_rfl
   intro t ht
   have:=List.all_eq_true.1 this t ht
   simpa using this
theorem En:Tryz.pinned.checked.prog.funcNamed Rows.cuttingCountsRow.func=some 4:=by kernel_rfl
theorem GC:Tryz.f4.isInstance Tryz.pinned.checked.prog Rows.cuttingCountsRow.origin Rows.cuttingCountsRow.targs:=of_decide_eq_true (by kernel_rfl)
theorem Gz:Tryz.f4.isWrapper Tryz.pinned.checked.prog Rows.cuttingCountsRow.wrapper Rows.cuttingCountsRow.mainSum:=by
 unfold Func.isWrapper;first|(rw[if_pos (by decide+kernel)];kernel_rfl)|(rw[if_neg (by decide+kernel)];exact⟨rfl,rfl⟩)
theorem GA (SM: ∀us,Typed Tryz.prog 12 Tryz.f4.params.toList us→aR.Fn Tryz.prog 4 us [] (.w (.one (.t (.val (.bool true))))) []):Rows.CuttingCountsSaid:=
 OpenClaim.holds_of_wide 4 Tryz.f4 rfl rfl rfl rfl rfl rfl rfl ⟨rfl,rfl,rfl,rfl,rfl⟩ rfl rfl rfl rfl rfl En Tryz.func4 Jg GC Gz
  (fun os started H enc _=>B4 SM os started H enc)
end Go.Proofs.YtcaeamnhfodfoaaGreat
end
