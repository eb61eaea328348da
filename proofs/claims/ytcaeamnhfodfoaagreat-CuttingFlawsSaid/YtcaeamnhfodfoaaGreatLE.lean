import Derived.Test.YtcaeamnhfodfoaaGreatLD
import Derived.Shelf.SlSortCmp.NoneTotal
import Derived.Shelf.SlicesG.Cmp
import Derived.Test.YtcaeamnhfodfoaaGreatProg
import Derived.Maps.RangeRun
import GoSem.ClaimChange
import Derived.Carry
import Derived.ChangeSame
import Derived.ChangeShapes
import Derived.OpenShut
set_option linter.all false
section
namespace Go.aU.Cd
open Go Go.Proofs
set_option maxRecDepth 100000
set_option maxHeartbeats 1000000
def c51:Rc:=Sq (Rg [Bx 1 0,p 2 (.alloc [zi,zi,zi])]) (Sq (Rg [Fa 3 0 1,Ld 4 3,Fa 5 1 1,Ld 6 5,Fa 7 2 1,Ld 8 7,p 9 (.build [zi,zi,zi] [(0,1,t 4),(1,1,t 6),(2,1,t 8)]),So 3 2 9]) Rt)
theorem auF:ae Tryz.prog (Tryz.f51.body.getD .skip)=some c51:=by kernel_rfl
theorem axD:Tryz.f51.body=some (Tryz.f51.body.getD .skip):=rfl
def c76:Rc:=Sq (Rg [Bx 3 0,Bx 5 2,p 6 (.alloc [zn,zi,zb,zi,zi]),Mk 7 0]) (Sq (Rg [Lo 7 14 3,Mv 15 1,Fa 16 1 5,Ld 17 16,p 18 (.call 100 [t 14,t 15,t 17]),Mv 13 18,Et 19 13 0,Et 20 13 1,Mv 8 19,Mv 9 20]) (Sq (Sq (Rg [Mv 21 9,Bi 22 .neq 21 0]) (Cn 22 (Sq (Rg [p 23 (.build [zn,zi,zb,zi,zi] []),Mv 24 9,So 5 6 23,Mv 7 24]) Rt) Sk)) (Sq (Rg [Lo 7 26 3,Mv 27 1,Fa 28 1 5,Ld 29 28,p 30 (.call 101 [t 26,t 27,t 29]),Mv 25 30,Et 31 25 0,Et 32 25 1,p 10 (.alloc [zi,zi]),So 2 10 31,Mv 9 32]) (Sq (Sq (Rg [Mv 33 9,Bi 34 .neq 33 0]) (Cn 34 (Sq (Rg [p 35 (.build [zn,zi,zb,zi,zi] []),Mv 36 9,So 5 6 35,Mv 7 36]) Rt) Sk)) (Sq (Sq (Rg [Fa 37 3 5,Fa 38 0 37,Ld 39 38]) (Cn 39 (Sq (Rg [p 40 (.build [zb,zi] [(0,1,(kb true))]),p 11 (.alloc [zb,zi]),So 2 11 40]) (Dr [Lo 2 41 11,Mv 42 8,p 43 (.call 57 [t 41,t 42]),Lo 2 44 11,Lo 2 45 10,p 46 (.call 83 [t 44,t 45]),Mv 8 43,So 2 10 46] [[],[],[0,1],[],[],[3,4,2],[2,5,0,1,2],[5,6,0,1,2,3,4,5,6]])) Sk)) (Sq (Dr [Fa 47 3 3,Ld 48 47,Fa 49 4 3,Ld 50 49,Fa 51 1 5,Ld 52 51,Ia 53 3 50 52,Fa 54 0 53,Ld 55 54,Ia 56 7 48 55,Lo 7 57 56,p 12 (.alloc [.t (.val (.string ⟨#[]⟩)),zn,zi,zn,zn,zn,zb]),So 7 12 57] [[],[0],[],[2],[],[4],[3,5],[6],[7],[1,8],[9],[],[11,10,0,1,2,3,4,5,6,7,8,9,10,11]]) (Sq (Rg [Mv 58 8,Fa 59 2 12,Ld 60 59,Fa 61 6 12,Ld 62 61,Lo 2 63 10,p 64 (.build [zn,zi,zb,zi,zi] [(0,1,t 58),(1,1,t 60),(2,1,t 62),(3,2,t 63)]),So 5 6 64,Mk 7 0]) Rt)))))))
theorem atM:ae Tryz.prog (Tryz.f76.body.getD .skip)=some c76:=by kernel_rfl
theorem awN:Tryz.f76.body=some (Tryz.f76.body.getD .skip):=rfl
def c50:Rc:=Sq (Rg [Bx 2 0,Mn 4,Mn 5,Mk 6 0]) (Sq (Sq (Rg [Lo 7 19 2,p 20 (.call 74 [t 19]),Mv 7 20]) (Sq (Rg [Mv 21 7,Bi 22 .neq 21 0]) (Cn 22 (Sq (Rg [Mv 23 7,Mn 4,Mn 5,Mv 6 23]) Rt) Sk))) (Sq (Sq (Rg [Mv 24 1,Le 25 24,Bi 26 .lss 25 1,Mv 27 26,Ga 27 (Mv 28 1),Ga 27 (Le 29 28),Ga 27 (Bi 30 .gtr 29 6),Pt 31 27 30]) (Cn 31 (Sq (Rg [Mn 4,Mn 5,Mk 6 3]) Rt) Sk)) (Sq (Sq (Rg [Mv 32 1,Le 33 32,Mk 34 0]) (Bk 0 (Lp (Sq (Rg [Bt 35 .lss 34 33]) (Sq (Cn 35 Sk (Ex 0)) (Sq (Bk 1 (Sq (Rg [Ia 36 1 32 34,Ld 37 36,Mv 9 37]) (Sq (Rg [Mv 38 9,Bi 39 .lss 38 0,Mv 40 39,Ga 40 (Mv 41 9),Ga 40 (Fa 42 1 2),Ga 40 (Ld 43 42),Ga 40 (Le 44 43),Ga 40 (Bt 45 .geq 41 44),Pt 46 40 45]) (Cn 46 (Sq (Rg [Mn 4,Mn 5,Mk 6 3]) Rt) Sk)))) (Rg [Bi 47 .add 34 1,Mv 34 47]))))))) (Sq (Rg [Lo 7 48 2,p 49 (.call 75 [t 48]),Mv 10 49]) (Sq (Sq (Rg [Mv 50 10,Le 51 50,Mv 52 1,Le 53 52,Bt 54 .mul 51 53,Bi 55 .gtr 54 60]) (Cn 55 (Sq (Rg [Mn 4,Mn 5,Mk 6 5]) Rt) Sk)) (Sq (Rg [Mn 11]) (Sq (Rg [Mn 12]) (Sq (Sq (Rg [Mv 56 1,Le 57 56,Mk 58 0]) (Bk 2 (Lp (Sq (Rg [Bt 59 .lss 58 57]) (Sq (Cn 59 Sk (Ex 2)) (Sq (Bk 3 (Sq (Rg [Mv 60 58,Ia 61 1 56 58,Ld 62 61,Mv 13 60,Mv 14 62]) (Sq (Rg [Mv 63 10,Le 64 63,Mk 65 0]) (Bk 4 (Lp (Sq (Rg [Bt 66 .lss 65 64]) (Sq (Cn 66 Sk (Ex 4)) (Sq (Bk 5 (Sq (Rg [Ia 67 7 63 65,Lo 7 68 67,p 16 (.alloc [zi,zi,zi,zb,zi,zi,zi]),So 7 16 68]) (Sq (Rg [Lo 7 70 2,Mv 71 14,Lo 7 72 16,p 73 (.call 76 [t 70,t 71,t 72]),Mv 69 73,Et 74 69 0,Et 75 69 1,p 17 (.alloc [zn,zi,zb,zi,zi]),So 5 17 74,Mv 18 75]) (Sq (Sq (Rg [Mv 76 18,Bi 77 .neq 76 0]) (Cn 77 (Sq (Rg [Mv 78 18,Mn 4,Mn 5,Mv 6 78]) Rt) Sk)) (Sq (Rg [Mv 79 13,Fa 80 0 16,So 1 80 79]) (Sq (Rg [Mv 81 11,Lo 5 82 17,p 83 (.bc [zn,zi,zb,zi,zi] 1 [(0,t 82)]),p 84 (.append 5 56 (t 81) (t 83)),Mv 11 84]) (Rg [Mv 85 12,Lo 7 86 16,p 87 (.bc [zi,zi,zi,zb,zi,zi,zi] 1 [(0,t 86)]),p 88 (.append 7 56 (t 85) (t 87)),Mv 12 88]))))))) (Rg [Bi 89 .add 65 1,Mv 65 89]))))))))) (Rg [Bi 90 .add 58 1,Mv 58 90]))))))) (Sq (Rg [Mv 91 11,Mv 92 12,Mv 4 91,Mv 5 92,Mk 6 0]) Rt)))))))))
theorem auG:ae Tryz.prog (Tryz.f50.body.getD .skip)=some c50:=by kernel_rfl
theorem axE:Tryz.f50.body=some (Tryz.f50.body.getD .skip):=rfl
theorem aSh:iT Tryz.prog 166=some true:=by kernel_rfl
theorem zSh:cN Tryz.prog 166=some 5:=by kernel_rfl
theorem aKy:iT Tryz.prog 158=some true:=by kernel_rfl
theorem zKy:cN Tryz.prog 158=some 3:=by kernel_rfl
abbrev oPl (g u k:Int) (f:Bool) (q x y:Int):W:= .agg [.t (tI g), .t (tI u), .t (tI k), .t (tB f), .t (tI q), .t (tI x), .t (tI y)]
theorem uC (g u k:Int) (f:Bool) (q x y:Int): ∃ts,Fn Tryz.prog 51 [oPl g u k f q x y] [] (aT ts) []∧(aT ts).cq=true∧(fun ts=>ts=[.agg [.t (tI g), .t (tI u), .t (tI k)]]) ts:=by
 refine aL ?_
 refine ah (n:=10) (rs:=[.cell 2 158]) Tryz.func51 axD auF rfl rfl (by simp) ?_
 repeat' (conv=>whnf
          first
  |(refine aD (fun h=>?_) (fun h=>?_))
  |(refine DC (fun h=>?_) (fun h=>?_))
  |(refine bY (fun h=>?_) (fun h=>?_))
  |(refine aI (fun h=>?_) (fun h=>?_))
  |(refine od (by omega) (by omega) ?_;intro bb)
  |(refine fT (by omega) (by omega) ?_)
  |(refine And.intro (by kernel_rfl) ?_)
  |(refine And.intro (by omega) ?_)
  |exact nj rfl (bI aKy zKy rfl rfl (Nat.le_refl _) rfl (cR.refl _)) rfl
  |(exfalso;omega))
 all_goals (conv=>whnf)
abbrev amH (poly:Lz) (g:Int) (m:Bool) (x y:Int):W:= .agg [.t (.aA 2 poly), .t (tI g), .t (tB m), .t (tI x), .t (tI y)]
def ayY (ts:List W):Prop:= ∃poly g m x y e,ts=[amH poly g m x y,oI e]∧(e=0→cc poly∧poly.length≤1000000)
theorem vT.DW {xs:Lz} (h:vT xs):cc xs∧xs.length≤40:=⟨fun e he=>by obtain⟨a,b,r,_⟩:=h.1.2.2 e he;exact⟨a,b,r⟩,h.1.2.1⟩
theorem mJ (sn:ByteArray) (bz ms ps us ss os:Lz) (hS:iW sn bz ms ps us ss os) (size:Int) (g u k:Int) (f:Bool) (q x y:Int):Tg 76 [mc sn bz ms ps us ss os,oI size,oPl g u k f q x y] ayY:=by
 refine aL ?_
 refine ah (n:=65) (rs:=[.cell 6 166, .tmp 7]) Tryz.func76 awN atM rfl rfl (by simp) ?_
 repeat' (conv=>whnf
          first
  |(refine aD (fun h=>?_) (fun h=>?_))
  |(refine DC (fun h=>?_) (fun h=>?_))
  |(refine bY (fun h=>?_) (fun h=>?_))
  |(refine aI (fun h=>?_) (fun h=>?_))
  |(refine aC (xs:=us) (hC (by assumption)).2.2 (hC (by assumption)).2.1.1 (hC (by assumption)).2.1.2 ?_;rintro _ ⟨a,b,c,rfl,⟨ha,ha2⟩,hb⟩ hs)
  |(refine aC (xs:=ps) hS.hps ha ha2 ?_;rintro _ ⟨nm,es,gr,ns,cs,ws,mt,rfl,hnm,⟨he,hm⟩,⟨hn,_⟩,⟨hc,dK⟩,hw,zM⟩ cg)
  |(refine od (by omega) (by omega) ?_;intro bb)
  |(refine fT (by omega) (by omega) ?_)
  |(refine And.intro (by kernel_rfl) ?_)
  |(refine And.intro (by omega) ?_)
  |(refine ai rfl (w5 sn bz ms ps us ss os hS size u) ?_;rintro _ ⟨poly,e,rfl,hC⟩)
  |(refine aB rfl (w5 sn bz ms ps us ss os hS size u) ?_;rintro _ ⟨poly,e,rfl,hC⟩)
  |(refine ai rfl (o9 sn bz ms ps us ss os hS size u) ?_;rintro _ ⟨⟨ax,ay⟩,e2,rfl⟩)
  |(refine aB rfl (o9 sn bz ms ps us ss os hS size u) ?_;rintro _ ⟨⟨ax,ay⟩,e2,rfl⟩)
  |(refine ai rfl (qp _ _ poly (hC (by assumption)).1.DW.1 (by have:=(hC (by assumption)).1.DW.2;omega)) ?_;rintro _ ⟨ys,rfl,kr,hys⟩)
  |(refine aB rfl (qp _ _ poly (hC (by assumption)).1.DW.1 (by have:=(hC (by assumption)).1.DW.2;omega)) ?_;rintro _ ⟨ys,rfl,kr,hys⟩)
  |(refine ai rfl (kY _ _ (_,_)) ?_;rintro _ ⟨bx,b_y,rfl,_⟩)
  |(refine aB rfl (kY _ _ (_,_)) ?_;rintro _ ⟨bx,b_y,rfl,_⟩)
  |exact dz rfl (bI aSh zSh rfl rfl (Nat.le_refl _) rfl (.cons (.nil 2) (cR.refl _))) (bZ rfl) ⟨_,_,_,_,_,_,rfl,fun h0=>absurd h0 (by assumption)⟩
  |exact dz rfl (bI aSh zSh rfl rfl (Nat.le_refl _) rfl (cR.refl _)) (bZ rfl) ⟨poly,_,_,_,_,_,rfl,fun _=>⟨(hC (by assumption)).1.DW.1,by have:=(hC (by assumption)).1.DW.2;omega⟩⟩
  |exact dz rfl (bI aSh zSh rfl rfl (Nat.le_refl _) rfl (cR.refl _)) (bZ rfl) ⟨ys,_,_,_,_,_,rfl,fun _=>⟨hys,by have:=(hC (by assumption)).1.DW.2;omega⟩⟩
  |(exfalso;omega))
 all_goals (conv=>whnf)
abbrev ov (sn:ByteArray) (bz ms ps us ss os:Lz):List T:=[.val (.string sn), .aA 1 bz, .aA 1 ms, .aA 7 ps, .aA 3 us, .aA 6 ss, .aA 5 os]
theorem DH.snoc {xs:Lz} (h:DH xs) {poly:Lz} (hp:cc poly) (hl:poly.length≤1000000) (g:Int) (m:Bool) (x y:Int):DH (xs++[[.aA 2 poly,tI g,tB m,tI x,tI y]]):=by
 intro e he
 simp only[List.mem_append,List.mem_singleton]at he
 rcases he with he|rfl
 · exact h e he
 · exact⟨poly,g,m,x,y,rfl,hp,hl⟩
def nI (k:Nat) (e:List T):Int:=
 match e[k]? with
 |some (.val (.int .i64 n))=>n
 |_=>0
def nB (k:Nat) (e:List T):Bool:=
 match e[k]? with
 |some (.val (.bool b))=>b
 |_=>false
def nL (k:Nat) (e:List T):Lz:=
 match e[k]? with
 |some (.aA _ xs)=>xs
 |_=>[]
def Pre (Q:List T→Prop) (xs:Lz) (i:Nat):Prop:= ∀j e,j < i→xs[j]? =some e→Q e
theorem Pre.zero {Q:List T→Prop} {xs:Lz}:Pre Q xs 0:=fun j e hj=>by omega
theorem Pre.succ {Q:List T→Prop} {xs:Lz} {i:Nat} {e:List T} (h:Pre Q xs i) (hs:xs[i]? =some e) (hq:Q e):Pre Q xs (i+1):=by
 intro j e' hj he
 by_cases fo:j=i
 · subst fo
   rw[hs]at he
   cases he
   exact hq
 · exact h j e' (by omega) he
theorem Pre.all {Q:List T→Prop} {xs:Lz} {i:Nat} (h:Pre Q xs i) (hi:xs.length≤i): ∀e,e∈xs→Q e:=by
 intro e he
 obtain⟨j,hj,rfl⟩:=List.getElem_of_mem he
 exact h j _ (by omega) (by simp[hj])
def P5 (n:Int) (e:List T):Prop:= ∃a,e=[tI a]∧0≤a∧a < n
def JV (xs:Lz) (n:Int) (i:Nat):Prop:= ∀j e,j < i→xs[j]? =some e→P5 n e
theorem JV.all {xs:Lz} {n:Int} {i:Nat} (h:JV xs n i) (hi:xs.length≤i): ∀e,e∈xs→P5 n e:=by
 intro e he
 obtain⟨j,hj,rfl⟩:=List.getElem_of_mem he
 exact h j _ (by omega) (by simp[hj])
def RIx (xs:Lz) (n:Int) (m:Nat) (vs:List V):Prop:= ∃i:Nat,i≤xs.length∧JV xs n i∧m=xs.length - i∧vs=[iV .i64 (i:Int)]
theorem RIx.next {xs:Lz} {n a:Int} {i:Nat} (hi:(i:Int) < (xs.length:Int)) (hl:xs.length≤maxLen) (h:JV xs n i) (hs:xs[((i:Int)).toNat]? =some [tI a]) (h0:0≤a) (h1:a < n):RIx xs n (xs.length - (i+1)) [iV .i64 (IntKind.i64.wrap ((i:Int)+1))]:=by
 refine⟨i+1,by omega,fun j e hj he=>?_,rfl,by simp only[maxLen]at hl;rw[bt (by omega) (by omega)];rfl⟩
 by_cases fo:j=i
 · subst fo
   have hs':xs[j]? =some [tI a]:=by simpa using hs
   rw[hs']at he
   exact⟨a,(Option.some.inj he).symm,h0,h1⟩
 · exact h j e (by omega) he
def GaI (N:Nat) (e:List T):Prop:= ∃g r,e=tI g::r∧0≤g∧g < (N:Int)
abbrev CI (N:Nat) (xs:Lz):Prop:= ∀e,e∈xs→GaI N e
theorem CI.snoc {N:Nat} {xs:Lz} (h:CI N xs) {g:Int} (r:List T) (h0:0≤g) (h1:g < (N:Int)):CI N (xs++[tI g::r]):=by
 intro e he
 simp only[List.mem_append,List.mem_singleton]at he
 rcases he with he|rfl
 · exact h e he
 · exact⟨g,r,rfl,h0,h1⟩
def JK (row:List T) (U N:Nat) (m:Nat) (ws:List V) (xss:List (Lz)):Prop:= ∃ (i:Nat) (eI jA:Lz),i≤N∧m=N - i∧ws=[bP 8 5 eI.length,bP 12 7 jA.length,iV .i64 (i:Int)]∧xss=[[row],eI,jA]∧jA.length=eI.length∧eI.length≤48 * i∧DH eI∧DP U jA∧CI N jA
theorem JK.next {row:List T} {U N i:Nat} {eI jA:Lz} (h:(i:Int) < (N:Int)) (hN:N≤6) (hl:jA.length=eI.length) (hb:eI.length≤48 * (i+1)) (h1:DH eI) (h2:DP U jA) (h3:CI N jA):JK row U N (N - (i+1)) [bP 8 5 eI.length,bP 12 7 jA.length,iV .i64 (IntKind.i64.wrap ((i:Int)+1))] [[row],eI,jA]:=
 ⟨i+1,eI,jA,by omega,rfl,by rw[bt (by omega) (by omega)];rfl,rfl,hl,hb,h1,h2,h3⟩
def JJ (row:List T) (U N b L:Nat) (m:Nat) (ws:List V) (xss:List (Lz)):Prop:= ∃ (j:Nat) (eI jA:Lz),j≤L∧m=L - j∧ws=[bP 8 5 eI.length,bP 12 7 jA.length,iV .i64 (j:Int)]∧xss=[[row],eI,jA]∧jA.length=eI.length∧eI.length≤b+j∧DH eI∧DP U jA∧CI N jA
theorem JJ.next {row:List T} {U N b L j k1 k2:Nat} {eI jA poly:Lz} {g x y gg u k qq xx yy:Int} {m f:Bool} (h:(j:Int) < (L:Int)) (hL:L≤48) (hl:jA.length=eI.length) (hb:eI.length≤b+j) (h1:DH eI) (h2:DP U jA) (hp:cc poly∧poly.length≤1000000) (hu:0≤u∧u < (U:Int)) (h3:CI N jA) (hg:0≤gg∧gg < (N:Int)) (e1:k1=eI.length+1) (e2:k2=jA.length+1):
 JJ row U N b L (L - (j+1)) [bP 8 5 k1,bP 12 7 k2,iV .i64 (IntKind.i64.wrap ((j:Int)+1))] [[row],eI++[[.aA 2 poly,tI g,tB m,tI x,tI y]],jA++[[tI gg,tI u,tI k,tB f,tI qq,tI xx,tI yy]]]:=
 ⟨j+1,_,_,by omega,rfl,by rw[bt (by omega) (by omega),e1,e2];simp,rfl,by simp[hl],by simp;omega,h1.snoc hp.1 hp.2 g m x y,h2.snoc gg u k qq xx yy f hu.1 hu.2,h3.snoc _ hg.1 hg.2⟩
def ayX (U N M:Nat) (sizes:Lz) (ts:List W):Prop:= ∃eI jA e,ts=[oL 5 eI,oL 7 jA,oI e]∧(e=0→DH eI∧DP U jA∧jA.length=eI.length∧eI.length≤336∧CI N jA∧(∀e,e∈sizes→P5 M e)∧sizes.length≤6)
theorem nT (sn:ByteArray) (bz ms ps us ss os:Lz) (hS:iW sn bz ms ps us ss os) (sizes:Lz) (hz:Is sizes) (jG:sizes.length≤maxLen):Tg 50 [mc sn bz ms ps us ss os,oL 1 sizes] (ayX us.length sizes.length bz.length sizes):=by
 refine aL ?_
 refine ah (n:=93) (rs:=[.tmp 4, .tmp 5, .tmp 6]) Tryz.func50 axE auG rfl rfl (by simp) ?_
 repeat' (conv=>whnf
          first
  |(refine aD (fun h=>?_) (fun h=>?_))
  |(refine DC (fun h=>?_) (fun h=>?_))
  |(refine bY (fun h=>?_) (fun h=>?_))
  |(refine aI (fun h=>?_) (fun h=>?_))
  |(refine aC (xs:=sizes) hz (by omega) (by omega) ?_;rintro _ ⟨a,rfl⟩ hs)
  |(refine aC (xs:=cs) hcs (by omega) (by omega) ?_;rintro _ ⟨g,u,k,f,q,x,y,rfl,lB,rS⟩ hs)
  |(refine And.intro ⟨by simp[tr],by simp[tr,aX];omega,by simp[tr,maxLen];omega⟩ ?_)
  |(refine od (by omega) (by omega) ?_;intro bb)
  |(refine fT (by omega) (by omega) ?_)
  |(refine And.intro (by kernel_rfl) ?_)
  |(refine And.intro (by omega) ?_)
  |(refine ai rfl (jN sn bz ms ps us ss os hS) ?_;rintro _ ⟨e,rfl,hC⟩)
  |(refine aB rfl (jN sn bz ms ps us ss os hS) ?_;rintro _ ⟨e,rfl,hC⟩)
  |(refine ai rfl (o8 sn bz ms ps us ss os hS) ?_;rintro _ ⟨cs,rfl,hcs,dK⟩)
  |(refine aB rfl (o8 sn bz ms ps us ss os hS) ?_;rintro _ ⟨cs,rfl,hcs,dK⟩)
  |(refine ai rfl (mJ sn bz ms ps us ss os hS _ _ _ _ _ _ _ _) ?_;rintro _ ⟨poly,pg,pm,px,py,e3,rfl,hp⟩)
  |(refine aB rfl (mJ sn bz ms ps us ss os hS _ _ _ _ _ _ _ _) ?_;rintro _ ⟨poly,pg,pm,px,py,e3,rfl,hp⟩)
  |exact EJ rfl (bS 5 rfl) (bS 7 rfl) (bZ rfl) ⟨_,_,_,rfl,fun h0=>absurd h0 (by omega)⟩
  |exact EJ rfl (fA rfl rfl (xs:=eI) rfl (by omega)) (fA rfl rfl (xs:=jA) rfl (by omega)) (bZ rfl) ⟨_,_,_,rfl,fun _=>by rw[gA rfl,gA rfl];exact⟨hs1,nF,QB,by omega,hg1,oZ.all (by omega),by omega⟩⟩
  |(apply bH [2,10,11,12,13,14,56,57,58,63,64,65] [] [11,12,65] [(4,7),(8,5),(12,7)] (JJ (ov sn bz ms ps us ss os) us.length sizes.length (48 * i) cs.length) (cs.length) [bP 8 5 eI.length,bP 12 7 jA.length,iV .i64 0];(conv=>whnf);exact⟨rfl,rfl,rfl,rfl⟩;exact rfl;exact rfl;exact .cons (aF.az (xs:=[ov sn bz ms ps us ss os]) rfl _) (.cons (aF.az (xs:=eI) rfl _) (.cons (aF.az (xs:=jA) rfl _) .nil));exact⟨0,eI,jA,by omega,rfl,rfl,rfl,QB,by omega,hs1,nF,hg1⟩;rintro _ _ _ ⟨j,Rq,WC,hj,rfl,rfl,rfl,rV,kU,cg,yZ,xA⟩)
  |(refine au [2,10,11,12,13,14,56,57,58,63,64,65] [] ?_;(conv=>whnf);exact⟨rfl,_,[_,_,_],_, .cons (aF.az (xs:=[ov sn bz ms ps us ss os]) rfl _) (.cons (aF.az (aF.snoc (xs:=Rq) rfl [.aA 2 _,tI _,tB _,tI _,tI _]) _) (.cons (aF.az (aF.snoc (xs:=WC) rfl [tI _,tI _,tI _,tB _,tI _,tI _,tI _]) _) .nil)),JJ.next (by omega) dK rV kU cg yZ (hp (by omega)) ⟨lB,rS⟩ xA ⟨by omega,by omega⟩ (by simp[tr]) (by simp[tr]),rfl,rfl,by omega⟩)
  |(apply eN [2,10,11,12,56,57,58] [] [11,12,58] [(4,7),(8,5),(12,7)] (JK (ov sn bz ms ps us ss os) us.length sizes.length) (sizes.length) [bP 8 5 0,bP 12 7 0,iV .i64 0] (dR.trans (dR.jn 11 5 rfl) (dR.jn 12 7 rfl));(conv=>whnf);exact⟨rfl,rfl,rfl,rfl⟩;exact rfl;exact rfl;exact .cons (aF.az (xs:=[ov sn bz ms ps us ss os]) rfl _) (.cons (aF.az aF.nil _) (.cons (aF.az aF.nil _) .nil));exact⟨0,[],[],by omega,rfl,rfl,rfl,rfl,by simp,fun e he=>by simp at he,fun e he=>by simp at he,fun e he=>by simp at he⟩;rintro _ _ _ ⟨i,eI,jA,hi,rfl,rfl,rfl,QB,jc,hs1,nF,hg1⟩)
  |(refine au [2,10,11,12,56,57,58] [] ?_;(conv=>whnf);exact⟨rfl,_,[_,_,_],_, .cons (aF.az (xs:=[ov sn bz ms ps us ss os]) rfl _) (.cons (aF.az (xs:=Rq) rfl _) (.cons (aF.az (xs:=WC) rfl _) .nil)),JK.next (by omega) (by omega) rV (by omega) cg yZ xA,rfl,rfl,by omega⟩)
  |(apply aO [1,2,32,33,34] [] [34] (RIx sizes bz.length) (sizes.length) [iV .i64 0];(conv=>whnf);exact⟨rfl,rfl,rfl,rfl⟩;exact rfl;exact rfl;exact⟨0,by omega,fun j e hj=>by omega,rfl,rfl⟩;rintro _ _ ⟨i,hi,oZ,rfl,rfl⟩)
  |(refine au [1,2,32,33,34] [] ?_;(conv=>whnf);exact⟨rfl,_,[_],RIx.next (by omega) jG oZ hs (by omega) (by omega),rfl,rfl,rfl,by omega⟩)
  |(exfalso;omega))
 all_goals (conv=>whnf)
end Go.aU.Cd
end
section
namespace Go.aU.Cd
open Go Go.Proofs
set_option maxRecDepth 100000
set_option maxHeartbeats 1000000
def c77:Rc:=Sq (Rg [Mk 4 0]) (Sq (Sq (Rg [Mv 6 0,Le 7 6,Mk 8 0]) (Bk 0 (Lp (Sq (Rg [Bt 9 .lss 8 7]) (Sq (Cn 9 Sk (Ex 0)) (Sq (Bk 1 (Sq (Rg [Mv 10 8,Mv 5 10]) (Sq (Rg [Mv 11 1,Mv 12 0,Mv 13 5,Ia 14 1 12 13,Ld 15 14,p 16 (.oT .eql (t 11) (t 15))]) (Cn 16 (Sq (Rg [Mv 17 5,Mv 4 17]) Rt) Sk)))) (Rg [Bi 18 .add 8 1,Mv 8 18]))))))) (Sq (Rg [p 4 (.kF (k (-1)))]) Rt))
theorem atL:ae Tryz.prog (Tryz.f77.body.getD .skip)=some c77:=by kernel_rfl
theorem awM:Tryz.f77.body=some (Tryz.f77.body.getD .skip):=rfl
def c52:Rc:=Sq (Rg [Mb 4 false]) (Sq (Rg [Mv 5 0,Mv 6 1,p 7 (.call 77 [t 5,t 6]),Bi 8 .geq 7 0,Mv 4 8]) Rt)
theorem auE:ae Tryz.prog (Tryz.f52.body.getD .skip)=some c52:=by kernel_rfl
theorem axC:Tryz.f52.body=some (Tryz.f52.body.getD .skip):=rfl
def c30:Rc:=Sq (Rg [Bx 2 0,Bx 3 1,Mn 4,Mn 5,Mk 6 0]) (Sq (Rg [Lo 7 24 2,Fa 25 4 3,Ld 26 25,p 27 (.call 50 [t 24,t 26]),Mv 23 27,Et 28 23 0,Et 29 23 1,Et 30 23 2,Mv 7 28,Mv 8 29,Mv 9 30]) (Sq (Sq (Rg [Mv 31 9,Bi 32 .neq 31 0]) (Cn 32 (Sq (Rg [Mv 33 9,Mn 4,Mn 5,Mv 6 33]) Rt) Sk)) (Sq (Rg [p 34 (.raw (.makeMap 156 none) 156),Mv 10 34]) (Sq (Sq (Rg [Mv 35 8,Le 36 35,Mk 37 0]) (Bk 0 (Lp (Sq (Rg [Bt 38 .lss 37 36]) (Sq (Cn 38 Sk (Ex 0)) (Sq (Bk 1 (Sq (Rg [Mv 39 37,Ia 40 7 35 37,Lo 7 41 40,p 12 (.alloc [zi,zi,zi,zb,zi,zi,zi]),Mv 11 39,So 7 12 41]) (Rg [Mv 42 10,Lo 7 43 12,p 44 (.call 51 [t 43]),Mv 45 11,q (.raw (.mapUpdate 156 (.tmp 42) (.tmp 44) (.tmp 45)) 0)]))) (Rg [Bi 46 .add 37 1,Mv 37 46]))))))) (Sq (Rg [Mv 47 8,Le 48 47,p 49 (.make [zb] 1 (t 48) (t 48)),Mv 13 49]) (Sq (Rg [Mn 14]) (Sq (Sq (Rg [Fa 50 5 3,Ld 51 50,Le 52 51,Mk 53 0]) (Bk 2 (Lp (Sq (Rg [Bt 54 .lss 53 52]) (Sq (Cn 54 Sk (Ex 2)) (Sq (Bk 3 (Sq (Rg [Ia 55 7 51 53,Lo 7 56 55,p 16 (.alloc [zi,zi,zi,zb,zi,zi,zi]),So 7 16 56]) (Sq (Rg [Mv 58 10,Lo 7 59 16,p 60 (.call 51 [t 59]),p 61 (.raw (.lookup 156 (.tmp 58) (.tmp 60) true) 101),Mv 57 61,Et 62 57 0,Et 63 57 1,Mv 17 62,Mv 18 63]) (Sq (Sq (Rg [Mv 64 18,Nt 65 64]) (Cn 65 (Sq (Rg [Mn 4,Mn 5,Mk 6 3]) Rt) Sk)) (Sq (Sq (Rg [Mv 66 13,Mv 67 17,Ia 68 1 66 67,Ld 69 68]) (Cn 69 (Sq (Rg [Mn 4,Mn 5,Mk 6 7]) Rt) Sk)) (Sq (Rg [Mv 70 13,Mv 71 17,Ia 72 1 70 71,q (.store 1 (t 72) (kb true))]) (Rg [Mv 73 14,Mv 74 17,Fa 75 3 16,Fa 76 1 75,Ld 77 76,p 78 (.build [zb,zi] [(1,1,t 77)]),Fa 79 5 16,Lo 2 80 79,p 81 (.build [zi,zb,zi,zi,zi] [(0,1,t 74),(1,2,t 78),(3,2,t 80)]),p 82 (.bc [zi,zb,zi,zi,zi] 1 [(0,t 81)]),p 83 (.append 5 40 (t 73) (t 82)),Mv 14 83]))))))) (Rg [Bi 84 .add 53 1,Mv 53 84]))))))) (Sq (Sq (Rg [Mv 85 13,p 86 (.call 52 [t 85,(kb false)])]) (Cn 86 (Sq (Rg [Mn 4,Mn 5,Mk 6 20]) Rt) Sk)) (Sq (Sq (Rg [Fa 87 5 3,Ld 88 87,Le 89 88,Mk 90 0]) (Bk 4 (Lp (Sq (Rg [Bt 91 .lss 90 89]) (Sq (Cn 91 Sk (Ex 4)) (Sq (Bk 5 (Sq (Rg [Mv 92 90,Ia 93 7 88 90,Lo 7 94 93,p 20 (.alloc [zi,zi,zi,zb,zi,zi,zi]),Mv 19 92,So 7 20 94]) (Sq (Dr [Fa 95 3 20,Fa 96 0 95,Ld 97 96,Mv 98 8,Mv 99 14,Mv 100 19,Ia 101 5 99 100,Fa 102 0 101,Ld 103 102,Ia 104 7 98 103,Fa 105 3 104,Fa 106 0 105,Ld 107 106,p 108 (.oT .neq (t 97) (t 107))] [[],[0],[1],[],[],[],[4,5],[6],[7],[3,8],[9],[10],[11],[2,12]]) (Cn 108 (Sq (Rg [Mn 4,Mn 5,Mk 6 12]) Rt) Sk)))) (Rg [Bi 109 .add 90 1,Mv 90 109]))))))) (Sq (Rg [Fa 110 0 3,Ld 111 110,Fa 112 1 3,Ld 113 112,Fa 114 2 3,Lo 2 115 114,p 116 (.build [zi,zi,zi,zi] [(0,1,t 111),(1,1,t 113),(2,2,t 115)]),p 21 (.alloc [zi,zi,zi,zi]),So 4 21 116]) (Sq (Sq (Rg [Lo 4 117 21,Mv 118 7,Mv 119 14,p 120 (.call 53 [t 117,t 118,t 119]),Mv 22 120]) (Sq (Rg [Mv 121 22,Bi 122 .neq 121 0]) (Cn 122 (Sq (Rg [Mv 123 22,Mn 4,Mn 5,Mv 6 123]) Rt) Sk))) (Sq (Rg [Mv 124 7,Mv 125 14,Mv 4 124,Mv 5 125,Mk 6 0]) Rt))))))))))))
theorem auP:ae Tryz.prog (Tryz.f30.body.getD .skip)=some c30:=by kernel_rfl
theorem axN:Tryz.f30.body=some (Tryz.f30.body.getD .skip):=rfl
theorem Se {hp:HS} {id sz len:Nat} {rows:List (List C)} {xs:Lz} {x:T} (hf:find hp id=some (.row sz rows)) (hR:aF rows xs) (hl:len=xs.length):bK (bM hp) [.one (.own id sz 0 len), .one (.t x)]=some [.one (.t (.aA sz xs)), .one (.t x)]:=by
 have:=lE (hp:=hp) (i:=0) hf hR (by omega:0+len≤xs.length)
 have hx:bM hp (.one (.t x))=some (.one (.t x)):=rfl
 simp only[bK,this,hx]
 simp[hl]
def IsB (e:List T):Prop:= ∃b,e=[tB b]
abbrev Bs (xs:Lz):Prop:= ∀e,e∈xs→IsB e
theorem oy (xs:Lz) (b:Bool) (hx:Bs xs) (hl:xs.length≤maxLen):Tg 77 [oL 1 xs,oB b] GI:=by
 refine ah (n:=19) (rs:=[.tmp 4]) Tryz.func77 awM atL rfl rfl (by simp) ?_
 repeat' (conv=>whnf
          first
  |(refine aD (fun h=>?_) (fun h=>?_))
  |(refine aC hx (by first|omega|exact cF (by first|omega|(simp (disch:=omega) only[aa];omega))|(simp (disch:=omega) only[aa];omega)) (by first|omega|exact cA (by omega)|(simp (disch:=omega) only[aa];omega)) ?_;rintro _ ⟨c,rfl⟩ hs)
  |exact gI rfl rfl
  |(apply aO [0,1,7,8] [] [8] (RI xs.length) (xs.length) [iV .i64 0];(conv=>whnf);exact⟨rfl,rfl,rfl,rfl⟩;exact rfl;exact rfl;exact RI.zero;rintro _ _ ⟨i,hi,rfl,rfl⟩)
  |(refine au [0,1,7,8] [] ?_;(conv=>whnf);exact⟨rfl,_,[_],RI.succ (N:=xs.length) (i:=i) (by omega) hl,rfl,rfl,rfl,by omega⟩))
 all_goals (conv=>whnf)
theorem lY (xs:Lz) (b:Bool) (hx:Bs xs) (hl:xs.length≤maxLen):Tg 52 [oL 1 xs,oB b] GB:=by
 refine ah (n:=9) (rs:=[.tmp 4]) Tryz.func52 axC auE rfl rfl (by simp) ?_
 repeat' (conv=>whnf
          first
  |(refine ai rfl (oy xs _ hx hl) ?_;rintro _ ⟨n,rfl⟩)
  |exact gB rfl rfl)
 all_goals (conv=>whnf)
def P0 (v:Value):Prop:= ∃a b c,v= .agg #[.int .i64 a, .int .i64 b, .int .i64 c]
theorem sb3 (k:Nat) (a b c:Int):Instr.sameBits (k+1) (.agg #[.int .i64 a, .int .i64 b, .int .i64 c]) (.agg #[.int .i64 a, .int .i64 b, .int .i64 c])=true:=by
 simp[Instr.sameBits]
theorem I0: ∃d,Tryz.prog.underlying 158=some (.struct d):=by
 have h:(match Tryz.prog.underlying 158 with|some (.struct _)=>true|_=>false)=true:=by kernel_rfl
 split at h
 · rename_i d hd;exact⟨d,hd⟩
 · simp at h
theorem kKy:iX Tryz.prog 158 P0:=by
 obtain⟨d,hd⟩:=I0
 refine Eo hd ?_ ?_ ?_ ?_
 · rintro e _ ⟨a,b,c,rfl⟩
   exact⟨(),by cases e<;>kernel_rfl⟩
 · rintro _ _ ⟨a,b,c,rfl⟩ ⟨a',b',c',rfl⟩
   rfl
 · rintro _ _ ⟨a,b,c,rfl⟩ ⟨a',b',c',rfl⟩
   have h:=(mB (P:=Tryz.prog) (t:=158) (ks:=[0,0,0]) (cs:=[.t (tI a), .t (tI b), .t (tI c)]) (ds:=[.t (tI a'), .t (tI b'), .t (tI c')]) (vs:=[.int .i64 a, .int .i64 b, .int .i64 c]) (us:=[.int .i64 a', .int .i64 b', .int .i64 c']) (b:=(a==a')&& ((b==b')&& ((c==c')&&true))) (by kernel_rfl) rfl rfl rfl).1
   refine⟨_,h,?_⟩
   simp only[Bool.and_true,Bool.and_eq_true,beq_iff_eq,Value.agg.injEq]
   constructor
   · rintro⟨rfl,rfl,rfl⟩;rfl
   · intro h
     simp at h
     exact⟨h.1.symm,h.2.1.symm,h.2.2.symm⟩
 · rintro _ ⟨a,b,c,rfl⟩
   exact sb3 9999 a b c
theorem uMk:Tryz.prog.underlying 156=some (.map 158 3):=by kernel_rfl
theorem zIt:mj Tryz.prog 3=some (.int .i64 0):=by kernel_rfl
theorem iX.sub {kt:TypeId} {K1 K2:Value→Prop} (h:iX Tryz.prog kt K1) (hs: ∀v,K2 v→K1 v):iX Tryz.prog kt K2:=
 ⟨fun es kv empty he hk=>h.at_ es kv empty (fun p hp=>hs _ (he p hp)) (hs _ hk),fun kv hk=>h.same kv (hs _ hk)⟩
def M6 (N:Nat) (v:Value):Prop:= ∃a b c,v= .agg #[.int .i64 a, .int .i64 b, .int .i64 c]∧0≤a∧a < (N:Int)
theorem M6.key {N:Nat} (v:Value) (h:M6 N v):P0 v:=by
 obtain⟨a,b,c,rfl,_⟩:=h
 exact⟨a,b,c,rfl⟩
def wQ (n:Nat) (c:C):Prop:= ∃m:Int,c= .t (tI m)∧0≤m∧m < (n:Int)
theorem wQ.az {n:Nat} {c:C} (h:wQ n c) (f:Nat→Option Nat):wQ n (c.az f):=by
 obtain⟨m,rfl,h⟩:=h
 exact⟨m,rfl,h⟩
theorem Ip {n ctr N G:Nat} {t ty kt et:TypeId} {m k:Operand} {tm:TS} {hp:HS} {id clock:Nat} {es:eU} {a1 b1 c1:Int} {K:V→HS→Prop} (hm:Gt n tm m= .w (.one (.map id))) (hf:find hp id=some (.mp es clock)) (hk:(Gt n tm k).val? =some (.agg #[.int .i64 a1, .int .i64 b1, .int .i64 c1])) (hu:Tryz.prog.underlying t=some (.map kt et))
 (hz:mj Tryz.prog et=some (.int .i64 0)) (hK:iX Tryz.prog kt P0) (jF:lP (M6 G) (wQ N) es) (h: ∀ (i:Int) (b:Bool),(b=true→(0≤i∧i < (N:Int))∧0≤a1∧a1 < (G:Int))→K (.ep [.one (.t (tI i)), .one (.t (.val (.bool b)))]) hp):
 ∃v aH,jD Tryz.prog n (.lookup t m k true) ty tm hp ctr v aH∧K v aH:=by
 refine Iq hm hf hk hu hz hK ⟨_,_,_,rfl⟩ (fun p hp=>M6.key _ (jF p hp).1) (fun i p hp he=>?_) (fun _=>h 0 false (fun h=>by simp at h))
 obtain⟨h1,j,hj,h2⟩:=jF p (List.mem_of_getElem? hp)
 rw[hj]
 refine h j true (fun _=>⟨h2,?_⟩)
 obtain⟨a,b,c,h3,h4⟩:=h1
 rw[he]at h3
 simp only[Value.agg.injEq,Array.mk.injEq,List.cons.injEq,Value.int.injEq,true_and,and_true]at h3
 rw[h3.1]
 exact h4
abbrev Km (ln wd rx ry:Int) (sizes places:Lz):W:= .agg [.t (tI ln), .t (tI wd), .t (tI rx), .t (tI ry), .t (.aA 1 sizes), .t (.aA 7 places)]
abbrev R8 (ln wd rx ry:Int) (sizes places:Lz):List T:=[tI ln,tI wd,tI rx,tI ry, .aA 1 sizes, .aA 7 places]
def ayM (e:List T):Prop:= ∃g u k f q x y,e=[tI g,tI u,tI k,tB f,tI q,tI x,tI y]
abbrev PW (xs:Lz):Prop:= ∀e,e∈xs→ayM e
def RA0 (row:List T) (C0 N G:Nat) (m:Nat) (vs:List V) (hq:HS):Prop:= ∃ (i:Nat) (es:eU) (c:Nat),i≤N∧lP (M6 G) (wQ C0) es∧m=N - i∧vs=[iV .i64 (i:Int)]∧hq=[(4, .row 6 [row.map .t]),(8, .mp es c)]
def PtS (n:Nat) (e:List T):Prop:= ∃sh f q x y,e=[tI sh,tB f,tI q,tI x,tI y]∧0≤sh∧sh < (n:Int)
abbrev wP (n:Nat) (xs:Lz):Prop:= ∀e,e∈xs→PtS n e
theorem wP.snoc {n:Nat} {xs:Lz} (h:wP n xs) (sh:Int) (f:Bool) (q x y:Int) (h0:0≤sh∧sh < (n:Int)):wP n (xs++[[tI sh,tB f,tI q,tI x,tI y]]):=by
 intro e he
 simp only[List.mem_append,List.mem_singleton]at he
 rcases he with he|rfl
 · exact h e he
 · exact⟨sh,f,q,x,y,rfl,h0⟩
theorem wP.pts {n:Nat} {xs:Lz} (h:wP n xs):Pts xs:=fun e he=>by
 obtain⟨sh,f,q,x,y,r,_⟩:=h e he
 exact⟨sh,f,q,x,y,r⟩
theorem Bs.set {xs:Lz} (h:Bs xs) (j:Nat) (b:Bool):Bs (xs.set j [tB b]):=by
 intro e he
 rcases List.mem_or_eq_of_mem_set he with he|rfl
 · exact h e he
 · exact⟨b,rfl⟩
theorem Bs.NI (n:Nat) (b:Bool):Bs (List.replicate n [tB b]):=by
 intro e he
 obtain⟨_,rfl⟩:=List.mem_replicate.1 he
 exact⟨b,rfl⟩
def RA1 (row:List T) (places:Lz) (C0 N G:Nat) (m:Nat) (vs:List V) (hq:HS):Prop:= ∃ (i:Nat) (es:eU) (c:Nat) (sn ps:Lz) (rs rp:List (List C)),i≤N∧(lP (M6 G) (wQ C0) es∧Pre (GaI G) places i)∧m=N - i∧vs=[bP 16 5 ps.length,iV .i64 (i:Int)]∧aF rs sn∧aF rp ps∧(sn.length=C0∧Bs sn)∧(ps.length=i∧wP C0 ps)∧
 hq=[(4, .row 6 [row.map .t]),(8, .mp es c),(12, .row 1 rs),(16, .row 5 rp)]
theorem RA1.next {row:List T} {places:Lz} {C0 N G i k j:Nat} {g:Int} {r:List T} {es:eU} {c:Nat} {sn ps:Lz} {rs rp:List (List C)} {sh q x y:Int} {f b:Bool} (h:(i:Int) < (N:Int)) (hN:N≤maxLen) (hM:lP (M6 G) (wQ C0) es) (hpre:Pre (GaI G) places i) (hpi:places[((i:Int)).toNat]? =some (tI g::r)) (hgg:0≤g∧g < (G:Int)) (h1:aF rs (sn.set j [tB b])) (h2:aF rp (ps++[[tI sh,tB f,tI q,tI x,tI y]])) (hs:sn.length=C0∧Bs sn) (hp:ps.length=i∧wP C0 ps) (hsh:0≤sh∧sh < (C0:Int)) (hk:k=ps.length+1):
 RA1 row places C0 N G (N - (i+1)) [bP 16 5 k,iV .i64 (IntKind.i64.wrap ((i:Int)+1))] [(4, .row 6 [row.map .t]),(8, .mp es c),(12, .row 1 rs),(16, .row 5 rp)]:=
 ⟨i+1,es,c,_,_,rs,rp,by omega,⟨hM,hpre.succ (by simpa using hpi) ⟨g,r,rfl,hgg⟩⟩,rfl,by simp only[maxLen]at hN;rw[bt (by omega) (by omega),hk];simp,h1,h2,⟨by simp[hs.1],hs.2.set j b⟩,⟨by simp[hp.1],hp.2.snoc sh f q x y hsh⟩,rfl⟩
def RA2 (row:List T) (N:Nat) (m:Nat) (vs:List V) (xss:List (Lz)):Prop:= ∃i:Nat,i≤N∧m=N - i∧vs=[iV .i64 (i:Int)]∧xss=[[row]]
theorem RA2.next {row:List T} {N i:Nat} (h:(i:Int) < (N:Int)) (hN:N≤maxLen):RA2 row N (N - (i+1)) [iV .i64 (IntKind.i64.wrap ((i:Int)+1))] [[row]]:=
 ⟨i+1,by omega,rfl,by simp only[maxLen]at hN;rw[bt (by omega) (by omega)];rfl,rfl⟩
theorem GH {N i:Nat} {xs:Lz} {g:Int} {r:List T} (h:CI N xs) (hs:xs[i]? =some (tI g::r)):0≤g∧g < (N:Int):=by
 obtain⟨g',r',he,h0⟩:=h _ (List.mem_of_getElem? hs)
 injection he with h1 h2
 injection h1 with h1
 injection h1 with _ h1
 rw[h1]
 exact h0
theorem afZ {eI jA fq sizes places:Lz} {U M i:Nat} (hA:DH eI∧DP U jA∧jA.length=eI.length∧eI.length≤336∧CI sizes.length jA∧(∀e,e∈sizes→P5 M e)∧sizes.length≤6) (hpt:fq.length=i∧wP jA.length fq) (hg: ∀e,e∈places→GaI sizes.length e) (hi:i=places.length):
 DH eI∧wP eI.length (fq.take fq.length)∧(fq.take fq.length).length=places.length∧CI sizes.length places∧(∀e,e∈sizes→P5 M e)∧sizes.length≤6:=by
 obtain⟨h1,_,h2,_,_,h3,h4⟩:=hA
 refine⟨h1,fun e he=>?_,by simp;omega,hg,h3,h4⟩
 rw[←h2]
 exact hpt.2 e (List.mem_of_mem_take he)
def GAr (sizes places:Lz) (M:Nat) (ts:List W):Prop:= ∃eI fq e,ts=[oL 5 eI,oL 5 fq,oI e]∧(e=0→DH eI∧wP eI.length fq∧fq.length=places.length∧CI sizes.length places∧(∀e,e∈sizes→P5 M e)∧sizes.length≤6)
theorem sS (sn:ByteArray) (bz ms ps us ss os:Lz) (hS:iW sn bz ms ps us ss os) (ln wd rx ry:Int) (sizes places:Lz) (hz:Is sizes) (jG:sizes.length≤maxLen) (ji:PW places) (SI:places.length≤1000000):Tg 30 [mc sn bz ms ps us ss os,Km ln wd rx ry sizes places] (GAr sizes places bz.length):=by
 refine aL ?_
 refine ah (n:=126) (rs:=[.tmp 4, .tmp 5, .tmp 6]) Tryz.func30 axN auP rfl rfl (by simp) ?_
 repeat' (conv=>whnf
          first
  |(refine aD (fun h=>?_) (fun h=>?_))
  |(refine DC (fun h=>?_) (fun h=>?_))
  |(refine bY (fun h=>?_) (fun h=>?_))
  |(refine aI (fun h=>?_) (fun h=>?_))
  |(have qN:=hmm (by simpa using h);clear hmm)
  |(refine aC (xs:=jA) (hA (by omega)).2.1 (n:=(i:Int)) (by omega) (by omega) ?_;rintro _ ⟨g,u,k,f,qq,x,y,rfl,lB,rS⟩ hs;have hgi:=GH (hA (by omega)).2.2.2.2.1 hs)
  |(refine aC (xs:=places) ji (by omega) (by omega) ?_;rintro _ ⟨g,u,k,f,qq,x,y,rfl⟩ hs)
  |(refine aC (xs:=fq.take fq.length) (fun e he=>hpt.2 e (List.mem_of_mem_take he)) (by omega) (by have:=hpt.1;simp;omega) ?_;rintro _ ⟨sh2,f2,q2,x2,y2,rfl,SD,SC⟩ cg)
  |(refine aC (xs:=jA) (hA (by omega)).2.1 SD SC ?_;rintro _ ⟨g3,u3,k3,f3,q3,x3,y3,rfl,_,_⟩ hs)
  |(refine And.intro ⟨by omega,by omega,by have:=hA (by omega);omega,by have:=hA (by omega);omega⟩ ?_)
  |(refine And.intro ⟨qN.1.1,by have:=Gn.1;have:=qN.1.2;omega⟩ ?_)
  |(refine And.intro ⟨Qt.len.symm,by rw[Qt.len];have:=hpt.1;simp[aX];omega,by rw[Qt.len];have:=hpt.1;simp[maxLen];omega⟩ ?_)
  |(refine od (by omega) (by omega) ?_;intro bb)
  |(refine fT (by omega) (by omega) ?_)
  |(refine And.intro (by kernel_rfl) ?_)
  |(refine And.intro (by omega) ?_)
  |(refine ai rfl (nT sn bz ms ps us ss os hS sizes hz jG) ?_;rintro _ ⟨eI,jA,e,rfl,hA⟩)
  |(refine aB rfl (nT sn bz ms ps us ss os hS sizes hz jG) ?_;rintro _ ⟨eI,jA,e,rfl,hA⟩)
  |(refine wS ?_)
  |(refine Fm rfl rfl rfl rfl uMk (iX.sub kKy M6.key) ⟨_,_,_,rfl,hgi.1,hgi.2⟩ hM ⟨_,rfl,by omega,by omega⟩ ?_;rintro es3 c3 hM2)
  |(refine Ip rfl rfl rfl uMk zIt kKy hMM ?_;intro mi mb hmm)
  |(refine cj (xs:=seen) eP Gn.2 (by have:=Gn.1;have:=qN.1;omega) ?_;rintro _ ⟨b2,rfl⟩ hs5)
  |(refine ai rfl (uC _ _ _ _ _ _ _) ?_;rintro _ rfl)
  |(refine aB rfl (uC _ _ _ _ _ _ _) ?_;rintro _ rfl)
  |(refine qm (Se (xs:=seen) rfl eP (by have:=Gn.1;omega)) (lY seen _ Gn.2 (by have:=Gn.1;have:=hA (by omega);simp only[maxLen];omega)) ?_ ?_;(rintro _ ⟨b3,rfl⟩;rfl);rintro _ ⟨b3,rfl⟩)
  |(refine ai rfl (rK _ _ _ _ eI _ (hA (by omega)).1 (fun e he=>hpt.2.pts e (List.mem_of_mem_take he)) (by have:=hpt.1;simp[maxLen];omega)) ?_;rintro _ ⟨n,rfl⟩)
  |(refine aB rfl (rK _ _ _ _ eI _ (hA (by omega)).1 (fun e he=>hpt.2.pts e (List.mem_of_mem_take he)) (by have:=hpt.1;simp[maxLen];omega)) ?_;rintro _ ⟨n,rfl⟩)
  |exact EJ rfl (bS 5 rfl) (bS 5 rfl) (bZ rfl) ⟨_,_,_,rfl,fun h0=>by omega⟩
  |exact EJ rfl (bZ rfl) (bZ rfl) (bZ rfl) ⟨_,_,_,rfl,fun _=>afZ (hA (by omega)) hpt (Qv.all (by omega)) (by omega)⟩
  |(apply eN [3,7,8,14,88,89,90] [] [90] [(4,6)] (RA2 (R8 ln wd rx ry sizes places) places.length) (places.length) [iV .i64 0] (dR.OI (xs:=fq) [14] 16 (amK rfl) rfl Qt (Nat.le_refl _));(conv=>whnf);exact⟨rfl,rfl,rfl,rfl⟩;exact rfl;exact rfl;exact .cons (aF.az (xs:=[R8 ln wd rx ry sizes places]) rfl _) .nil;exact⟨0,by omega,rfl,rfl,rfl⟩;rintro _ _ _ ⟨q,hq,rfl,rfl,rfl⟩)
  |(refine au [3,7,8,14,88,89,90] [] ?_;(conv=>whnf);exact⟨rfl,_,[_],_, .cons (aF.az (xs:=[R8 ln wd rx ry sizes places]) rfl _) .nil,RA2.next (by omega) (by simp only[maxLen];omega),rfl,rfl,by omega⟩)
  |(apply iF [3,7,8,10,13,14,51,52,53] [] [14,53] (RA1 (R8 ln wd rx ry sizes places) places jA.length places.length sizes.length) (places.length) [bP 16 5 0,iV .i64 0] (dR.jn 14 5 rfl);(conv=>whnf);exact⟨rfl,rfl,rfl,rfl⟩;exact rfl;exact rfl;exact⟨0,_,_,_,[],_,_,by omega,⟨hM.az (fun c hc=>wQ.az hc _),Pre.zero⟩,rfl,rfl,aF.az (aF.replicate _ [tB false]) _,aF.az aF.nil _,⟨by simp,Bs.NI _ _⟩,⟨rfl,fun e he=>by simp at he⟩,rfl⟩;rintro _ _ _ ⟨i2,Ww,c2,seen,fq,rs,rp,hi2,⟨hMM,Qv⟩,rfl,rfl,eP,Qt,Gn,hpt,rfl⟩)
  |(refine au [3,7,8,10,13,14,51,52,53] [] ?_;(conv=>whnf);exact⟨rfl,_,[_,_],RA1.next (by omega) (by simp only[maxLen];omega) (hMM.az (fun c hc=>wQ.az hc _)) Qv hs qN.2 ((aF.set eP _ [tB _]).az _) ((aF.snoc Qt [tI _,tB _,tI _,tI _,tI _]).az _) Gn hpt qN.1 (by have:=Qt.len;simp;omega),rfl,rfl,by omega⟩)
  |(apply ct [3,7,8,10,35,36,37] [] [37] (RA0 (R8 ln wd rx ry sizes places) jA.length jA.length sizes.length) (jA.length) [iV .i64 0];(conv=>whnf);exact⟨rfl,rfl,rfl,rfl⟩;exact rfl;exact rfl;exact⟨0,_,_,by omega,lP.nil,rfl,rfl,rfl⟩;rintro _ _ _ ⟨i,es,c,hi,hM,rfl,rfl,rfl⟩)
  |(refine au [3,7,8,10,35,36,37] [] ?_;(conv=>whnf);exact⟨rfl,_,[_],⟨i+1,_,_,by omega,hM2.az (fun c hc=>wQ.az hc _),rfl,by have:=hA (by omega);rw[bt (by omega) (by omega)];rfl,rfl⟩,rfl,rfl,by omega⟩)
  |(exfalso;omega))
 all_goals (conv=>whnf)
end Go.aU.Cd
end
section
namespace Go.aU.Cd
open Go Go.Proofs
set_option maxRecDepth 100000
set_option maxHeartbeats 1000000
end Go.aU.Cd
end
section
namespace Go.aU.Cd
open Go Go.Proofs
set_option maxRecDepth 100000
set_option maxHeartbeats 1000000
def RQ (Q:List T→Prop) (xs:Lz) (m:Nat) (vs:List V):Prop:= ∃i:Nat,i≤xs.length∧Pre Q xs i∧m=xs.length - i∧vs=[iV .i64 (i:Int)]
theorem RQ.zero {Q:List T→Prop} {xs:Lz}:RQ Q xs xs.length [iV .i64 0]:=⟨0,by omega,Pre.zero,rfl,rfl⟩
theorem RQ.next {Q:List T→Prop} {xs:Lz} {i:Nat} {e:List T} (hi:(i:Int) < (xs.length:Int)) (hl:xs.length≤maxLen) (h:Pre Q xs i) (hs:xs[((i:Int)).toNat]? =some e) (hq:Q e):RQ Q xs (xs.length - (i+1)) [iV .i64 (IntKind.i64.wrap ((i:Int)+1))]:=
 ⟨i+1,by omega,h.succ (by simpa using hs) hq,rfl,by simp only[maxLen]at hl;rw[bt (by omega) (by omega)];rfl⟩
def ayL (e:List T):Prop:= ∃l q,e=[tI l, .aA 4 q]
abbrev Pys (xs:Lz):Prop:= ∀e,e∈xs→ayL e
abbrev sM (ln wd rx ry:Int) (sizes places plies:Lz):W:= .agg [.t (tI ln), .t (tI wd), .t (tI rx), .t (tI ry), .t (.aA 1 sizes), .t (.aA 7 places), .t (.aA 2 plies)]
abbrev Ek (ln wd rx ry:Int) (sizes places plies:Lz):List T:=[tI ln,tI wd,tI rx,tI ry, .aA 1 sizes, .aA 7 places, .aA 2 plies]
structure ahA (sizes plies Du:Lz) (e:List T):Prop where
 g:0≤nI 1 e∧nI 1 e < (sizes.length:Int)
 f:0≤nI 4 e∧nI 4 e < nI 5 e∧nI 5 e≤(plies.length:Int)
 t: ∀o,o∈Du→nI 0 o≠nI 0 e
 s:sizes[(nI 1 e).toNat]? =some [tI (nI 2 e)]
 l: ∀ (k:Nat) (p:List T),nI 4 e≤(k:Int)→(k:Int) < nI 5 e→plies[k]? =some p→nI 0 p=nI 3 e
 o: ∀o,o∈Du→¬ (nI 1 o=nI 1 e∧nI 4 o < nI 5 e∧nI 4 e < nI 5 o)
def Nc (sizes plies bs:Lz) (i:Nat):Prop:= ∀j e,j < i→bs[j]? =some e→ahA sizes plies (bs.take j) e
def RBk (row:List T) (sizes plies bs:Lz) (m:Nat) (vs:List V) (xss:List (Lz)):Prop:= ∃ (i:Nat) (zs:Lz),i≤bs.length∧Nc sizes plies bs i∧m=bs.length - i∧vs=[iV .i64 (i:Int)]∧xss=[[row],zs]∧zs.length=sizes.length∧Is zs
theorem Is.set {xs:Lz} (h:Is xs) (j:Nat) (n:Int):Is (xs.set j [tI n]):=by
 intro e he
 rcases List.mem_or_eq_of_mem_set he with he|rfl
 · exact h e he
 · exact⟨n,rfl⟩
theorem Is.NI (n:Nat) (a:Int):Is (List.replicate n [tI a]):=by
 intro e he
 obtain⟨_,rfl⟩:=List.mem_replicate.1 he
 exact⟨a,rfl⟩
theorem RBk.next {row:List T} {sizes plies bs zs:Lz} {i j:Nat} {e:List T} {n:Int} (hi:(i:Int) < (bs.length:Int)) (hl:bs.length≤maxLen) (h:Nc sizes plies bs i) (hs:bs[((i:Int)).toNat]? =some e) (hq:ahA sizes plies ((bs.drop 0).take (((i:Int)).toNat - 0)) e) (hz:zs.length=sizes.length) (hZ:Is zs):
 RBk row sizes plies bs (bs.length - (i+1)) [iV .i64 (IntKind.i64.wrap ((i:Int)+1))] [[row],zs.set j [tI n]]:=by
 refine⟨i+1,_,by omega,fun j' e' hj he=>?_,rfl,by simp only[maxLen]at hl;rw[bt (by omega) (by omega)];rfl,rfl,by simp[hz],hZ.set j n⟩
 by_cases fo:j'=i
 · subst fo
   have hs':bs[j']? =some e:=by simpa using hs
   rw[hs']at he
   cases he
   simpa using hq
 · exact h j' e' (by omega) he
def RBn (row:List T) (zs:Lz) (m:Nat) (vs:List V) (xss:List (Lz)):Prop:= ∃i:Nat,i≤zs.length∧m=zs.length - i∧vs=[iV .i64 (i:Int)]∧xss=[[row],zs]
theorem RBn.next {row:List T} {zs:Lz} {i:Nat} (hi:(i:Int) < (zs.length:Int)) (hl:zs.length≤maxLen):RBn row zs (zs.length - (i+1)) [iV .i64 (IntKind.i64.wrap ((i:Int)+1))] [[row],zs]:=
 ⟨i+1,by omega,rfl,by simp only[maxLen]at hl;rw[bt (by omega) (by omega)];rfl,rfl⟩
def RQ2 (Q:List T→Prop) (xs:Lz) (ia:List (Lz)) (m:Nat) (vs:List V) (xss:List (Lz)):Prop:= ∃i:Nat,i≤xs.length∧Pre Q xs i∧m=xs.length - i∧vs=[iV .i64 (i:Int)]∧xss=ia
theorem RQ2.next {Q:List T→Prop} {xs:Lz} {ia:List (Lz)} {i:Nat} {e:List T} (hi:(i:Int) < (xs.length:Int)) (hl:xs.length≤maxLen) (h:Pre Q xs i) (hs:xs[((i:Int)).toNat]? =some e) (hq:Q e):RQ2 Q xs ia (xs.length - (i+1)) [iV .i64 (IntKind.i64.wrap ((i:Int)+1))] ia:=
 ⟨i+1,by omega,h.succ (by simpa using hs) hq,rfl,by simp only[maxLen]at hl;rw[bt (by omega) (by omega)];rfl,rfl⟩
theorem mI {b:Bool} (h:(!b)=false):b=true:=by simpa using h
end Go.aU.Cd
end
section
namespace Go.aU.Cd
open Go Go.Proofs
set_option maxRecDepth 100000
set_option maxHeartbeats 1000000
def c62:Rc:=Sq (Rg [Bx 1 0,Mk 2 0]) (Sq (Rg [Fa 3 3 1,Ld 4 3,Fa 5 2 1,Ld 6 5,Bt 7 .add 4 6,Fa 8 1 1,Ld 9 8,Bt 10 .sub 7 9,Mv 2 10]) Rt)
theorem WI:ae Tryz.prog (Tryz.f62.body.getD .skip)=some c62:=by kernel_rfl
theorem abH:Tryz.f62.body=some (Tryz.f62.body.getD .skip):=rfl
def c60:Rc:=Sq (Rg [Bx 2 0,Mb 4 false]) (Sq (Dr [Fa 5 0 2,Ld 6 5,Bi 7 .geq 6 0,Mv 8 7,Gb 8 (Fa 9 0 2),Gb 8 (Ld 10 9),Gb 8 (Mv 11 1),Gb 8 (Le 12 11),Gb 8 (Bt 13 .lss 10 12),Pf 14 8 13,Mv 15 14,Gb 15 (Fa 16 1 2),Gb 15 (Ld 17 16),Gb 15 (Bi 18 .geq 17 0),Pf 19 15 18,Mv 20 19,Gb 20 (Fa 21 1 2),Gb 20 (Ld 22 21),Gb 20 (Fa 23 2 2),Gb 20 (Ld 24 23),Gb 20 (Bt 25 .lss 22 24),Pf 26 20 25,Mv 27 26,Gb 27 (Fa 28 2 2),Gb 27 (Ld 29 28),Gb 27 (Mv 30 1),Gb 27 (Fa 31 0 2),Gb 27 (Ld 32 31),Gb 27 (Ia 33 7 30 32),Gb 27 (Fa 34 2 33),Gb 27 (Ld 35 34),Gb 27 (Bt 36 .leq 29 35),Pf 37 27 36,Mv 4 37] [[],[0],[1],[2],[3],[4,3],[3],[6,3],[5,7,3],[3,8],[9,3],[10],[11,10],[12,10],[10,13],[14,10],[15],[16,15],[15],[18,15],[17,19,15],[15,20],[21,15],[22],[23,22],[22],[22],[26,22],[25,27,22],[28,22],[29,22],[24,30,22],[22,31],[32,22,0,1,2,3,4,5,6,7,8,9,10,11,12,13,14,15,16,17,18,19,20,21,22,23,24,25,26,27,28,29,30,31,32]]) Rt)
theorem atX:ae Tryz.prog (Tryz.f60.body.getD .skip)=some c60:=by kernel_rfl
theorem awV:Tryz.f60.body=some (Tryz.f60.body.getD .skip):=rfl
def c93:Rc:=Sq (Rg [Mb 2 false]) (Sq (Rg [Mv 3 0,Bi 4 .geq 3 0,Mv 5 4,Gb 5 (Mv 6 0),Gb 5 (Bi 7 .leq 6 1048576),Pf 8 5 7,Mv 2 8]) Rt)
theorem asY:ae Tryz.prog (Tryz.f93.body.getD .skip)=some c93:=by kernel_rfl
theorem avZ:Tryz.f93.body=some (Tryz.f93.body.getD .skip):=rfl
def c69:Rc:=Sq (Rg [Bx 2 0,Bx 3 1,Mb 4 false]) (Sq (Rg [Fa 5 3 2,Ld 6 5,p 7 (.call 93 [t 6]),Mv 8 7,Gb 8 (Fa 9 1 2),Gb 8 (Ld 10 9),Gb 8 (p 11 (.call 93 [t 10])),Pf 12 8 11,Mv 13 12,Gb 13 (Fa 14 2 2),Gb 13 (Ld 15 14),Gb 13 (p 16 (.call 93 [t 15])),Pf 17 13 16,Mv 18 17,Gb 18 (Fa 19 3 2),Gb 18 (Ld 20 19),Gb 18 (Fa 21 0 3),Gb 18 (Ld 22 21),Gb 18 (Bt 23 .leq 20 22),Pf 24 18 23,Mv 25 24,Gb 25 (Fa 26 0 3),Gb 25 (Ld 27 26),Gb 25 (Fa 28 2 3),Gb 25 (Ld 29 28),Gb 25 (Bt 30 .add 27 29),Gb 25 (Fa 31 3 2),Gb 25 (Ld 32 31),Gb 25 (Fa 33 2 2),Gb 25 (Ld 34 33),Gb 25 (Bt 35 .add 32 34),Gb 25 (Fa 36 1 2),Gb 25 (Ld 37 36),Gb 25 (Bt 38 .sub 35 37),Gb 25 (Bt 39 .leq 30 38),Pf 40 25 39,Mv 4 40]) Rt)
theorem atQ:ae Tryz.prog (Tryz.f69.body.getD .skip)=some c69:=by kernel_rfl
theorem awQ:Tryz.f69.body=some (Tryz.f69.body.getD .skip):=rfl
def c68:Rc:=Sq (Rg [p 2 (.alloc [zi,zi,zi,zi]),Mk 3 0]) (Sq (Sq (Rg [Mv 9 0,p 10 (.call 55 [t 9]),Mv 4 10]) (Sq (Rg [Mv 11 4,Bi 12 .neq 11 0]) (Cn 12 (Sq (Rg [p 13 (.build [zi,zi,zi,zi] []),Mv 14 4,So 4 2 13,Mv 3 14]) Rt) Sk))) (Sq (Dr [Mv 15 0,p 16 (.fJ 2 (t 15) (k 0)),Lo 2 17 16,Mv 18 0,p 19 (.fJ 2 (t 18) (k 0)),Lo 2 20 19,p 5 (.alloc [zi,zi]),p 6 (.alloc [zi,zi]),So 2 5 17,So 2 6 20] [[],[0],[1],[],[3],[4],[],[],[6,2,0,1,2,6,7],[7,5,8,0,1,2,3,4,5,6,7,8]]) (Sq (Sq (Rg [Mv 21 0,Le 22 21,Mk 23 0]) (Bk 0 (Lp (Sq (Rg [Bt 24 .lss 23 22]) (Sq (Cn 24 Sk (Ex 0)) (Sq (Bk 1 (Sq (Rg [Ia 25 2 21 23,Lo 2 26 25,p 8 (.alloc [zi,zi]),So 2 8 26]) (Sq (Rg [Fa 27 0 5,Ld 28 27,Fa 29 0 8,Ld 30 29,p 31 (.mu (t 28) (t 30)),Fa 32 1 5,Ld 33 32,Fa 34 1 8,Ld 35 34,p 36 (.mu (t 33) (t 35)),p 37 (.build [zi,zi] [(0,1,t 31),(1,1,t 36)]),So 2 5 37]) (Rg [Fa 38 0 6,Ld 39 38,Fa 40 0 8,Ld 41 40,p 42 (.nA (t 39) (t 41)),Fa 43 1 6,Ld 44 43,Fa 45 1 8,Ld 46 45,p 47 (.nA (t 44) (t 46)),p 48 (.build [zi,zi] [(0,1,t 42),(1,1,t 47)]),So 2 6 48])))) (Rg [Bi 49 .add 23 1,Mv 23 49]))))))) (Sq (Rg [Fa 50 0 5,Ld 51 50,Fa 52 1 5,Ld 53 52,Fa 54 0 6,Ld 55 54,Fa 56 0 5,Ld 57 56,Bt 58 .sub 55 57,Fa 59 1 6,Ld 60 59,Fa 61 1 5,Ld 62 61,Bt 63 .sub 60 62,p 64 (.build [zi,zi,zi,zi] [(0,1,t 51),(1,1,t 53),(2,1,t 58),(3,1,t 63)]),So 4 2 64,Mk 3 0]) Rt))))
theorem atS:ae Tryz.prog (Tryz.f68.body.getD .skip)=some c68:=by kernel_rfl
theorem awR:Tryz.f68.body=some (Tryz.f68.body.getD .skip):=rfl
def c91:Rc:=Sq (Rg [Mk 4 0,Mk 5 0,Mb 6 false]) (Sq (Rg [Mk 5 9223372036854775807]) (Sq (Sq (Rg [Mv 7 0,Mv 8 1,p 9 (.bin .sub (k 9223372036854775807) (t 8)),Bt 10 .leq 7 9]) (Cn 10 (Rg [Mv 11 0,Mv 12 1,Bt 13 .add 11 12,Mv 5 13]) Sk)) (Sq (Rg [Mv 14 0,p 15 (.nA (t 14) (k (-1048576))),Mv 16 5,p 17 (.mu (t 16) (k 1048576)),Mv 4 15,Mv 5 17]) (Sq (Rg [Mv 18 4,Mv 19 5,Mv 20 4,Mv 21 5,Bt 22 .lss 20 21,Mv 4 18,Mv 5 19,Mv 6 22]) Rt))))
theorem atA:ae Tryz.prog (Tryz.f91.body.getD .skip)=some c91:=by kernel_rfl
theorem awB:Tryz.f91.body=some (Tryz.f91.body.getD .skip):=rfl
def c85:Rc:=Sq (Rg [Mk 4 0]) (Sq (Rg [Mv 8 1,Mv 5 8]) (Sq (Sq (Rg [Mv 9 0,Le 10 9,Mk 11 0]) (Bk 0 (Lp (Sq (Rg [Bt 12 .lss 11 10]) (Sq (Cn 12 Sk (Ex 0)) (Sq (Bk 1 (Sq (Rg [Ia 13 2 9 11,Lo 2 14 13,p 7 (.alloc [zi,zi]),So 2 7 14]) (Sq (Rg [Fa 15 1 7,Ld 16 15,Mv 17 1,Bt 18 .gtr 16 17]) (Cn 18 (Rg [Mv 19 5,Fa 20 0 7,Ld 21 20,p 22 (.mu (t 19) (t 21)),Mv 5 22]) Sk)))) (Rg [Bi 23 .add 11 1,Mv 11 23]))))))) (Sq (Rg [Mv 24 5,Mv 4 24]) Rt)))
theorem atE:ae Tryz.prog (Tryz.f85.body.getD .skip)=some c85:=by kernel_rfl
theorem awF:Tryz.f85.body=some (Tryz.f85.body.getD .skip):=rfl
abbrev zm (r f t a:Int):List T:=[tI r,tI f,tI t,tI a]
abbrev Ef (r f t a:Int):W:= .agg [.t (tI r), .t (tI f), .t (tI t), .t (tI a)]
def ayK (e:List T):Prop:= ∃a b c d,e=[tI a,tI b,tI c,tI d]
abbrev Bo (xs:Lz):Prop:= ∀e,e∈xs→ayK e
abbrev oRl (id:ByteArray) (w l a b c:Int) (fl:Lz):W:= .agg [.t (.val (.string id)), .t (tI w), .t (tI l), .t (tI a), .t (tI b), .t (tI c), .t (.aA 4 fl)]
def P3 (e:List T):Prop:= ∃id w l a b c fl,e=[.val (.string id),tI w,tI l,tI a,tI b,tI c, .aA 4 fl]∧id.size≤maxLen∧Bo fl∧fl.length≤maxLen
abbrev vZ (xs:Lz):Prop:= ∀e,e∈xs→P3 e
theorem tT (r f t a:Int):Tg 62 [Ef r f t a] GI:=by
 refine ah (n:=11) (rs:=[.tmp 2]) Tryz.func62 abH WI rfl rfl (by simp) ?_
 repeat' (conv=>whnf
          first
  |exact gI rfl rfl)
 all_goals (conv=>whnf)
theorem vA (n:Int):Tg 93 [oI n] GB:=by
 refine ah (n:=9) (rs:=[.tmp 2]) Tryz.func93 avZ asY rfl rfl (by simp) ?_
 repeat' (conv=>whnf
          first
  |(refine aD (fun h=>?_) (fun h=>?_))
  |exact gB rfl rfl)
 all_goals (conv=>whnf)
theorem vB (r f t a x y w h:Int):Tg 69 [Ef r f t a,Ef x y w h] GB:=by
 refine ah (n:=41) (rs:=[.tmp 4]) Tryz.func69 awQ atQ rfl rfl (by simp) ?_
 repeat' (conv=>whnf
          first
  |(refine aD (fun h=>?_) (fun h=>?_))
  |(refine aI (fun h=>?_) (fun h=>?_))
  |(refine ai rfl (vA _) ?_;rintro _ ⟨b,rfl⟩)
  |exact gB rfl rfl)
 all_goals (conv=>whnf)
theorem aRc:iT Tryz.prog 152=some true:=by kernel_rfl
theorem zRc:cN Tryz.prog 152=some 4:=by kernel_rfl
def GBx (xs:Lz) (ts:List W):Prop:= ∃a b c d e,ts=[Ef a b c d,oI e]∧(e=0→vT xs)
def RBx (xs:Lz) (m:Nat) (vs:List V) (xss:List (Lz)):Prop:= ∃ (i:Nat) (a b c d:Int),i≤xs.length∧m=xs.length - i∧vs=[iV .i64 (i:Int)]∧xss=[[[tI 0,tI 0,tI 0,tI 0]],[[tI a,tI b]],[[tI c,tI d]]]
theorem RBx.next {xs:Lz} {i:Nat} {a b c d:Int} (hi:(i:Int) < (xs.length:Int)) (hl:xs.length≤1000000):RBx xs (xs.length - (i+1)) [iV .i64 (IntKind.i64.wrap ((i:Int)+1))] [[[tI 0,tI 0,tI 0,tI 0]],[[tI a,tI b]],[[tI c,tI d]]]:=
 ⟨i+1,_,_,_,_,by omega,rfl,by rw[bt (by omega) (by omega)];rfl,rfl⟩
theorem rI (xs:Lz) (hx:cc xs) (hl:xs.length≤1000000):Tg 68 [oL 2 xs] (GBx xs):=by
 refine aL ?_
 refine ah (n:=65) (rs:=[.cell 2 152, .tmp 3]) Tryz.func68 awR atS rfl rfl (by simp) ?_
 repeat' (conv=>whnf
          first
  |(refine aD (fun h=>?_) (fun h=>?_))
  |(refine bY (fun h=>?_) (fun h=>?_))
  |(have h9:=(hP (by omega)).1.1;refine aC (xs:=xs) hx (by omega) (by omega) ?_;rintro _ ⟨a0,b0,rfl⟩ hs0)
  |(refine And.intro (by kernel_rfl) ?_)
  |(refine ai rfl (dS xs hx hl) ?_;rintro _ ⟨e,rfl,hP⟩)
  |exact dz rfl (bI aRc zRc rfl rfl (Nat.le_refl _) rfl (cR.refl _)) (bZ rfl) ⟨_,_,_,_,_,rfl,fun h=>by omega⟩
  |exact dz rfl (bI aRc zRc rfl rfl (Nat.le_refl _) rfl (cR.refl _)) (bZ rfl) ⟨_,_,_,_,_,rfl,fun _=>hP (by omega)⟩
  |(apply bH [2,5,6,21,22,23] [] [23] [(4,4),(8,2),(12,2)] (RBx xs) (xs.length) [iV .i64 0];(conv=>whnf);exact⟨rfl,rfl,rfl,rfl⟩;exact rfl;exact rfl;exact .cons (aF.az (xs:=[[tI 0,tI 0,tI 0,tI 0]]) rfl _) (.cons (aF.az (xs:=[[tI _,tI _]]) rfl _) (.cons (aF.az (xs:=[[tI _,tI _]]) rfl _) .nil));exact⟨0,_,_,_,_,by omega,rfl,rfl,rfl⟩;rintro _ _ _ ⟨i,a,b,c,d,hi,rfl,rfl,rfl⟩)
  |(refine au [2,5,6,21,22,23] [] ?_;(conv=>whnf);exact⟨rfl,_,[_],_, .cons (aF.az (xs:=[[tI 0,tI 0,tI 0,tI 0]]) rfl _) (.cons (aF.az (xs:=[[tI _,tI _]]) rfl _) (.cons (aF.az (xs:=[[tI _,tI _]]) rfl _) .nil)),RBx.next (by omega) hl,rfl,rfl,by omega⟩))
 all_goals (conv=>whnf)
def ayV (ts:List W):Prop:= ∃a b c,ts=[oI a,oI b,oB c]
theorem pB (a l:Int):Tg 91 [oI a,oI l] ayV:=by
 refine aL ?_
 refine ah (n:=23) (rs:=[.tmp 4, .tmp 5, .tmp 6]) Tryz.func91 awB atA rfl rfl (by simp) ?_
 repeat' (conv=>whnf
          first
  |(refine aD (fun h=>?_) (fun h=>?_))
  |exact EJ rfl (bZ rfl) (bZ rfl) (bZ rfl) ⟨_,_,_,rfl⟩)
 all_goals (conv=>whnf)
def JQ (zs:Lz) (m:Nat) (vs:List V):Prop:= ∃ (i:Nat) (lo:Int),i≤zs.length∧m=zs.length - i∧vs=[iV .i64 lo,iV .i64 (i:Int)]
theorem JQ.next {zs:Lz} {i:Nat} {lo:Int} (hi:(i:Int) < (zs.length:Int)) (hl:zs.length≤1000000):JQ zs (zs.length - (i+1)) [iV .i64 lo,iV .i64 (IntKind.i64.wrap ((i:Int)+1))]:=
 ⟨i+1,_,by omega,rfl,by rw[bt (by omega) (by omega)];rfl⟩
theorem Aa (zs:Lz) (hi:Int) (hz:cc zs) (hl:zs.length≤1000000):Tg 85 [oL 2 zs,oI hi] GI:=by
 refine ah (n:=25) (rs:=[.tmp 4]) Tryz.func85 awF atE rfl rfl (by simp) ?_
 repeat' (conv=>whnf
          first
  |(refine aD (fun h=>?_) (fun h=>?_))
  |(refine aC (xs:=zs) hz (by omega) (by omega) ?_;rintro _ ⟨a1,b1,rfl⟩ hs1)
  |exact gI rfl rfl
  |(apply aO [1,5,9,10,11] [] [5,11] (JQ zs) (zs.length) [iV .i64 hi,iV .i64 0];(conv=>whnf);exact⟨rfl,rfl,rfl,rfl⟩;exact rfl;exact rfl;exact⟨0,_,by omega,rfl,rfl⟩;rintro _ _ ⟨i,lo,hk,rfl,rfl⟩)
  |(refine au [1,5,9,10,11] [] ?_;(conv=>whnf);exact⟨rfl,_,[_,_],JQ.next (by omega) hl,rfl,rfl,rfl,by omega⟩))
 all_goals (conv=>whnf)
end Go.aU.Cd
end
section
namespace Go.aU.Cd
open Go Go.Proofs
set_option maxRecDepth 100000
set_option maxHeartbeats 1000000
def c84:Rc:=Sq (Rg [Mn 4,Mk 5 0]) (Sq (Sq (Rg [Mv 11 0,Bi 12 .lss 11 1,Mv 13 12,Ga 13 (Mv 14 0),Ga 13 (Bi 15 .gtr 14 1048576),Pt 16 13 15]) (Cn 16 (Sq (Rg [Mn 4,Mk 5 3]) Rt) Sk)) (Sq (Sq (Rg [Mv 17 1,Le 18 17,Bi 19 .gtr 18 60]) (Cn 19 (Sq (Rg [Mn 4,Mk 5 5]) Rt) Sk)) (Sq (Rg [Mn 6]) (Sq (Sq (Rg [Mv 20 1,Le 21 20,Mk 22 0]) (Bk 0 (Lp (Sq (Rg [Bt 23 .lss 22 21]) (Sq (Cn 23 Sk (Ex 0)) (Sq (Bk 1 (Sq (Rg [Ia 24 1 20 22,Ld 25 24,Mv 8 25]) (Sq (Rg [Mv 27 8,p 28 (.call 68 [t 27]),Mv 26 28,Et 29 26 0,Et 30 26 1,p 9 (.alloc [zi,zi,zi,zi]),So 4 9 29,Mv 10 30]) (Sq (Sq (Rg [Mv 31 10,Bi 32 .neq 31 0]) (Cn 32 (Sq (Rg [Mv 33 10,Mn 4,Mv 5 33]) Rt) Sk)) (Sq (Sq (Rg [Fa 34 0 9,Ld 35 34,Bi 36 .lss 35 0,Mv 37 36,Ga 37 (Fa 38 0 9),Ga 37 (Ld 39 38),Ga 37 (Fa 40 2 9),Ga 37 (Ld 41 40),Ga 37 (Bt 42 .add 39 41),Ga 37 (Mv 43 0),Ga 37 (Bt 44 .gtr 42 43),Pt 45 37 44]) (Cn 45 (Sq (Rg [Mn 4,Mk 5 13]) Rt) Sk)) (Rg [Mv 46 6,Fa 47 0 9,Ld 48 47,Fa 49 0 9,Ld 50 49,Fa 51 2 9,Ld 52 51,Bt 53 .add 50 52,p 54 (.build [zi,zi] [(0,1,t 48),(1,1,t 53)]),p 55 (.bc [zi,zi] 1 [(0,t 54)]),p 56 (.append 2 16 (t 46) (t 55)),Mv 6 56])))))) (Rg [Bi 57 .add 22 1,Mv 22 57]))))))) (Sq (Rg [Mv 58 6,Mv 4 58,Mk 5 0]) Rt)))))
theorem atF:ae Tryz.prog (Tryz.f84.body.getD .skip)=some c84:=by kernel_rfl
theorem awG:Tryz.f84.body=some (Tryz.f84.body.getD .skip):=rfl
def c58:Rc:=Sq (Rg [Mk 6 0,Mk 7 0]) (Sq (Rg [Mv 11 0,Mv 12 1,p 13 (.call 84 [t 11,t 12]),Mv 10 13,Et 14 10 0,Et 15 10 1,Mv 8 14,Mv 9 15]) (Sq (Sq (Rg [Mv 16 9,Bi 17 .neq 16 0]) (Cn 17 (Sq (Rg [Mv 18 9,Mk 6 0,Mv 7 18]) Rt) Sk)) (Sq (Sq (Rg [Mv 19 2,Bi 20 .lss 19 0,Mv 21 20,Ga 21 (Mv 22 2),Ga 21 (Mv 23 0),Ga 21 (Bt 24 .gtr 22 23),Pt 25 21 24]) (Cn 25 (Sq (Rg [Mk 6 0,Mk 7 3]) Rt) Sk)) (Sq (Rg [Mv 26 8,Mv 27 2,p 28 (.call 85 [t 26,t 27]),Mv 6 28,Mk 7 0]) Rt))))
theorem atZ:ae Tryz.prog (Tryz.f58.body.getD .skip)=some c58:=by kernel_rfl
theorem awX:Tryz.f58.body=some (Tryz.f58.body.getD .skip):=rfl
def c89:Rc:=Sq (Rg [Mb 2 false]) (Sq (Sq (Rg [Mv 7 0,p 8 (.nC (t 7)),Mk 9 0]) (Bk 0 (Lp (Sq (Rg [Bt 10 .lss 9 8]) (Sq (Cn 10 Sk (Ex 0)) (Sq (Bk 1 (Sq (Rg [Mv 11 9,Mv 3 11]) (Sq (Rg [Mv 12 0,Mv 13 3,p 14 (.qy (t 12) (t 13)),Mv 4 14]) (Sq (Rg [Mv 15 4,p 16 (.bin .leq (.c (.w (.one (.t (.val (.int .u8 65)))))) (t 15)),Mv 17 16,Gb 17 (Mv 18 4),Gb 17 (p 19 (.bin .leq (t 18) (.c (.w (.one (.t (.val (.int .u8 90)))))))),Pf 20 17 19,Mv 5 20]) (Sq (Rg [Mv 21 4,p 22 (.bin .leq (.c (.w (.one (.t (.val (.int .u8 97)))))) (t 21)),Mv 23 22,Gb 23 (Mv 24 4),Gb 23 (p 25 (.bin .leq (t 24) (.c (.w (.one (.t (.val (.int .u8 122)))))))),Pf 26 23 25,Mv 27 26,Ga 27 (Mv 28 4),Ga 27 (p 29 (.bin .leq (.c (.w (.one (.t (.val (.int .u8 48)))))) (t 28))),Ga 27 (Mv 30 29),Gb 30 (Mv 31 4),Gb 30 (p 32 (.bin .leq (t 31) (.c (.w (.one (.t (.val (.int .u8 57)))))))),Ga 27 (Pf 33 30 32),Pt 34 27 33,Mv 6 34]) (Sq (Rg [Mv 35 5,Nt 36 35,Mv 37 36,Gb 37 (Mv 38 3),Gb 37 (Bi 39 .eql 38 0),Gb 37 (Mv 40 39),Ga 40 (Mv 41 6),Ga 40 (Nt 42 41),Gb 37 (Pt 43 40 42),Pf 44 37 43]) (Cn 44 (Sq (Rg [Mb 2 false]) Rt) Sk))))))) (Rg [Bi 45 .add 9 1,Mv 9 45]))))))) (Sq (Rg [Mv 46 0,p 47 (.nC (t 46)),p 48 (.bin .leq (k 1) (t 47)),Mv 49 48,Gb 49 (Mv 50 0),Gb 49 (p 51 (.nC (t 50))),Gb 49 (Bi 52 .leq 51 8),Pf 53 49 52,Mv 2 53]) Rt))
theorem atC:ae Tryz.prog (Tryz.f89.body.getD .skip)=some c89:=by kernel_rfl
theorem awD:Tryz.f89.body=some (Tryz.f89.body.getD .skip):=rfl
def c66:Rc:=Sq (Rg [Bx 1 0,Mk 2 0]) (Sq (Sq (Rg [Fa 7 0 1,Ld 8 7,p 9 (.call 89 [t 8]),Nt 10 9]) (Cn 10 (Sq (Rg [Mk 2 1]) Rt) Sk)) (Sq (Sq (Rg [Fa 11 2 1,Ld 12 11,Bi 13 .lss 12 1,Mv 14 13,Ga 14 (Fa 15 2 1),Ga 14 (Ld 16 15),Ga 14 (Bi 17 .gtr 16 1048576),Pt 18 14 17,Mv 19 18,Ga 19 (Fa 20 1 1),Ga 19 (Ld 21 20),Ga 19 (Bi 22 .lss 21 1),Pt 23 19 22,Mv 24 23,Ga 24 (Fa 25 1 1),Ga 24 (Ld 26 25),Ga 24 (Bi 27 .gtr 26 1048576),Pt 28 24 27]) (Cn 28 (Sq (Rg [Mk 2 3]) Rt) Sk)) (Sq (Sq (Rg [Fa 29 3 1,Fa 30 0 29,Ld 31 30,Fa 32 3 1,Fa 33 1 32,Ld 34 33,Fa 35 3 1,Fa 36 2 35,Ld 37 36,p 38 (.bc [zi] 3 [(0,t 31),(1,t 34),(2,t 37)]),Le 39 38,Mk 40 0]) (Bk 0 (Lp (Sq (Rg [Bt 41 .lss 40 39]) (Sq (Cn 41 Sk (Ex 0)) (Sq (Bk 1 (Sq (Rg [Ia 42 1 38 40,Ld 43 42,Mv 4 43]) (Sq (Rg [Mv 44 4,p 45 (.bin .lss (t 44) (k (-1000))),Mv 46 45,Ga 46 (Mv 47 4),Ga 46 (Bi 48 .gtr 47 1000),Pt 49 46 48]) (Cn 49 (Sq (Rg [Mk 2 3]) Rt) Sk)))) (Rg [Bi 50 .add 40 1,Mv 40 50]))))))) (Sq (Sq (Rg [Fa 51 6 1,Ld 52 51,Le 53 52,Bi 54 .gtr 53 20]) (Cn 54 (Sq (Rg [Mk 2 5]) Rt) Sk)) (Sq (Sq (Rg [Fa 55 6 1,Ld 56 55,Le 57 56,Mk 58 0]) (Bk 2 (Lp (Sq (Rg [Bt 59 .lss 58 57]) (Sq (Cn 59 Sk (Ex 2)) (Sq (Bk 3 (Sq (Rg [Ia 60 4 56 58,Lo 4 61 60,p 6 (.alloc [zi,zi,zi,zi]),So 4 6 61]) (Sq (Rg [Fa 62 0 6,Ld 63 62,Bi 64 .lss 63 0,Mv 65 64,Ga 65 (Fa 66 2 6),Ga 65 (Ld 67 66),Ga 65 (Bi 68 .lss 67 1),Pt 69 65 68,Mv 70 69,Ga 70 (Fa 71 2 6),Ga 70 (Ld 72 71),Ga 70 (Fa 73 2 1),Ga 70 (Ld 74 73),Ga 70 (Fa 75 0 6),Ga 70 (Ld 76 75),Ga 70 (Bt 77 .sub 74 76),Ga 70 (Bt 78 .gtr 72 77),Pt 79 70 78,Mv 80 79,Ga 80 (Fa 81 1 6),Ga 80 (Ld 82 81),Ga 80 (Bi 83 .lss 82 0),Pt 84 80 83,Mv 85 84,Ga 85 (Fa 86 3 6),Ga 85 (Ld 87 86),Ga 85 (Bi 88 .lss 87 1),Pt 89 85 88,Mv 90 89,Ga 90 (Fa 91 3 6),Ga 90 (Ld 92 91),Ga 90 (Fa 93 1 1),Ga 90 (Ld 94 93),Ga 90 (Fa 95 1 6),Ga 90 (Ld 96 95),Ga 90 (Bt 97 .sub 94 96),Ga 90 (Bt 98 .gtr 92 97),Pt 99 90 98]) (Cn 99 (Sq (Rg [Mk 2 3]) Rt) Sk)))) (Rg [Bi 100 .add 58 1,Mv 58 100]))))))) (Sq (Rg [Mk 2 0]) Rt))))))
theorem atV:ae Tryz.prog (Tryz.f66.body.getD .skip)=some c66:=by kernel_rfl
theorem awT:Tryz.f66.body=some (Tryz.f66.body.getD .skip):=rfl
def agO (e:List T):Prop:= ∃xs,e=[.aA 2 xs]∧cc xs∧xs.length≤1000000
abbrev vU (xs:Lz):Prop:= ∀e,e∈xs→agO e
def GEx (ts:List W):Prop:= ∃zs e,ts=[oL 2 zs,oI e]∧cc zs∧zs.length≤60
def JN (aq:Lz) (m:Nat) (vs:List V) (xss:List (Lz)):Prop:=
 ∃ (i:Nat) (zs:Lz),i≤aq.length∧m=aq.length - i∧vs=[bP 4 2 zs.length,iV .i64 (i:Int)]∧xss=[zs]∧cc zs∧zs.length≤i
theorem JN.next {aq zs:Lz} {i n:Nat} {a b:Int} (hi:(i:Int) < (aq.length:Int)) (hl:aq.length≤60) (hz:cc zs) (jG:zs.length≤i) (hn:n=zs.length+1):
 JN aq (aq.length - (i+1)) [bP 4 2 n,iV .i64 (IntKind.i64.wrap ((i:Int)+1))] [zs++[[tI a,tI b]]]:=by
 refine⟨i+1,_,by omega,rfl,by subst hn;rw[bt (by omega) (by omega)];simp,rfl,fun e he=>?_,by simp;omega⟩
 rcases List.mem_append.1 he with he|he
 · exact hz e he
 · simp only[List.mem_singleton]at he
   exact⟨a,b,he⟩
theorem CY:cc []:=fun e he=>by simp at he
theorem tW (ln:Int) (aq:Lz) (hp:vU aq):Tg 84 [oI ln,oL 1 aq] GEx:=by
 refine aL ?_
 refine ah (n:=59) (rs:=[.tmp 4, .tmp 5]) Tryz.func84 awG atF rfl rfl (by simp) ?_
 repeat' (conv=>whnf
          first
  |(refine aD (fun h=>?_) (fun h=>?_))
  |(refine bY (fun h=>?_) (fun h=>?_))
  |(refine aC (xs:=aq) hp (by omega) (by omega) ?_;rintro _ ⟨xs,rfl,hxs,hxl⟩ hs)
  |(refine And.intro ⟨by simp[tr],by simp[tr,aX];omega,by simp[tr,maxLen];omega⟩ ?_)
  |(refine ai rfl (rI xs hxs hxl) ?_;rintro _ ⟨a,b,c,d,e,rfl,_⟩)
  |exact dz rfl (bS 2 rfl) (bZ rfl) ⟨[],_,rfl,CY,by simp⟩
  |exact dz rfl (fA rfl rfl (xs:=zs) rfl (by omega)) (bZ rfl) ⟨_,_,rfl,by rw[gA rfl];exact hz,by rw[gA rfl];omega⟩
  |(apply eN [0,6,20,21,22] [] [6,22] [(4,2)] (JN aq) (aq.length) [bP 4 2 0,iV .i64 0] (dR.jn 6 2 rfl);(conv=>whnf);exact⟨rfl,rfl,rfl,rfl⟩;exact rfl;exact rfl;exact .cons (aF.az aF.nil _) .nil;exact⟨0,[],by omega,rfl,rfl,rfl,CY,by simp⟩;rintro _ _ _ ⟨i,zs,hi,rfl,rfl,rfl,hz,jG⟩)
  |(refine au [0,6,20,21,22] [] ?_;(conv=>whnf);exact⟨rfl,_,[_,_],_, .cons (aF.az (aF.snoc (xs:=zs) rfl [tI _,tI _]) _) .nil,JN.next (by omega) (by omega) hz jG (by simp[tr]),rfl,rfl,by omega⟩))
 all_goals (conv=>whnf)
theorem rE (ln:Int) (aq:Lz) (hp:vU aq) (hi:Int):Tg 58 [oI ln,oL 1 aq,oI hi] GII:=by
 refine aL ?_
 refine ah (n:=29) (rs:=[.tmp 6, .tmp 7]) Tryz.func58 awX atZ rfl rfl (by simp) ?_
 repeat' (conv=>whnf
          first
  |(refine aD (fun h=>?_) (fun h=>?_))
  |(refine bY (fun h=>?_) (fun h=>?_))
  |(refine ai rfl (tW ln aq hp) ?_;rintro _ ⟨zs,e,rfl,hz,jG⟩)
  |(refine ai rfl (Aa zs hi hz (by omega)) ?_;rintro _ ⟨n,rfl⟩)
  |exact dz rfl (bZ rfl) (bZ rfl) ⟨_,_,rfl⟩)
 all_goals (conv=>whnf)
theorem D1 (s:ByteArray) (hs:s.size≤maxLen):Tg 89 [oS s] GB:=by
 refine ah (n:=54) (rs:=[.tmp 2]) Tryz.func89 awD atC rfl rfl (by simp) ?_
 repeat' (conv=>whnf
          first
  |(refine aD (fun h=>?_) (fun h=>?_))
  |(refine aI (fun h=>?_) (fun h=>?_))
  |(refine od (by omega) (by omega) ?_;intro bb)
  |exact gB rfl rfl
  |(apply aO [0,8,9] [] [9] (RI s.size) (s.size) [iV .i64 0];(conv=>whnf);exact⟨rfl,rfl,rfl,rfl⟩;exact rfl;exact rfl;exact RI.zero;rintro _ _ ⟨i,hi,rfl,rfl⟩)
  |(refine au [0,8,9] [] ?_;(conv=>whnf);exact⟨rfl,_,[_],RI.succ (N:=s.size) (i:=i) (by omega) hs,rfl,rfl,rfl,by omega⟩))
 all_goals (conv=>whnf)
def QR (N:Nat) (ia:List (Lz)) (m:Nat) (vs:List V) (xss:List (Lz)):Prop:= ∃i:Nat,i≤N∧m=N - i∧vs=[iV .i64 (i:Int)]∧xss=ia
theorem QR.next {N i:Nat} {ia:List (Lz)} (hi:(i:Int) < (N:Int)) (hl:N≤maxLen):QR N ia (N - (i+1)) [iV .i64 (IntKind.i64.wrap ((i:Int)+1))] ia:=⟨i+1,by omega,rfl,by simp only[maxLen]at hl;rw[bt (by omega) (by omega)];rfl,rfl⟩
theorem is3 {a b c:Int}:Is [[tI a],[tI b],[tI c]]:=fun e he=>by
 simp only[List.mem_cons,List.not_mem_nil,or_false]at he
 rcases he with rfl|rfl|rfl<;>exact⟨_,rfl⟩
end Go.aU.Cd
end
section
namespace Go.aU.Cd
open Go Go.Proofs
set_option maxRecDepth 100000
set_option maxHeartbeats 1000000
def c67:Rc:=Sq (Rg [Bx 3 1,Mb 4 false,Mk 5 0]) (Sq (Rg [Mv 18 0,p 19 (.call 90 [t 18]),Mv 17 19,Et 20 17 0,Et 21 17 1,Mv 6 20,Mv 7 21]) (Sq (Sq (Rg [Mv 22 7,Bi 23 .neq 22 0]) (Cn 23 (Sq (Rg [Mv 24 7,Mb 4 false,Mv 5 24]) Rt) Sk)) (Sq (Sq (Rg [Fa 25 2 3,Ld 26 25,Bi 27 .lss 26 1,Mv 28 27,Ga 28 (Fa 29 3 3),Ga 28 (Ld 30 29),Ga 28 (Bi 31 .lss 30 1),Pt 32 28 31]) (Cn 32 (Sq (Rg [Mb 4 false,Mk 5 0]) Rt) Sk)) (Sq (Rg [Fa 34 0 3,Ld 35 34,Fa 36 2 3,Ld 37 36,p 38 (.call 91 [t 35,t 37]),Mv 33 38,Et 39 33 0,Et 40 33 1,Et 41 33 2,Mv 8 39,Mv 9 40,Mv 10 41]) (Sq (Rg [Fa 43 1 3,Ld 44 43,Fa 45 3 3,Ld 46 45,p 47 (.call 91 [t 44,t 46]),Mv 42 47,Et 48 42 0,Et 49 42 1,Et 50 42 2,Mv 11 48,Mv 12 49,Mv 13 50]) (Sq (Sq (Rg [Mv 51 10,Nt 52 51,Mv 53 52,Ga 53 (Mv 54 13),Ga 53 (Nt 55 54),Pt 56 53 55]) (Cn 56 (Sq (Rg [Mb 4 false,Mk 5 0]) Rt) Sk)) (Sq (Rg [Mv 57 8,Mv 58 11,p 59 (.build [zi,zi] [(0,1,t 57),(1,1,t 58)]),Mv 60 9,Mv 61 11,p 62 (.build [zi,zi] [(0,1,t 60),(1,1,t 61)]),Mv 63 9,Mv 64 12,p 65 (.build [zi,zi] [(0,1,t 63),(1,1,t 64)]),Mv 66 8,Mv 67 12,p 68 (.build [zi,zi] [(0,1,t 66),(1,1,t 67)]),p 69 (.bc [zi,zi] 4 [(0,t 59),(1,t 62),(2,t 65),(3,t 68)]),Mv 14 69]) (Sq (Sq (Rg [Mv 70 6,Le 71 70,Mk 72 0]) (Bk 0 (Lp (Sq (Rg [Bt 73 .lss 72 71]) (Sq (Cn 73 Sk (Ex 0)) (Sq (Bk 1 (Sq (Rg [Ia 74 1 70 72,Ld 75 74,Mv 16 75]) (Sq (Rg [Mv 76 16,Mv 77 14,p 78 (.call 92 [t 76,t 77]),Bi 79 .eql 78 1]) (Cn 79 (Sq (Rg [Mb 4 true,Mk 5 0]) Rt) Sk)))) (Rg [Bi 80 .add 72 1,Mv 72 80]))))))) (Sq (Rg [Mb 4 false,Mk 5 0]) Rt)))))))))
theorem atU:ae Tryz.prog (Tryz.f67.body.getD .skip)=some c67:=by kernel_rfl
theorem awS:Tryz.f67.body=some (Tryz.f67.body.getD .skip):=rfl
def c36:Rc:=Sq (Rg [Bx 2 0,Mk 4 0,Mk 5 0]) (Sq (Rg [Mv 11 1,p 12 (.call 68 [t 11]),Mv 10 12,Et 13 10 0,Et 14 10 1,p 6 (.alloc [zi,zi,zi,zi]),So 4 6 13,Mv 7 14]) (Sq (Sq (Rg [Mv 15 7,Bi 16 .neq 15 0]) (Cn 16 (Sq (Rg [Mv 17 7,Mk 4 0,Mv 5 17]) Rt) Sk)) (Sq (Sq (Rg [Fa 18 1 2,Ld 19 18,Le 20 19,Mk 21 0]) (Bk 0 (Lp (Sq (Rg [Bt 22 .lss 21 20]) (Sq (Cn 22 Sk (Ex 0)) (Sq (Bk 1 (Sq (Rg [Mv 23 21,Ia 24 4 19 21,Lo 4 25 24,p 9 (.alloc [zi,zi,zi,zi]),Mv 8 23,So 4 9 25]) (Sq (Rg [Lo 4 26 9,Lo 4 27 6,p 28 (.call 69 [t 26,t 27])]) (Cn 28 (Sq (Rg [Mv 29 8,Mv 4 29,Mk 5 0]) Rt) Sk)))) (Rg [Bi 30 .add 21 1,Mv 21 30]))))))) (Sq (Rg [Mk 4 0,Mk 5 20]) Rt))))
theorem auK:ae Tryz.prog (Tryz.f36.body.getD .skip)=some c36:=by kernel_rfl
theorem axI:Tryz.f36.body=some (Tryz.f36.body.getD .skip):=rfl
theorem Oa {hp:HS} {id sz len:Nat} {rows:List (List C)} {xs:Lz} {x:T} (hf:find hp id=some (.row sz rows)) (hR:aF rows xs) (hl:len=xs.length):bK (bM hp) [.one (.t x), .one (.own id sz 0 len)]=some [.one (.t x), .one (.t (.aA sz xs))]:=by
 have:=lE (hp:=hp) (i:=0) hf hR (by omega:0+len≤xs.length)
 have hx:bM hp (.one (.t x))=some (.one (.t x)):=rfl
 simp only[bK,this,hx]
 simp[hl]
abbrev Cq (a b c d:Int):Lz:=[[tI a,tI b],[tI c,tI b],[tI c,tI d],[tI a,tI d]]
theorem Jx {a b c d:Int}:cc (Cq a b c d):=fun e he=>by
 simp only[Cq,List.mem_cons,List.not_mem_nil,or_false]at he
 rcases he with rfl|rfl|rfl|rfl<;>exact⟨_,_,rfl⟩
theorem yF (xs:Lz) (hx:cc xs) (hl:xs.length≤1000000) (x y w h:Int):Tg 67 [oL 2 xs,Ef x y w h] GBI:=by
 refine aL ?_
 refine ah (n:=81) (rs:=[.tmp 4, .tmp 5]) Tryz.func67 awS atU rfl rfl (by simp) ?_
 repeat' (conv=>whnf
          first
  |(refine aD (fun h=>?_) (fun h=>?_))
  |(refine bY (fun h=>?_) (fun h=>?_))
  |(refine aI (fun h=>?_) (fun h=>?_))
  |(refine aC (xs:=rs) (hT (by omega)).1 (by omega) (by omega) ?_;rintro _ ⟨HT,rfl,ht,htl⟩ hs)
  |(refine ai rfl (jq xs hx hl) ?_;rintro _ ⟨rs,e,rfl,hT⟩)
  |(have h77:=lf;refine ai rfl (pB _ _) ?_;rintro _ ⟨lo,hg,tl,rfl⟩)
  |(refine ai rfl (pB _ _) ?_;rintro _ ⟨lf,rg,wd,rfl⟩)
  |(refine qm (Oa rfl (show aF _ (Cq lf lo rg hg)from rfl) rfl) (lT HT (Cq lf lo rg hg) ht Jx htl (by simp)) ?_ ?_;(rintro _ ⟨n,rfl⟩;rfl);rintro _ ⟨n,rfl⟩)
  |exact dz rfl (bZ rfl) (bZ rfl) ⟨_,_,rfl⟩
  |(apply bH [14,70,71,72] [] [72] [(4,2)] (QR rs.length [Cq lf lo rg hg]) (rs.length) [iV .i64 0];(conv=>whnf);exact⟨rfl,rfl,rfl,rfl⟩;exact rfl;exact rfl;exact .cons (aF.az (xs:=Cq _ _ _ _) rfl _) .nil;exact⟨0,by omega,rfl,rfl,rfl⟩;rintro _ _ _ ⟨i,hi,rfl,rfl,rfl⟩)
  |(refine au [14,70,71,72] [] ?_;(conv=>whnf);exact⟨rfl,_,[_],_, .cons (aF.az (xs:=Cq _ _ _ _) rfl _) .nil,QR.next (by omega) (by have:=(hT (by omega)).2;simp only[maxLen];omega),rfl,rfl,by omega⟩))
 all_goals (conv=>whnf)
abbrev FY (l:Int) (ps:Lz):W:= .agg [.t (tI l), .t (.aA 4 ps)]
def GCr (ps:Lz) (ts:List W):Prop:= ∃n e,ts=[oI n,oI e]∧(e=0→0≤n∧n < (ps.length:Int))
theorem vC (l:Int) (ps poly:Lz) (hp:Bo ps) (ji:ps.length≤maxLen) (hx:cc poly) (hl:poly.length≤1000000):Tg 36 [FY l ps,oL 2 poly] (GCr ps):=by
 refine aL ?_
 refine ah (n:=31) (rs:=[.tmp 4, .tmp 5]) Tryz.func36 axI auK rfl rfl (by simp) ?_
 repeat' (conv=>whnf
          first
  |(refine aD (fun h=>?_) (fun h=>?_))
  |(refine bY (fun h=>?_) (fun h=>?_))
  |(refine aI (fun h=>?_) (fun h=>?_))
  |(refine aC (xs:=ps) hp (by omega) (by omega) ?_;rintro _ ⟨r1,f1,t1,a1,rfl⟩ hs)
  |(refine ai rfl (rI poly hx hl) ?_;rintro _ ⟨a,b,c,d,e,rfl,_⟩)
  |(refine ai rfl (vB r1 f1 t1 a1 _ _ _ _) ?_;rintro _ ⟨b3,rfl⟩)
  |exact dz rfl (bZ rfl) (bZ rfl) ⟨_,_,rfl,fun h=>by omega⟩
  |(apply bH [6,19,20,21] [] [21] [(4,4)] (QR ps.length [[[tI a,tI b,tI c,tI d]]]) (ps.length) [iV .i64 0];(conv=>whnf);exact⟨rfl,rfl,rfl,rfl⟩;exact rfl;exact rfl;exact .cons (aF.az (xs:=[[tI a,tI b,tI c,tI d]]) rfl _) .nil;exact⟨0,by omega,rfl,rfl,rfl⟩;rintro _ _ _ ⟨i,hi,rfl,rfl,rfl⟩)
  |(refine au [6,19,20,21] [] ?_;(conv=>whnf);exact⟨rfl,_,[_],_, .cons (aF.az (xs:=[[tI a,tI b,tI c,tI d]]) rfl _) .nil,QR.next (by omega) ji,rfl,rfl,by omega⟩))
 all_goals (conv=>whnf)
end Go.aU.Cd
end
section
namespace Go.aU.Cd
open Go Go.Proofs
set_option maxRecDepth 100000
set_option maxHeartbeats 1000000
def c35:Rc:=Sq (Rg [Bx 3 0,Mb 6 false,Mk 7 0]) (Sq (Rg [Lo 2 17 3,Mv 18 2,p 19 (.call 36 [t 17,t 18]),Mv 16 19,Et 20 16 0,Et 21 16 1,Mv 8 20,Mv 9 21]) (Sq (Sq (Rg [Mv 22 9,Bi 23 .neq 22 0]) (Cn 23 (Sq (Rg [Mv 24 9,Mb 6 false,Mv 7 24]) Rt) Sk)) (Sq (Rg [Fa 25 1 3,Ld 26 25,Mv 27 8,Ia 28 4 26 27,Lo 4 29 28,p 10 (.alloc [zi,zi,zi,zi]),So 4 10 29]) (Sq (Sq (Rg [Fa 30 0 10,Ld 31 30,Bi 32 .lss 31 0,Mv 33 32,Ga 33 (Fa 34 0 10),Ga 33 (Ld 35 34),Ga 33 (Mv 36 1),Ga 33 (Le 37 36),Ga 33 (Bt 38 .geq 35 37),Pt 39 33 38]) (Cn 39 (Sq (Rg [Mb 6 false,Mk 7 3]) Rt) Sk)) (Sq (Sq (Rg [Mv 40 1,Fa 41 0 10,Ld 42 41,Ia 43 7 40 42,Lo 7 44 43,p 45 (.call 66 [t 44]),Mv 11 45]) (Sq (Rg [Mv 46 11,Bi 47 .neq 46 0]) (Cn 47 (Sq (Rg [Mv 48 11,Mb 6 false,Mv 7 48]) Rt) Sk))) (Sq (Sq (Rg [Mv 49 1,Fa 50 0 10,Ld 51 50,Ia 52 7 49 51,Fa 53 6 52,Ld 54 53,Le 55 54,Mk 56 0]) (Bk 0 (Lp (Sq (Rg [Bt 57 .lss 56 55]) (Sq (Cn 57 Sk (Ex 0)) (Sq (Bk 1 (Sq (Rg [Ia 58 4 54 56,Lo 4 59 58,p 13 (.alloc [zi,zi,zi,zi]),So 4 13 59]) (Sq (Rg [Fa 60 0 13,Ld 61 60,Fa 62 3 10,Ld 63 62,Fa 64 1 10,Ld 65 64,Bt 66 .sub 63 65,Bt 67 .add 61 66,Fa 68 0 13,So 1 68 67]) (Sq (Rg [Mv 70 2,Lo 4 71 13,p 72 (.call 67 [t 70,t 71]),Mv 69 72,Et 73 69 0,Et 74 69 1,Mv 14 73,Mv 15 74]) (Sq (Sq (Rg [Mv 75 15,Bi 76 .neq 75 0]) (Cn 76 (Sq (Rg [Mv 77 15,Mb 6 false,Mv 7 77]) Rt) Sk)) (Sq (Rg [Mv 78 14]) (Cn 78 (Sq (Rg [Mb 6 true,Mk 7 0]) Rt) Sk))))))) (Rg [Bi 79 .add 56 1,Mv 56 79]))))))) (Sq (Rg [Mb 6 false,Mk 7 0]) Rt)))))))
theorem auL:ae Tryz.prog (Tryz.f35.body.getD .skip)=some c35:=by kernel_rfl
theorem axJ:Tryz.f35.body=some (Tryz.f35.body.getD .skip):=rfl
def c61:Rc:=Sq (Rg [Bx 6 2,Bx 7 3,Mb 8 false]) (Sq (Sq (Dr [Fa 11 3 7,Ld 12 11,Fa 13 3 6,Ld 14 13,Bt 15 .leq 12 14,Mv 16 15,Ga 16 (Fa 17 3 7),Ga 16 (Ld 18 17),Ga 16 (Lo 4 19 6),Ga 16 (p 20 (.call 62 [t 19])),Ga 16 (Bt 21 .gtr 18 20),Pt 22 16 21] [[],[0],[],[2],[1,3],[4],[5],[6,5],[5],[8,5,5],[7,9,5],[5,10]]) (Cn 22 (Sq (Rg [Mb 8 false]) Rt) Sk)) (Sq (Rg [Mv 24 0,Mv 25 1,Lo 4 26 6,p 27 (.call 62 [t 26]),p 28 (.call 58 [t 24,t 25,t 27]),Mv 23 28,Et 29 23 0,Et 30 23 1,Mv 9 29,Mv 10 30]) (Sq (Rg [Mv 31 10,Bi 32 .eql 31 0,Mv 33 32,Gb 33 (Fa 34 3 7),Gb 33 (Ld 35 34),Gb 33 (Mv 36 9),Gb 33 (Bt 37 .leq 35 36),Pf 38 33 37,Mv 8 38]) Rt)))
theorem atW:ae Tryz.prog (Tryz.f61.body.getD .skip)=some c61:=by kernel_rfl
theorem awU:Tryz.f61.body=some (Tryz.f61.body.getD .skip):=rfl
def c59:Rc:=Sq (Rg [Mk 4 0]) (Sq (Sq (Rg [Mv 8 0,Le 9 8,Bi 10 .gtr 9 20]) (Cn 10 (Sq (Rg [Mk 4 5]) Rt) Sk)) (Sq (Sq (Rg [Mv 11 0,Le 12 11,Mk 13 0]) (Bk 0 (Lp (Sq (Rg [Bt 14 .lss 13 12]) (Sq (Cn 14 Sk (Ex 0)) (Sq (Bk 1 (Sq (Rg [Ia 15 7 11 13,Lo 7 16 15,p 6 (.alloc [.t (.val (.string ⟨#[]⟩)),zi,zi,zi,zi,zi,zn]),So 7 6 16]) (Sq (Rg [Lo 7 17 6,p 18 (.call 66 [t 17]),Mv 7 18]) (Sq (Rg [Mv 19 7,Bi 20 .neq 19 0]) (Cn 20 (Sq (Rg [Mv 21 7,Mv 4 21]) Rt) Sk))))) (Rg [Bi 22 .add 13 1,Mv 13 22]))))))) (Sq (Sq (Rg [Mv 23 1,Le 24 23,Mv 25 0,Le 26 25,Bt 27 .neq 24 26]) (Cn 27 (Sq (Rg [Mk 4 1]) Rt) Sk)) (Sq (Rg [Mk 4 0]) Rt))))
theorem atY:ae Tryz.prog (Tryz.f59.body.getD .skip)=some c59:=by kernel_rfl
theorem awW:Tryz.f59.body=some (Tryz.f59.body.getD .skip):=rfl
def c32:Rc:=Sq (Rg [Bx 4 0,Mk 8 0]) (Sq (Sq (Rg [Fa 13 0 4,Ld 14 13,Mv 15 1,p 16 (.call 58 [t 14,t 15,(k 0)]),Mv 12 16,Et 17 12 0,Et 18 12 1,Mv 9 17,Mv 10 18]) (Sq (Rg [Mv 19 10,Bi 20 .neq 19 0]) (Cn 20 (Sq (Rg [Mv 21 10,Mv 8 21]) Rt) Sk))) (Sq (Sq (Rg [Mv 22 2,Mv 23 3,p 24 (.call 59 [t 22,t 23]),Mv 11 24]) (Sq (Rg [Mv 25 11,Bi 26 .neq 25 0]) (Cn 26 (Sq (Rg [Mv 27 11,Mv 8 27]) Rt) Sk))) (Sq (Sq (Rg [Fa 28 1 4,Ld 29 28,Bi 30 .lss 29 1,Mv 31 30,Ga 31 (Fa 32 1 4),Ga 31 (Ld 33 32),Ga 31 (Bi 34 .gtr 33 1048576),Pt 35 31 34]) (Cn 35 (Sq (Rg [Mk 8 3]) Rt) Sk)) (Sq (Rg [Mk 8 0]) Rt))))
theorem auN:ae Tryz.prog (Tryz.f32.body.getD .skip)=some c32:=by kernel_rfl
theorem axL:Tryz.f32.body=some (Tryz.f32.body.getD .skip):=rfl
def c33:Rc:=Sq (Rg [Bx 5 0,Bx 9 4,Mk 10 0]) (Sq (Sq (Rg [Fa 13 1 9,Ld 14 13,Le 15 14,Bi 16 .eql 15 0]) (Cn 16 (Sq (Rg [Mk 10 20]) Rt) Sk)) (Sq (Sq (Rg [Fa 17 1 9,Ld 18 17,Le 19 18,Mk 20 0]) (Bk 0 (Lp (Sq (Rg [Bt 21 .lss 20 19]) (Sq (Cn 21 Sk (Ex 0)) (Sq (Bk 1 (Sq (Rg [Mv 22 20,Ia 23 4 18 20,Lo 4 24 23,p 12 (.alloc [zi,zi,zi,zi]),Mv 11 22,So 4 12 24]) (Sq (Sq (Rg [Lo 4 25 12,Mv 26 2,p 27 (.call 60 [t 25,t 26]),Nt 28 27,Mv 29 28,Ga 29 (Fa 30 3 12),Ga 29 (Ld 31 30),Ga 29 (Bi 32 .lss 31 0),Pt 33 29 32,Mv 34 33,Ga 34 (Fa 35 3 12),Ga 34 (Ld 36 35),Ga 34 (Fa 37 0 5),Ga 34 (Ld 38 37),Ga 34 (Bt 39 .gtr 36 38),Pt 40 34 39]) (Cn 40 (Sq (Rg [Mk 10 3]) Rt) Sk)) (Sq (Sq (Dr [Mv 41 3,Fa 42 0 12,Ld 43 42,Ia 44 1 41 43,Ld 45 44,Fa 46 0 9,Ld 47 46,Bt 48 .neq 45 47] [[],[],[1],[0,2],[3],[],[5],[4,6]]) (Cn 48 (Sq (Rg [Mk 10 16]) Rt) Sk)) (Sq (Sq (Dr [Mv 49 2,Fa 50 0 12,Ld 51 50,Ia 52 7 49 51,Fa 53 1 52,Ld 54 53,Fa 55 1 5,Ld 56 55,Bt 57 .lss 54 56] [[],[],[1],[0,2],[3],[4],[],[6],[5,7]]) (Cn 57 (Sq (Rg [Mk 10 13]) Rt) Sk)) (Sq (Dr [Mv 58 11,Bi 59 .eql 58 0,Mv 60 59,Gb 60 (Fa 61 3 12),Gb 60 (Ld 62 61),Gb 60 (Bi 63 .neq 62 0),Pf 64 60 63,Mv 65 64,Ga 65 (Mv 66 11),Ga 65 (Bi 67 .gtr 66 0),Ga 65 (Mv 68 67),Gb 68 (Fa 69 0 5),Gb 68 (Ld 70 69),Gb 68 (Mv 71 1),Gb 68 (Fa 72 1 9),Gb 68 (Ld 73 72),Gb 68 (Mv 74 11),Gb 68 (Bi 75 .sub 74 1),Gb 68 (Ia 76 4 73 75),Gb 68 (Lo 4 77 76),Gb 68 (Lo 4 78 12),Gb 68 (p 79 (.call 61 [t 70,t 71,t 77,t 78])),Gb 68 (Nt 80 79),Ga 65 (Pf 81 68 80),Pt 82 65 81] [[],[0],[1],[2],[3,2],[4,2],[2,5],[6,2],[7],[8,7],[9,7,7],[10],[11,10],[10],[10],[14,10],[10],[16,10],[15,17,10],[18,10],[10],[12,13,19,20,10,10],[21,10],[10,22,7],[7,23]]) (Cn 82 (Sq (Rg [Mk 10 20]) Rt) Sk))))))) (Rg [Bi 83 .add 20 1,Mv 20 83]))))))) (Sq (Sq (Dr [Fa 84 1 9,Ld 85 84,Fa 86 1 9,Ld 87 86,Le 88 87,Bi 89 .sub 88 1,Ia 90 4 85 89,Lo 4 91 90,p 92 (.call 62 [t 91]),Fa 93 0 5,Ld 94 93,Bt 95 .neq 92 94] [[],[0],[],[2],[3],[4],[1,5],[6],[7],[],[9],[8,10]]) (Cn 95 (Sq (Rg [Mk 10 20]) Rt) Sk)) (Sq (Rg [Mk 10 0]) Rt))))
theorem auM:ae Tryz.prog (Tryz.f33.body.getD .skip)=some c33:=by kernel_rfl
theorem axK:Tryz.f33.body=some (Tryz.f33.body.getD .skip):=rfl
theorem yj (ln:Int) (aq:Lz) (hp:vU aq) (r1 f1 t1 a1 r2 f2 t2 a2:Int):Tg 61 [oI ln,oL 1 aq,Ef r1 f1 t1 a1,Ef r2 f2 t2 a2] GB:=by
 refine ah (n:=39) (rs:=[.tmp 8]) Tryz.func61 awU atW rfl rfl (by simp) ?_
 repeat' (conv=>whnf
          first
  |(refine aD (fun h=>?_) (fun h=>?_))
  |(refine And.intro (by kernel_rfl) ?_)
  |(refine ai rfl (tT _ _ _ _) ?_;rintro _ ⟨n,rfl⟩)
  |(refine aB rfl (tT _ _ _ _) ?_;rintro _ ⟨n,rfl⟩)
  |(refine ai rfl (rE ln aq hp _) ?_;rintro _ ⟨n2,e2,rfl⟩)
  |exact gB rfl rfl)
 all_goals (conv=>whnf)
end Go.aU.Cd
end
section
namespace Go.aU.Cd
open Go Go.Proofs
set_option maxRecDepth 100000
set_option maxHeartbeats 1000000
class CE:Type 1 where
 pk: {α:Type}→[Inhabited α]→FuncId→List W→(α→List W)→(α→Prop)→α
 ok: ∀ {α:Type} [Inhabited α] {f:FuncId} {args:List W} {enc:α→List W} {Q:α→Prop},(∃a,Fn Tryz.prog f args [] (aT (enc a)) []∧(aT (enc a)).cq=true∧Q a)→
  Fn Tryz.prog f args [] (aT (enc (pk f args enc Q))) []∧(aT (enc (pk f args enc Q))).cq=true∧Q (pk f args enc Q)
open Classical in
theorem NU:Nonempty CE:=by
 refine⟨⟨fun f args enc Q=>if h: ∃a,Fn Tryz.prog f args [] (aT (enc a)) []∧(aT (enc a)).cq=true∧Q a then h.choose else default,?_⟩⟩
 intro α _ f args enc Q h
 rw[dif_pos h]
 exact h.choose_spec
variable [CE]
def pk {α:Type} [Inhabited α] (f:FuncId) (args:List W) (enc:α→List W) (Q:α→Prop):α:=CE.pk f args enc Q
theorem xf {α:Type} [Inhabited α] {f:FuncId} {args:List W} {enc:α→List W} {Q:α→Prop} (h: ∃a,Fn Tryz.prog f args [] (aT (enc a)) []∧(aT (enc a)).cq=true∧Q a):
 ∃ts,Fn Tryz.prog f args [] (aT ts) []∧(aT ts).cq=true∧(ts=enc (pk f args enc Q)∧Q (pk f args enc Q)):=
 ⟨_,(CE.ok h).1,(CE.ok h).2.1,rfl,(CE.ok h).2.2⟩
def idV (id:ByteArray):Bool:=pk 89 [oS id] (fun b=>[oB b]) (fun _=>True)
theorem BQ (id:ByteArray) (bN:id.size≤maxLen): ∃ts,Fn Tryz.prog 89 [oS id] [] (aT ts) []∧(aT ts).cq=true∧(ts=[oB (idV id)]∧True):=by
 obtain⟨ts,h1,h2,b,rfl⟩:=D1 id bN
 exact xf (enc:=fun b=>[oB b]) (Q:=fun _=>True) ⟨b,h1,h2,trivial⟩
def P6 (e:List T):Prop:= -1000≤nI 0 e∧nI 0 e≤1000
def agV (l w:Int) (e:List T):Prop:=(0≤nI 0 e∧1≤nI 2 e∧nI 2 e≤IntKind.i64.wrap (l - nI 0 e))∧0≤nI 1 e∧1≤nI 3 e∧nI 3 e≤IntKind.i64.wrap (w - nI 1 e)
structure HA (id:ByteArray) (w l a b c:Int) (fl:Lz):Prop where
 id:idV id=true
 rl:1≤l∧l≤1048576
 rw_:1≤w∧w≤1048576
 Rk: ∀e,e∈ [[tI a],[tI b],[tI c]]→P6 e
 fll:fl.length≤20
 flo: ∀e,e∈fl→agV l w e
def JG (a b c:Int) (m:Nat) (vs:List V):Prop:= ∃i:Nat,i≤3∧Pre P6 [[tI a],[tI b],[tI c]] i∧m=3 - i∧vs=[iV .i64 (i:Int)]
theorem JG.next {a b c a5:Int} {i:Nat} (hi:(i:Int) < 3) (h:Pre P6 [[tI a],[tI b],[tI c]] i) (hs: [[tI a],[tI b],[tI c]][0+((i:Int)).toNat]? =some [tI a5]) (h1: -1000≤a5) (h2:a5≤1000):JG a b c (3 - (i+1)) [iV .i64 (IntKind.i64.wrap ((i:Int)+1))]:=
 ⟨i+1,by omega,h.succ (e:=[tI a5]) (by simpa using hs) (show -1000≤a5∧a5≤1000 from⟨h1,h2⟩),rfl,by rw[bt (by omega) (by omega)];rfl⟩
theorem F0 {b:Bool} (h:(!b)=true):¬b=true:=by simpa using h
theorem rG (id:ByteArray) (w l a b c:Int) (fl:Lz) (bN:id.size≤maxLen) (hf:Bo fl) (hfl:fl.length≤maxLen):Tg 66 [oRl id w l a b c fl] (nN (fun n=>n=0↔HA id w l a b c fl)):=by
 refine ah (n:=101) (rs:=[.tmp 2]) Tryz.func66 awT atV rfl rfl (by simp) ?_
 repeat' (conv=>whnf
          first
  |(refine aD (fun h=>?_) (fun h=>?_))
  |(refine aI (fun h=>?_) (fun h=>?_))
  |(refine aC (xs:=fl) hf (by omega) (by omega) ?_;rintro _ ⟨a2,b2,c2,d2,rfl⟩ hs)
  |(refine And.intro (by omega) ?_)
  |(refine ai rfl (BQ id bN) ?_;rintro _ ⟨rfl,_⟩)
  |(have hi4:(i:Int) < 3:=(by omega);refine cj (xs:=[[tI a],[tI b],[tI c]]) rfl is3 (by simp;omega) ?_;rintro _ ⟨a5,rfl⟩ hs6)
  |exact iP rfl rfl (iff_of_false (by decide) (fun hh=>F0 (by assumption) hh.id))
  |exact iP rfl rfl (iff_of_false (by decide) (fun hh=>by have h1:=hh.rl;have h2:=hh.rw_;omega))
  |exact iP rfl rfl (iff_of_false (by decide) (fun hh=>by have h1: -1000≤a5∧a5≤1000:=hh.Rk _ (List.mem_of_getElem? hs6);omega))
  |exact iP rfl rfl (iff_of_false (by decide) (fun hh=>by have h1:=hh.fll;omega))
  |exact iP rfl rfl (iff_of_false (by decide) (fun hh=>by have h1:(0≤a2∧1≤c2∧c2≤IntKind.i64.wrap (l - a2))∧0≤b2∧1≤d2∧d2≤IntKind.i64.wrap (w - b2):=hh.flo _ (List.mem_of_getElem? hs);omega))
  |exact iP rfl rfl (iff_of_true rfl ⟨mI (by assumption),by omega,by omega,hp.all (by simp;omega),by omega,hp2.all (by omega)⟩)
  |(apply aO [1,56,57,58] [] [58] (RQ (agV l w) fl) (fl.length) [iV .i64 0];(conv=>whnf);exact⟨rfl,rfl,rfl,rfl⟩;exact rfl;exact rfl;exact RQ.zero;rintro _ _ ⟨i2,hi2,hp2,rfl,rfl⟩)
  |(refine au [1,56,57,58] [] ?_;(conv=>whnf);exact⟨rfl,_,[_],RQ.next (by omega) hfl hp2 hs (show(0≤a2∧1≤c2∧c2≤IntKind.i64.wrap (l - a2))∧0≤b2∧1≤d2∧d2≤IntKind.i64.wrap (w - b2)from⟨⟨by omega,by omega,by omega⟩,by omega,by omega,by omega⟩),rfl,rfl,rfl,by omega⟩)
  |(apply aO [1,38,39,40] [] [40] (JG a b c) (3) [iV .i64 0];(conv=>whnf);exact⟨rfl,rfl,rfl,rfl⟩;exact rfl;exact rfl;exact⟨0,by omega,Pre.zero,rfl,rfl⟩;rintro _ _ ⟨i,hi,hp,rfl,rfl⟩)
  |(refine au [1,38,39,40] [] ?_;(conv=>whnf);exact⟨rfl,_,[_],JG.next hi4 hp hs6 (by omega) (by omega),rfl,rfl,rfl,by omega⟩))
 all_goals (conv=>whnf)
def tj (e:List T):Prop:= ∃id w l a b c fl,e=[.val (.string id),tI w,tI l,tI a,tI b,tI c, .aA 4 fl]∧HA id w l a b c fl
theorem tj.of {id:ByteArray} {w l a b c:Int} {fl:Lz} (h:tj [.val (.string id),tI w,tI l,tI a,tI b,tI c, .aA 4 fl]):HA id w l a b c fl:=by
 obtain⟨id',w',l',a',b',c',fl',he,h⟩:=h
 simp only[List.cons.injEq,T.val.injEq,Value.string.injEq,Value.int.injEq,T.aA.injEq,true_and,and_true]at he
 obtain⟨rfl,rfl,rfl,rfl,rfl,rfl,rfl⟩:=he
 exact h
structure agG (ag aS:Lz):Prop where
 n:ag.length≤20
 all: ∀e,e∈ag→tj e
 aS:aS.length=ag.length
theorem ow (ag aS:Lz) (hR:vZ ag) (zN:ag.length≤maxLen):Tg 59 [oL 7 ag,oL 1 aS] (nN (fun n=>n=0↔agG ag aS)):=by
 refine ah (n:=28) (rs:=[.tmp 4]) Tryz.func59 awW atY rfl rfl (by simp) ?_
 repeat' (conv=>whnf
          first
  |(refine aD (fun h=>?_) (fun h=>?_))
  |(refine bY (fun h=>?_) (fun h=>?_))
  |(refine aC (xs:=ag) hR (by omega) (by omega) ?_;rintro _ ⟨id,w1,l1,a2,b2,c2,fl,rfl,bN,hfl,EE⟩ qM)
  |(refine ai rfl (rG id w1 l1 a2 b2 c2 fl bN hfl EE) ?_;rintro _ ⟨e2,rfl,Df⟩)
  |exact iP rfl rfl (iff_of_false (by decide) (fun hh=>by have h1:=hh.n;omega))
  |exact iP rfl rfl (iff_of_false (by omega) (fun hh=>by have h1:=Df.2 (tj.of (hh.all _ (List.mem_of_getElem? qM)));omega))
  |exact iP rfl rfl (iff_of_false (by decide) (fun hh=>by have h1:=hh.aS;omega))
  |exact iP rfl rfl (iff_of_true rfl ⟨by omega,hp.all (by omega),by omega⟩)
  |(apply aO [0,1,11,12,13] [] [13] (RQ tj ag) (ag.length) [iV .i64 0];(conv=>whnf);exact⟨rfl,rfl,rfl,rfl⟩;exact rfl;exact rfl;exact RQ.zero;rintro _ _ ⟨i,hi,hp,rfl,rfl⟩)
  |(refine au [0,1,11,12,13] [] ?_;(conv=>whnf);exact⟨rfl,_,[_],RQ.next (by omega) zN hp qM ⟨_,_,_,_,_,_,_,rfl,Df.1 (by omega)⟩,rfl,rfl,rfl,by omega⟩))
 all_goals (conv=>whnf)
def bkV (ln:Int) (aq:Lz) (hi:Int):Int×Int:=pk 58 [oI ln,oL 1 aq,oI hi] (fun p=>[oI p.1,oI p.2]) (fun _=>True)
theorem ym (ln:Int) (aq:Lz) (hp:vU aq) (hi:Int): ∃ts,Fn Tryz.prog 58 [oI ln,oL 1 aq,oI hi] [] (aT ts) []∧(aT ts).cq=true∧(ts=[oI (bkV ln aq hi).1,oI (bkV ln aq hi).2]∧True):=by
 obtain⟨ts,h1,h2,n,e,rfl⟩:=rE ln aq hp hi
 exact xf (enc:=fun p:Int×Int=>[oI p.1,oI p.2]) (Q:=fun _=>True) ⟨(n,e),h1,h2,trivial⟩
def jnV (ln:Int) (aq:Lz) (p q:List T):Bool:=pk 61 [oI ln,oL 1 aq, .agg (p.map .t), .agg (q.map .t)] (fun b=>[oB b]) (fun _=>True)
theorem wh (ln:Int) (aq:Lz) (hp:vU aq) (r1 f1 t1 a1 r2 f2 t2 a2:Int): ∃ts,Fn Tryz.prog 61 [oI ln,oL 1 aq,Ef r1 f1 t1 a1,Ef r2 f2 t2 a2] [] (aT ts) []∧(aT ts).cq=true∧(ts=[oB (jnV ln aq (zm r1 f1 t1 a1) (zm r2 f2 t2 a2))]∧True):=by
 obtain⟨ts,h1,h2,b,rfl⟩:=yj ln aq hp r1 f1 t1 a1 r2 f2 t2 a2
 exact xf (f:=61) (args:=[oI ln,oL 1 aq, .agg ((zm r1 f1 t1 a1).map .t), .agg ((zm r2 f2 t2 a2).map .t)]) (enc:=fun b=>[oB b]) (Q:=fun _=>True) ⟨b,h1,h2,trivial⟩
structure ClF (ln wd:Int) (aq ag aS:Lz):Prop where
 back:(bkV ln aq 0).2=0
 rs:agG ag aS
 wd:1≤wd∧wd≤1048576
theorem ox (ln wd rx ry:Int) (sizes places aq ag aS:Lz) (hp:vU aq) (hR:vZ ag) (zN:ag.length≤maxLen):Tg 32 [Km ln wd rx ry sizes places,oL 1 aq,oL 7 ag,oL 1 aS] (nN (fun n=>n=0↔ClF ln wd aq ag aS)):=by
 refine ah (n:=36) (rs:=[.tmp 8]) Tryz.func32 axL auN rfl rfl (by simp) ?_
 repeat' (conv=>whnf
          first
  |(refine aD (fun h=>?_) (fun h=>?_))
  |(refine bY (fun h=>?_) (fun h=>?_))
  |(refine ai rfl (ym ln aq hp _) ?_;rintro _ ⟨rfl,_⟩)
  |(refine ai rfl (ow ag aS hR zN) ?_;rintro _ ⟨n,rfl,hn⟩)
  |exact iP rfl rfl (iff_of_false (by omega) (fun hh=>by have h1:=hh.back;omega))
  |exact iP rfl rfl (iff_of_false (by omega) (fun hh=>by have h1:=hn.2 hh.rs;omega))
  |exact iP rfl rfl (iff_of_false (by decide) (fun hh=>by have h1:=hh.wd;omega))
  |exact iP rfl rfl (iff_of_true rfl ⟨by omega,hn.1 (by omega),by omega⟩))
 all_goals (conv=>whnf)
abbrev lO (xs:Lz) (r:Int):List T:=(xs[r.toNat]?).getD []
def ClL (ag:Lz) (p:List T):Prop:=(0≤nI 0 p∧nI 0 p < (ag.length:Int))∧0≤nI 1 p∧nI 1 p < nI 2 p∧nI 2 p≤nI 2 (lO ag (nI 0 p))
theorem jC {xs:Lz} {r:Int} {e:List T} (h:xs[r.toNat]? =some e):lO xs r=e:=by simp[lO,h]
theorem WE {ag:Lz} {r f t a q:Int} {id:ByteArray} {w l a1 b1 c1:Int} {fl:Lz} (hs:ag[r.toNat]? =some [.val (.string id),tI w,tI l,tI a1,tI b1,tI c1, .aA 4 fl]) (h0:0≤r) (h1:r < (ag.length:Int)) (h2:0≤f) (h3:f < t) (b:Bool) (hb:b=decide (t≤l)):b=true↔ClL ag [tI r,tI f,tI t,tI a]:=by
 have e:nI 2 (lO ag r)=l:=by rw[jC hs];rfl
 rw[hb,decide_eq_true_eq]
 constructor
 · intro h
   exact⟨⟨h0,h1⟩,h2,h3,by show t≤nI 2 (lO ag r);rw[e];exact h⟩
 · rintro⟨_,_,_,h⟩
   have h:t≤nI 2 (lO ag r):=h
   rwa [e]at h
theorem sI (r f t a:Int) (ag:Lz) (hR:vZ ag):Tg 60 [Ef r f t a,oL 7 ag] (J3 (ClL ag (zm r f t a))):=by
 refine ah (n:=38) (rs:=[.tmp 4]) Tryz.func60 awV atX rfl rfl (by simp) ?_
 repeat' (conv=>whnf
          first
  |(refine aD (fun h=>?_) (fun h=>?_))
  |(refine aC (xs:=ag) hR (by omega) (by omega) ?_;rintro _ ⟨id,w,l,a1,b1,c1,fl,rfl,_,_,_⟩ hs)
  |(refine And.intro (by kernel_rfl) ?_)
  |exact KH rfl rfl (WE (q:=0) hs (by omega) (by omega) (by omega) (by omega) _ rfl)
  |exact KH rfl rfl (iff_of_false (by simp) (fun hh=>by obtain⟨⟨h1,h2⟩,h3,h4,_⟩:=hh;have h1:0≤r:=h1;have h2:r < (ag.length:Int):=h2;have h3:0≤f:=h3;have h4:f < t:=h4;omega)))
 all_goals (conv=>whnf)
end Go.aU.Cd
end
section
namespace Go.aU.Cd
open Go Go.Proofs
set_option maxRecDepth 100000
set_option maxHeartbeats 1000000
variable [CE]
def Wy (e:List T):Int:=IntKind.i64.wrap (IntKind.i64.wrap (nI 3 e+nI 2 e) - nI 1 e)
theorem z8 (r f t a:Int):Tg 62 [Ef r f t a] (nN (fun n=>n=Wy (zm r f t a))):=by
 refine ah (n:=11) (rs:=[.tmp 2]) Tryz.func62 abH WI rfl rfl (by simp) ?_
 repeat' (conv=>whnf
          first
  |exact iP rfl rfl rfl)
 all_goals (conv=>whnf)
def PV (ln wd:Int) (ag aS:Lz) (pE:Int) (p:List T):Prop:=ClL ag p∧(0≤nI 3 p∧nI 3 p≤ln)∧nI 0 (lO aS (nI 0 p))=pE∧wd≤nI 1 (lO ag (nI 0 p))
def JR (ln:Int) (aq ps:Lz) (i:Nat) (p:List T):Prop:=(i=0→nI 3 p=0)∧(0 < i→jnV ln aq ((ps[i - 1]?).getD []) p=true)
structure zH (ln wd:Int) (aq ag aS:Lz) (pE:Int) (ps:Lz):Prop where
 ne:ps.length≠0
 all: ∀i p,ps[i]? =some p→PV ln wd ag aS pE p∧JR ln aq ps i p
 en:Wy ((ps[ps.length - 1]?).getD [])=ln
def HF (Q:Nat→List T→Prop) (xs:Lz) (i:Nat):Prop:= ∀j e,j < i→xs[j]? =some e→Q j e
theorem HF.succ {Q:Nat→List T→Prop} {xs:Lz} {i:Nat} {e:List T} (h:HF Q xs i) (hs:xs[i]? =some e) (hq:Q i e):HF Q xs (i+1):=by
 intro j e' hj he
 by_cases fo:j=i
 · subst fo
   rw[hs]at he
   cases he
   exact hq
 · exact h j e' (by omega) he
def HD (Q:Nat→List T→Prop) (xs:Lz) (ia:List (Lz)) (m:Nat) (vs:List V) (xss:List (Lz)):Prop:= ∃i:Nat,i≤xs.length∧HF Q xs i∧m=xs.length - i∧vs=[iV .i64 (i:Int)]∧xss=ia
theorem HD.next {Q:Nat→List T→Prop} {xs:Lz} {ia:List (Lz)} {i:Nat} {e:List T} (hi:(i:Int) < (xs.length:Int)) (hl:xs.length≤maxLen) (h:HF Q xs i) (hs:xs[((i:Int)).toNat]? =some e) (hq:Q i e):HD Q xs ia (xs.length - (i+1)) [iV .i64 (IntKind.i64.wrap ((i:Int)+1))] ia:=
 ⟨i+1,by omega,h.succ (by simpa using hs) hq,rfl,by simp only[maxLen]at hl;rw[bt (by omega) (by omega)];rfl,rfl⟩
section
variable {ln wd l r f t a:Int} {aq ag aS ps:Lz} {i:Nat} {b:Bool} {x:List T} {n7:Int} {id:ByteArray} {w1 l1 a2 b2 c2:Int} {fl:Lz}
theorem PV.mk' (hb:b=true↔ClL ag (zm r f t a)) (h0:(!b)=false) (h1:¬a < 0) (h2:¬a > ln) (Ol:aS[r.toNat]? =some [tI n7]) (h3:n7=l) (qM:ag[r.toNat]? =some [.val (.string id),tI w1,tI l1,tI a2,tI b2,tI c2, .aA 4 fl]) (h4:¬w1 < wd):PV ln wd ag aS l (zm r f t a):=by
 refine⟨hb.1 (mI h0),⟨by show 0≤a;omega,by show a≤ln;omega⟩,?_,?_⟩
 · show nI 0 (lO aS r)=l
   rw[jC Ol]
   exact h3
 · show wd≤nI 1 (lO ag r)
   rw[jC qM]
   show wd≤w1
   omega
theorem qE (hh:zH ln wd aq ag aS l ps) (hs:ps[((i:Int)).toNat]? =some x):PV ln wd ag aS l x∧JR ln aq ps i x:=hh.all i x (by simpa using hs)
theorem R5 (hh:zH ln wd aq ag aS l ps) (hs:ps[((i:Int)).toNat]? =some (zm r f t a)) (hb:b=true↔ClL ag (zm r f t a)) (h0:(!b)=true):False:=by
 have:=hb.2 (qE hh hs).1.1
 rw[this]at h0
 simp at h0
theorem R6 (hh:zH ln wd aq ag aS l ps) (hs:ps[((i:Int)).toNat]? =some (zm r f t a)) (h:a < 0∨a > ln):False:=by
 have h1:0≤a∧a≤ln:=(qE hh hs).1.2.1
 omega
theorem N3 (hh:zH ln wd aq ag aS l ps) (hs:ps[((i:Int)).toNat]? =some (zm r f t a)) (Ol:aS[r.toNat]? =some [tI n7]) (h3:¬n7=l):False:=by
 have h1:nI 0 (lO aS r)=l:=(qE hh hs).1.2.2.1
 rw[jC Ol]at h1
 exact h3 h1
theorem RZ (hh:zH ln wd aq ag aS l ps) (hs:ps[((i:Int)).toNat]? =some (zm r f t a)) (qM:ag[r.toNat]? =some [.val (.string id),tI w1,tI l1,tI a2,tI b2,tI c2, .aA 4 fl]) (h4:w1 < wd):False:=by
 have h1:wd≤nI 1 (lO ag r):=(qE hh hs).1.2.2.2
 rw[jC qM]at h1
 have h1:wd≤w1:=h1
 omega
theorem R4 (hh:zH ln wd aq ag aS l ps) (hs:ps[((i:Int)).toNat]? =some (zm r f t a)) (hi:(i:Int)=0) (h:¬a=0):False:=
 h ((qE hh hs).2.1 (by omega))
theorem C6 (hi:(i:Int) > 0) (hl:ps.length≤maxLen) (hi2:(i:Int) < (ps.length:Int)) (Dd:ps[(IntKind.i64.wrap ((i:Int) - 1)).toNat]? =some x):(ps[i - 1]?).getD []=x:=by
 simp only[maxLen]at hl
 rw[bt (by omega) (by omega),show((i:Int) - 1).toNat=i - 1 by omega]at Dd
 simp[Dd]
theorem R0 (hh:zH ln wd aq ag aS l ps) (hs:ps[((i:Int)).toNat]? =some (zm r f t a)) (hi:(i:Int) > 0) (hl:ps.length≤maxLen) (hi2:(i:Int) < (ps.length:Int)) (Dd:ps[(IntKind.i64.wrap ((i:Int) - 1)).toNat]? =some x) (h:(!jnV ln aq x (zm r f t a))=true):False:=by
 have:=(qE hh hs).2.2 (by omega)
 rw[C6 hi hl hi2 Dd]at this
 rw[this]at h
 simp at h
theorem JR.zero (hi:(i:Int)=0) (h:a=0):JR ln aq ps i (zm r f t a):=⟨fun _=>h,fun h=>by omega⟩
theorem JR.pos (hi:(i:Int) > 0) (hl:ps.length≤maxLen) (hi2:(i:Int) < (ps.length:Int)) (Dd:ps[(IntKind.i64.wrap ((i:Int) - 1)).toNat]? =some x) (h:(!jnV ln aq x (zm r f t a))=false):JR ln aq ps i (zm r f t a):=
 ⟨fun h=>by omega,fun _=>by rw[C6 hi hl hi2 Dd];exact mI h⟩
theorem Db (hl:ps.length≤maxLen) (h0:¬ (ps.length:Int)=0) (Dd:ps[(IntKind.i64.wrap ((ps.length:Int) - 1)).toNat]? =some x):(ps[ps.length - 1]?).getD []=x:=by
 simp only[maxLen]at hl
 rw[bt (by omega) (by omega),show((ps.length:Int) - 1).toNat=ps.length - 1 by omega]at Dd
 simp[Dd]
end
theorem qx (ln wd rx ry:Int) (sizes places aq ag aS:Lz) (hp:vU aq) (hR:vZ ag) (zN:ag.length≤maxLen) (hlo:Is aS) (QA:aS.length=ag.length) (l:Int) (ps:Lz) (hps:Bo ps) (ji:ps.length≤maxLen):Tg 33 [Km ln wd rx ry sizes places,oL 1 aq,oL 7 ag,oL 1 aS,FY l ps] (nN (fun n=>n=0↔zH ln wd aq ag aS l ps)):=by
 refine ah (n:=96) (rs:=[.tmp 10]) Tryz.func33 axK auM rfl rfl (by simp) ?_
 repeat' (conv=>whnf
          first
  |(refine aD (fun h=>?_) (fun h=>?_))
  |(refine bY (fun h=>?_) (fun h=>?_))
  |(refine aI (fun h=>?_) (fun h=>?_))
  |(have h7:0≤r1∧r1 < (ag.length:Int):=(hb.1 (mI (b:=b) (by assumption))).1;refine aC (xs:=aS) hlo h7.1 (by omega) ?_;rintro _ ⟨n7,rfl⟩ Ol)
  |(have h7:0≤r1∧r1 < (ag.length:Int):=(hb.1 (mI (b:=b) (by assumption))).1;refine aC (xs:=ag) hR h7.1 h7.2 ?_;rintro _ ⟨id,w1,l1,a2,b2,c2,fl,rfl,bN,hfl,EE⟩ qM)
  |(refine aC (xs:=ps) hps (by omega) (by omega) ?_;rintro _ ⟨r1,f1,t1,a1,rfl⟩ hs)
  |(have h77:=ji;simp only[maxLen]at h77;refine aC (xs:=ps) hps (by first|omega|(simp (disch:=omega) only[aa];omega)) (by first|omega|(simp (disch:=omega) only[aa];omega)) ?_;rintro _ ⟨r9,f9,t9,a9,rfl⟩ Dd)
  |(refine And.intro (by kernel_rfl) ?_)
  |(refine ai rfl (sI r1 f1 t1 a1 ag hR) ?_;rintro _ ⟨b,rfl,hb⟩)
  |(refine aB rfl (wh ln aq hp _ _ _ _ _ _ _ _) ?_;rintro _ ⟨rfl,_⟩)
  |(refine aB rfl (z8 _ _ _ _) ?_;rintro _ ⟨_,rfl,rfl⟩)
  |exact iP rfl rfl (iff_of_false (by decide) (fun hh=>by have h1:=hh.ne;omega))
  |exact iP rfl rfl (iff_of_false (by decide) (fun hh=>R5 hh hs hb (by assumption)))
  |exact iP rfl rfl (iff_of_false (by decide) (fun hh=>R6 hh hs (by omega)))
  |exact iP rfl rfl (iff_of_false (by decide) (fun hh=>N3 hh hs Ol (by omega)))
  |exact iP rfl rfl (iff_of_false (by decide) (fun hh=>RZ hh hs qM (by omega)))
  |exact iP rfl rfl (iff_of_false (by decide) (fun hh=>R4 hh hs (by omega) (by omega)))
  |exact iP rfl rfl (iff_of_false (by decide) (fun hh=>R0 hh hs (by omega) ji (by omega) Dd (by assumption)))
  |exact iP rfl rfl (iff_of_false (by decide) (fun hh=>by have h1:=hh.en;rw[Db ji (by omega) Dd]at h1;exact absurd h1 (by assumption)))
  |exact iP rfl rfl (iff_of_true rfl ⟨by omega,fun j p hj=>hpre j p (by have:=(List.getElem?_eq_some_iff.1 hj).1;omega) hj,by rw[Db ji (by omega) Dd];omega⟩)
  |(apply bH [1,2,3,5,9,18,19,20] [] [20] [(4,6),(8,2)] (HD (fun i p=>PV ln wd ag aS l p∧JR ln aq ps i p) ps [[[tI ln,tI wd,tI rx,tI ry, .aA 1 sizes, .aA 7 places]],[[tI l, .aA 4 ps]]]) (ps.length) [iV .i64 0];(conv=>whnf);exact⟨rfl,rfl,rfl,rfl⟩;exact rfl;exact rfl;exact .cons (aF.az (xs:=[[tI ln,tI wd,tI rx,tI ry, .aA 1 sizes, .aA 7 places]]) rfl _) (.cons (aF.az (xs:=[[tI l, .aA 4 ps]]) rfl _) .nil);exact⟨0,by omega,fun j e hj=>by omega,rfl,rfl,rfl⟩;rintro _ _ _ ⟨i,hi,hpre,rfl,rfl,rfl⟩)
  |(refine au [1,2,3,5,9,18,19,20] [] ?_;(conv=>whnf);first|exact⟨rfl,_,[_],_, .cons (aF.az (xs:=[[tI ln,tI wd,tI rx,tI ry, .aA 1 sizes, .aA 7 places]]) rfl _) (.cons (aF.az (xs:=[[tI l, .aA 4 ps]]) rfl _) .nil),HD.next (by omega) ji hpre hs ⟨PV.mk' hb (by assumption) (by assumption) (by assumption) Ol (by omega) qM (by assumption),JR.pos (by omega) ji (by omega) Dd (by assumption)⟩,rfl,rfl,by omega⟩|exact⟨rfl,_,[_],_, .cons (aF.az (xs:=[[tI ln,tI wd,tI rx,tI ry, .aA 1 sizes, .aA 7 places]]) rfl _) (.cons (aF.az (xs:=[[tI l, .aA 4 ps]]) rfl _) .nil),HD.next (by omega) ji hpre hs ⟨PV.mk' hb (by assumption) (by assumption) (by assumption) Ol (by omega) qM (by assumption),JR.zero (by omega) (by omega)⟩,rfl,rfl,by omega⟩)
  |(exfalso;omega))
 all_goals (conv=>whnf)
end Go.aU.Cd
end
section
namespace Go.Proofs
open Go.Shelf
def Tryz.BK:Go.Shelf.Ren:=⟨fun|6=>63|15=>87|14=>86|28=>117|29=>118|20=>109|21=>110|22=>111|23=>112|24=>113|25=>114|26=>115|27=>116|46=>143|47=>144|48=>145|49=>146|50=>147|57=>172|n=>n,fun|22=>175|24=>177|25=>180|3=>3|39=>205|0=>0|53=>238|55=>240|4=>4|46=>232|45=>231|50=>101|5=>5|9=>9|66=>260|70=>264|76=>306|77=>307|n=>n,fun|n=>n⟩
theorem Tryz.FD:Go.Proofs.SlLaysF0.n6 Tryz.prog Tryz.BK:={
 mixed:=by kernel_rfl
 f6:=⟨Tryz.f63.name,by decide,Tryz.func63.trans (congrArg some (by kernel_rfl))⟩
 f14:=⟨Tryz.f86.name,by decide,Tryz.func86.trans (congrArg some (by kernel_rfl))⟩
 f15:=Tryz.func87.trans (congrArg some (by kernel_rfl))
 f20:=⟨Tryz.f109.name,by decide,Tryz.func109.trans (congrArg some (by kernel_rfl))⟩
 f21:=⟨Tryz.f110.name,by decide,Tryz.func110.trans (congrArg some (by kernel_rfl))⟩
 f22:=⟨Tryz.f111.name,by decide,Tryz.func111.trans (congrArg some (by kernel_rfl))⟩
 f23:=⟨Tryz.f112.name,by decide,Tryz.func112.trans (congrArg some (by kernel_rfl))⟩
 f24:=⟨Tryz.f113.name,by decide,Tryz.func113.trans (congrArg some (by kernel_rfl))⟩
 f25:=⟨Tryz.f114.name,by decide,Tryz.func114.trans (congrArg some (by kernel_rfl))⟩
 f26:=⟨Tryz.f115.name,by decide,Tryz.func115.trans (congrArg some (by kernel_rfl))⟩
 f27:=⟨Tryz.f116.name,by decide,Tryz.func116.trans (congrArg some (by kernel_rfl))⟩
 f28:=Tryz.func117.trans (congrArg some (by kernel_rfl))
 f29:=Tryz.func118.trans (congrArg some (by kernel_rfl))
 f46:=⟨Tryz.f143.name,by decide,Tryz.func143.trans (congrArg some (by kernel_rfl))⟩
 f47:=Tryz.func144.trans (congrArg some (by kernel_rfl))
 f48:=Tryz.func145.trans (congrArg some (by kernel_rfl))
 f49:=⟨Tryz.f146.name,by decide,Tryz.func146.trans (congrArg some (by kernel_rfl))⟩
 f50:=⟨Tryz.f147.name,by decide,Tryz.func147.trans (congrArg some (by kernel_rfl))⟩
 f57:=⟨Tryz.f172.name,by decide,Tryz.func172.trans (congrArg some (by kernel_rfl))⟩
 t0:=Tryz.underlying0
 a0:=Tryz.isAgg0
 z0:=Tryz.sizeOf0
 v0:=Tryz.zeroValue0
 t3:=Tryz.underlying3
 a3:=Tryz.isAgg3
 z3:=Tryz.sizeOf3
 v3:=Tryz.zeroValue3
 t4:=Tryz.underlying4
 a4:=Tryz.isAgg4
 z4:=Tryz.sizeOf4
 v4:=Tryz.zeroValue4
 t5:=Tryz.underlying5
 a5:=Tryz.isAgg5
 z5:=Tryz.sizeOf5
 v5:=Tryz.zeroValue5
 t9:=Tryz.underlying9
 a9:=Tryz.isAgg9
 z9:=Tryz.sizeOf9
 v9:=Tryz.zeroValue9
 t22:=Tryz.underlying175
 a22:=Tryz.isAgg175
 z22:=Tryz.sizeOf175
 v22:=Tryz.zeroValue175
 t25:=Tryz.underlying180
 a25:=Tryz.isAgg180
 z25:=Tryz.sizeOf180
 v25:=Tryz.zeroValue180
 t39:=Tryz.underlying205
 a39:=Tryz.isAgg205
 z39:=Tryz.sizeOf205
 v39:=Tryz.zeroValue205
 t45:=Tryz.underlying231
 a45:=Tryz.isAgg231
 z45:=Tryz.sizeOf231
 v45:=Tryz.zeroValue231
 t46:=Tryz.underlying232
 a46:=Tryz.isAgg232
 z46:=Tryz.sizeOf232
 v46:=Tryz.zeroValue232
 t50:=Tryz.underlying101
 a50:=Tryz.isAgg101
 z50:=Tryz.sizeOf101
 v50:=Tryz.zeroValue101
 t53:=Tryz.underlying238
 a53:=Tryz.isAgg238
 z53:=Tryz.sizeOf238
 v53:=Tryz.zeroValue238
 t55:=Tryz.underlying240
 a55:=Tryz.isAgg240
 z55:=Tryz.sizeOf240
 v55:=Tryz.zeroValue240
 t66:=Tryz.underlying260
 a66:=Tryz.isAgg260
 z66:=Tryz.sizeOf260
 v66:=Tryz.zeroValue260
 t70:=Tryz.underlying264
 a70:=Tryz.isAgg264
 z70:=Tryz.sizeOf264
 v70:=Tryz.zeroValue264
 t76:=Tryz.underlying306
 a76:=Tryz.isAgg306
 z76:=Tryz.sizeOf306
 v76:=Tryz.zeroValue306
 t77:=Tryz.underlying307
 a77:=Tryz.isAgg307
 z77:=Tryz.sizeOf307
 v77:=Tryz.zeroValue307}
def Tryz.Cr:Go.Shelf.Ren:=⟨fun|5=>65|7=>88|n=>n,fun|22=>3|3=>3|4=>4|n=>n,fun|n=>n⟩
theorem Tryz.O4:Go.Proofs.SlLaysC2.n5 Tryz.prog Tryz.Cr:={
 mixed:=by kernel_rfl
 f5:=⟨Tryz.f65.name,by decide,Tryz.func65.trans (congrArg some (by kernel_rfl))⟩
 f7:=⟨Tryz.f88.name,by decide,Tryz.func88.trans (congrArg some (by kernel_rfl))⟩
 t3:=Tryz.underlying3
 a3:=Tryz.isAgg3
 z3:=Tryz.sizeOf3
 v3:=Tryz.zeroValue3
 t4:=Tryz.underlying4
 a4:=Tryz.isAgg4
 z4:=Tryz.sizeOf4
 v4:=Tryz.zeroValue4
 t22:=Tryz.underlying3
 a22:=Tryz.isAgg3
 z22:=Tryz.sizeOf3
 v22:=Tryz.zeroValue3}
end Go.Proofs
end
section
namespace Go.aU.Cd
open Go Go.Proofs Go.Sort Go.Shelf Go.RowKit Go.Lib
set_option maxRecDepth 100000
abbrev Zn:=Int×Int
abbrev eZ (x:Zn):List T:=[tI x.1,tI x.2]
abbrev rZ (l:List Zn):Lz:=l.map eZ
def q8 (x:Zn):List Value:=[.int .i64 x.1, .int .i64 x.2]
def MO (x y:Zn):Int:=Lib.compareInt x.1 y.1
def mr (d:Array Zn):Array Zn:=pdq (ltOf MO) d 0 d.size (Lib.bitLen d.size) true true
def cJ (l:List Zn):List Zn:=(mr l.toArray).toList
theorem ltZ (x y:Zn):ltOf MO x y=decide (x.1 < y.1):=by
 unfold ltOf MO Lib.compareInt
 by_cases h1:x.1 < y.1
 · simp[h1]
 · by_cases h2:y.1 < x.1<;>simp[h1,h2]
theorem Rm:SWO (ltOf MO) where
 irrefl x:=by rw[ltZ];simp
 trans x y z h1 h2:=by rw[ltZ]at *;simp at *;omega
 ntrans x y z h1 h2:=by rw[ltZ]at *;simp at *;omega
theorem BL (d:Array Zn):PermIn 0 d.size d (mr d):=(pdq_sorts (ltOf MO) Rm d 0 d.size (Lib.bitLen d.size) true true (Nat.zero_le _) (Nat.le_refl _) (Or.inl rfl)).1
theorem aQ (l:List Zn):(cJ l).length=l.length:=by
 have:=(BL l.toArray).1
 simpa[cJ]using this
theorem Jq {M:Nat→Prop} (w:World) (b n:Nat) (F:Array Value) (os:Array Obj) (hM:M b) (hlt:b < w.heap.size):
 df M w (grow (putRow id (Sort.ahead w n) b 0 F) os):=by
 have hb: ∀k,k < w.heap.size→(grow (putRow id (Sort.ahead w n) b 0 F) os).heap[k]? =if b=k then(w.heap[k]?).map (onCells (putCells id 0 F))else w.heap[k]? :=by
  intro k hk
  rw[heap_grow_old _ _ (by simpa[putRow,mapBlock,Sort.ahead]using hk)]
  simp only[putRow,mapBlock,Sort.ahead,Array.getElem?_modify]
 refine⟨rfl,rfl,rfl,by simp[putRow,mapBlock,Sort.ahead],fun k hk ho=>?_,fun k hk=>?_⟩
 · have hne:¬b=k:=fun e=>ho (by rw[←e];exact hM)
   rw[hb k hk,if_neg hne]
 · simp only[World.shape?,hb k hk]
   by_cases hbk:b=k
   · rw[if_pos hbk]
     cases h:w.heap[k]? with
     |none=>rfl
     |some o=>cases o<;>simp[onCells,putCells]
   · rw[if_neg hbk]
theorem II {w:World} {A:Nat→Prop} {ρ:Env} {u:W} {v:Value} {xs:Array Value} (h:tE w A ρ [u, .one (.t (.val v))] xs.toList): ∃y,RW w A ρ u y∧xs= #[y,v]:=by
 obtain⟨hl,hx⟩:=h
 have h1:xs.toList.length=2:=by rw[←hl];rfl
 match hq:xs.toList,h1 with
 | [y,z],_=>
   have hy:=hx 0 _ y rfl (by rw[hq];rfl)
   have hz:=hx 1 _ z rfl (by rw[hq];rfl)
   cases hz.1
   refine⟨y,hy,?_⟩
   rw[←Array.toArray_toList (xs:=xs),hq]
def fO (P:Program) (f g:Nat):Prop:=
 (∀ (blk cap:Nat) (d:Array Zn) (w:World),HoldsK q8 2 w blk 0 d→blk < w.heap.size→d.size < 4611686018427387904→
   Calls P f #[.slice (some ⟨blk,0,none⟩) d.size cap, .func (.func g) #[] #[]] w fun e w'=>e= .returned (.tuple #[])∧ ∃n os,w'=sortWorldK q8 2 w blk 0 n (mr d) os)∧
 (∀ (p:Option Addr) (cap:Nat) (w:World),Calls P f #[.slice p 0 cap, .func (.func g) #[] #[]] w fun e w'=>e= .returned (.tuple #[])∧w'=w)
set_option maxHeartbeats 1000000 in
theorem Hq (x y:Zn) (W:World):Calls Tryz.prog 64 #[.agg #[.int .i64 x.1, .int .i64 x.2], .agg #[.int .i64 y.1, .int .i64 y.2]] W fun e w'=>e= .returned (.int .i64 (MO x y))∧ ∃q os',w'=grow (W.drewN q) os':=by
 have OA:=fun W'=>AnyG.cmp_Compare_int Tryz.O4 x.1 y.1 W'
 change ∀W',Calls Tryz.prog 65 _ _ _ at OA
 unfold MO
 generalize Lib.compareInt x.1 y.1=r at OA⊢
 go_enter Tryz.func64,Tryz.ntmps64
 go_wp2_with (go_at_call 65;refine(OA _).mono ?_;rintro e w' ⟨rfl,rfl⟩)
 go_ret
 exact⟨rfl,0,_,by rw[alloc_eq_grow,alloc_eq_grow,grow_grow];rfl⟩
theorem jr:fO Tryz.prog 63 64:=by
 refine⟨fun blk cap d w hH hb hs=>?_,fun p cap w=>?_⟩
 · have eg: ∀args w,(callFunc 64 args).run Tryz.prog w= .ok (.enter 64 args) w:=enters_of Tryz.func64 (by kernel_rfl) rfl
   exact AnyQ.slices_SortFunc_eq Tryz.FD 2 Tryz.isAgg177 Tryz.sizeOf177 q8 (fun _=>rfl) (fun x v hv=>by simp[q8]at hv;rcases hv with rfl|rfl<;>rfl) MO Rm 64 #[] blk 0 cap d w eg (fun _ _ _ _ x y=>Hq x y _) hH hb hs
 · exact AnyF.slices_SortFunc_none {Tryz.FD with} p cap _ w
theorem My (d:Array Zn) (i:Nat) (x:Zn) (h:d[i]? =some x):i * 2+1 < (flatK q8 2 d).size∧(flatK q8 2 d)[i * 2]! = .int .i64 x.1∧(flatK q8 2 d)[i * 2+1]! = .int .i64 x.2:=by
 obtain⟨hi,hx⟩:=Array.getElem?_eq_some_iff.1 h
 have e:d[i]! =x:=by rw[getElem!_pos d i hi,hx]
 refine⟨by rw[size_flatK];omega,?_,?_⟩
 · rw[get_flatK _ _ _ _ (by omega),show i * 2 / 2=i by omega,show i * 2 % 2=0 by omega,e];rfl
 · rw[get_flatK _ _ _ _ (by omega),show(i * 2+1) / 2=i by omega,show(i * 2+1) % 2=1 by omega,e];rfl
theorem IB {P:Program} {f g:Nat} (hS:fO P f g) (l:List Zn) (hl:l.length < 4611686018427387904):
 Fn P f [.one (.own 0 2 0 l.length),fV g] [(0, .row 2 (tr (rZ l)))] (aT []) [(0, .row 2 (tr (rZ (cJ l))))]:=by
 intro w A ρ xs hH hxs
 obtain⟨y,hy,rfl⟩:=II hxs
 obtain⟨h1,h2⟩:=hH.heap 0 _ rfl
 rcases hy.1 with⟨b,cap,n,e,k1,rfl,k3,k4,k5⟩|⟨k1,_,k3,rfl⟩
 · rcases h2 with⟨b',c,e',r1,r2,r3,r4,r5,r6⟩|⟨r1,_⟩
   · rw[k1]at r1
     simp only[Option.some.injEq,Loc.fN.injEq]at r1
     subst r1
     have hb:b < w.heap.size:=(Array.getElem?_eq_some_iff.1 r4).1
     have hcell: ∀ (i:Nat) (x:Zn),l[i]? =some x→c[i * 2]? =some (.int .i64 x.1)∧c[i * 2+1]? =some (.int .i64 x.2):=by
      intro i x hi
      have hrow:(tr (rZ l))[i]? =some ((eZ x).map C.t):=by simp[tr,rZ,hi]
      obtain⟨y0,g1,g2,_⟩:=r6 i _ 0 _ hrow rfl
      obtain⟨y1,g3,g4,_⟩:=r6 i _ 1 _ hrow rfl
      cases g2
      cases g4
      exact⟨g1,g3⟩
     have Tf:HoldsK q8 2 w b 0 l.toArray:=by
      intro j hj
      rw[size_flatK,List.size_toArray]at hj
      obtain⟨i,hi,fo⟩: ∃i,i < l.length∧(j=i * 2∨j=i * 2+1):=⟨j / 2,by omega,by omega⟩
      obtain⟨q1,q2⟩:=hcell i l[i] (by simp[hi])
      obtain⟨_,q3,q4⟩:=My l.toArray i l[i] (by simp[hi])
      refine⟨?_,by simp only[World.frozen?,r4];simp⟩
      simp only[World.cell?,r4,id,Nat.zero_add,Option.isSome_none,Bool.false_eq_true,if_false]
      rcases fo with rfl|rfl
      · rw[q1,q3]
      · rw[q2,q4]
     have hc:=hS.1 b cap l.toArray w Tf hb (by simpa using hl)
     rw[List.size_toArray]at hc
     have hz:(0 * 2:Nat)=0:=rfl
     rw[hz]
     refine hc.mono ?_
     rintro ex w' ⟨rfl,n',os,rfl⟩
     have dJ:=Jq (M:=fun k=>o3 ρ [(0,bD.row 2 (tr (rZ l)))] k∨w.heap.size≤k) w b n' (flatK q8 2 (mr l.toArray)) os (.inl ⟨0,_,rfl,k1⟩) hb
     have hsz:(mr l.toArray).size=l.length:=by have:=aQ l;simpa[cJ]using this
     refine⟨.tuple #[],A,ρ,bC 4,rfl,⟨#[],rfl,rfl,fun k u x hu=>by simp at hu⟩,⟨rfl,rfl,fun t v hv=>by simp[find]at hv,fun id blk hb'=>?_,fun id id' blk fz b' q1 q2 q3 q4=>?_,hH.fresh,fun k hk=>Nat.lt_of_lt_of_le (hH.bound k hk) dJ.size,fun k hk=> .inr (Nat.le_trans dJ.size hk),hH.dW.ET dJ (fun _ _ h=>h)⟩,dJ,iO.refl _,bJ.refl _ _⟩
     · simp only[av]at hb'
       split at hb'
       · rename_i e0
         subst e0
         simp only[Option.some.injEq]at hb'
         subst hb'
         refine⟨fun el hel=>?_, .inl ⟨b,putCells id 0 (flatK q8 2 (mr l.toArray)) c,e',k1, .inl ⟨0,_,rfl,k1⟩,r3,?_,?_,fun i el j q hi hj=>?_⟩⟩
         · simp only[tr,rZ,List.mem_map]at hel
           obtain⟨_,⟨x,_,rfl⟩,rfl⟩:=hel
           rfl
         · unfold sortWorldK putRowK
           rw[heap_grow_old _ _ (by simpa[putRow,mapBlock,Sort.ahead]using hb)]
           simp[putRow,mapBlock,Sort.ahead,Array.getElem?_modify,r4,onCells]
         · have:(tr (rZ l)).length=l.length:=by simp[tr,rZ]
           rw[this]at r5
           simp[tr,rZ,aQ,putCells]
           exact r5
         · simp only[tr,rZ,List.getElem?_map,Option.map_eq_some_iff]at hi
           obtain⟨_,⟨x,hx,rfl⟩,rfl⟩:=hi
           have hx':(mr l.toArray)[i]? =some x:=by simpa[cJ]using hx
           obtain⟨g1,g2,g3⟩:=My _ i x hx'
           have hcs: ∀k,k < (flatK q8 2 (mr l.toArray)).size→(putCells id 0 (flatK q8 2 (mr l.toArray)) c)[k]? =some (flatK q8 2 (mr l.toArray))[k]! :=by
            intro k hk
            have hkc:k < c.size:=by
             have:(tr (rZ l)).length=l.length:=by simp[tr,rZ]
             rw[this]at r5
             rw[size_flatK,hsz]at hk
             omega
            simp only[putCells,Array.getElem?_mapIdx,Nat.zero_le,Nat.zero_add,true_and,Nat.sub_zero,hk,if_true,id]
            rw[Array.getElem?_eq_getElem hkc]
            rfl
           match j,hj with
           |0,hj=>
            simp only[List.map_cons,List.getElem?_cons_zero,Option.some.injEq]at hj
            subst hj
            exact⟨_,by rw[Nat.add_zero];exact hcs _ (by omega),by rw[g2];exact .val rfl,by rw[g2];rfl⟩
           |1,hj=>
            simp only[List.map_cons,List.getElem?_cons_succ,List.getElem?_cons_zero,Option.some.injEq]at hj
            subst hj
            exact⟨_,hcs _ g1,by rw[g3];exact .val rfl,by rw[g3];rfl⟩
           |j+2,hj=>simp at hj
       · simp[find]at hb'
     · simp only[av]at q1 q2
       split at q1
       · split at q2
         · omega
         · simp[find]at q2
       · simp[find]at q1
   · rw[k1]at r1
     simp at r1
 · have Ja:l=[]:=List.length_eq_zero_iff.1 k3
   subst Ja
   refine(hS.2 none 0 w).mono ?_
   rintro ex w' ⟨rfl,rfl⟩
   exact⟨.tuple #[],A,ρ,bC 4,rfl,⟨#[],rfl,rfl,fun k u x hu=>by simp at hu⟩,by simpa[cJ,show mr #[]= #[]from by have:=aQ [];simpa[cJ]using this]using hH,df.refl _ _,iO.refl _,bJ.refl _ _⟩
end Go.aU.Cd
end
section
namespace Go.aU
open Go
open Go.ChangeMaps (setBlock)
variable {P:Program} {M A:Nat→Prop} {ρ:Env} {F:Nat→Prop} {st:St} {a:Act} {w:World}
def isKey (k:Int) (p:Value×C×Nat):Bool:=match p.1 with
 | .int .i64 m=>m==k
 |_=>false
def er (k:Int) (es:eU):eU:=es.filter fun p=> !isKey k p
def NK (es:eU):Prop:=(es.map (·.1)).Nodup
theorem Er {k:Int} {p:Value×C×Nat}:isKey k p=true↔p.1= .int .i64 k:=by
 unfold isKey
 split
 · rename_i m h
   rw[h]
   simp
 · rename_i h
   simp only[Bool.false_eq_true,false_iff]
   exact fun e=>h k e
theorem vv {k:Int} {es:eU} {p:Value×C×Nat} (h:p∈er k es):p∈es∧p.1≠ .int .i64 k:=by
 simp only[er,List.mem_filter,Bool.not_eq_true']at h
 refine⟨h.1,fun e=>?_⟩
 rw[Er.2 e]at h
 simp at h
theorem NK.er {es:eU} (h:NK es) (k:Int):NK (er k es):=List.Nodup.sublist (List.filter_sublist.map _) h
theorem NK.nil:NK []:=by simp[NK]
theorem NK.put {es es':eU} {clock clock':Nat} {kv:Value} {c:C} (h:NK es) (hp:Bp es clock kv c es' clock'):NK es':=by
 rcases hp with⟨i,p,hi,rfl,rfl,_⟩|⟨hne,rfl,_⟩
 · unfold NK
   have:(es.set i (p.1,c,p.2.2)).map (·.1)=es.map (·.1):=by
    apply List.ext_getElem?
    intro j
    simp only[List.getElem?_map,List.getElem?_set]
    by_cases hij:i=j
    · subst hij
      have hlt:i < es.length:=(List.getElem?_eq_some_iff.1 hi).1
      simp[hlt,hi]
      have:=(List.getElem?_eq_some_iff.1 hi)
      obtain⟨_,h2⟩:=this
      rw[h2]
    · simp[hij]
   rw[this]
   exact h
 · unfold NK
   rw[List.map_append,List.nodup_append]
   refine⟨h,by simp,?_⟩
   intro x hx y hy
   simp only[List.mem_map]at hx
   obtain⟨p,hp,rfl⟩:=hx
   simp only[List.map_cons,List.map_nil,List.mem_singleton]at hy
   subst hy
   exact hne p hp
def agJ (M:Nat→Prop) (r:Nat):Nat→Prop:=fun b=>M b∧b≠r
end Go.aU
end
section
namespace Go.aU
open Go
open Go.ChangeMaps (setBlock)
variable {P:Program} {M A:Nat→Prop} {ρ:Env} {F:Nat→Prop} {st:St} {a:Act} {w:World}
end Go.aU
end
section
namespace Go.aU
open Go
open Go.ChangeMaps (setBlock)
variable {P:Program} {M A:Nat→Prop} {ρ:Env} {F:Nat→Prop} {st:St} {a:Act} {w:World}
def erB (k:Int):bD→bD
 | .mp e c=> .mp (er k e) c
 |b=>b
def hE (S:Nat→Bool) (k:Int) (hp:HS):HS:=hp.map fun q=>(q.1,if S q.1 then erB k q.2 else q.2)
structure ayA (es:eU) (ck o:Nat) (hp:HS):Prop where
 out:find hp o=some (.mp es ck)
 inn: ∀p,p∈es→agK p.1∧p.2.2 < ck∧ ∃id ei ci,p.2.1= .map id∧id≠o∧find hp id=some (.mp ei ci)∧NK ei∧ ∀x,x∈ei→agK x.1
 born:(es.map (·.2.2)).Nodup
 OZ: ∀ (p q:Value×C×Nat) (id:Nat),p∈es→q∈es→p.2.1= .map id→q.2.1= .map id→p.2.2=q.2.2
end Go.aU
end
section
namespace Go.aU
open Go
open Go.ChangeMaps (setBlock)
variable {P:Program} {M A:Nat→Prop} {ρ:Env} {F:Nat→Prop} {st:St} {a:Act} {w:World}
theorem HB.more {id:Nat} {blk:bD} {r:Nat} (h:HB w (agJ M r) A ρ id blk):HB w M A ρ id blk:=by
 cases blk with
 |row sz xs=>
  obtain⟨h1,h2⟩:=h
  refine⟨h1,?_⟩
  rcases h2 with⟨b,c,e,k1,k2,k3⟩|h2
  · exact .inl ⟨b,c,e,k1,k2.1,k3⟩
  · exact .inr h2
 |mp es clock=>
  obtain⟨b,en,k1,k2,k3⟩:=h
  exact⟨b,en,k1,k2.1,k3⟩
theorem Rel.more {r:Nat} (h:Rel (agJ M r) A ρ F st a w) (hA:A r):Rel M A ρ F st a w:=by
 refine⟨h.size,h.defers,h.tmps,fun id blk hf=>(h.heap id blk hf).more,h.inj,h.fresh,h.bound,fun b hb=>(h.may b hb).1,fun g vs hg=>?_⟩
 obtain⟨h1,h2,h3,h4⟩:=h.dW g vs hg
 exact⟨h1,fun hm=>h2 ⟨hm,fun e=>h3 (e▸hA)⟩,h3,h4⟩
end Go.aU
end
section
namespace Go.aU
open Go
variable {P:Program}
inductive DX (P:Program) (n:Nat) (r:Rc) (Q:Exit→TS→HS→Nat→Prop) (tm:TS) (hp:HS) (ctr:Nat):Prop
 |mk (h: ∀c,ae P c=some r→ ∃e st' c',nD n (Q e) st' c'∧Wp P c (fun e2 s k=>e2=e∧Is st' c' s k) ⟨n,tm,hp⟩ ctr)
theorem DX.get {n:Nat} {r:Rc} {Q:Exit→TS→HS→Nat→Prop} {tm:TS} {hp:HS} {ctr:Nat} (h:DX P n r Q tm hp ctr): ∀c,ae P c=some r→ ∃e st' c',nD n (Q e) st' c'∧Wp P c (fun e2 s k=>e2=e∧Is st' c' s k) ⟨n,tm,hp⟩ ctr:=by
 cases h with
 |mk h=>exact h
variable {n:Nat} {Q:Exit→TS→HS→Nat→Prop} {tm:TS} {hp:HS} {ctr:Nat}
theorem dR.forget {bh:TS} {aH:HS} {c':Nat} (hc:ctr≤c') (ht: ∀t v,find bh t=some v→find tm t=some v) (hh: ∀id b,find aH id=some b→find hp id=some b):dR tm hp ctr bh aH c':=
 fun M A ρ _ _ w hr=>⟨A,ρ,(Rel.forget (st':=⟨_,bh,aH⟩) hr rfl ht hh).sub (fun _ h=>Nat.le_trans hc h),iO.refl _,fP.refl M A w⟩
def Gc (ks:List Nat) (tm:TS):TS:=ks.filterMap fun t=>(find tm t).map fun v=>(t,v)
theorem Ci {tm:TS}: ∀ {ks:List Nat} {t:Nat} {v:V},find (Gc ks tm) t=some v→find tm t=some v:=by
 intro ks t v h
 have hm:=fc h
 simp only[Gc,List.mem_filterMap,Option.map_eq_some_iff,Prod.mk.injEq]at hm
 obtain⟨t',_,u,hu,rfl,rfl⟩:=hm
 exact hu
theorem dR.keep (ks:List Nat):dR tm hp ctr (Gc ks tm) hp ctr:=dR.forget (Nat.le_refl _) (fun _ _ h=>Ci h) (fun _ _ h=>h)
end Go.aU
end
section
namespace Go.aU
open Go
variable {P:Program}
structure Ms (n:Nat) (es:eU) (ck o:Nat) (hp:HS) (c:Nat):Prop where
 rg:ayA es ck o hp
 nk:NK es
 keys: ∀p,p∈es→ ∃j:Nat,j < n∧p.1= .int .i64 (j:Int)
 lo:o < c
 li: ∀ (p:Value×C×Nat) (id:Nat),p∈es→p.2.1= .map id→id < c
theorem Ms.new {o c n:Nat} {hp:HS} (h:find hp o=some (.mp [] 0)) (hc:o < c):Ms n [] 0 o hp c:=
 ⟨⟨h,fun p hp=>by simp at hp,by simp,fun p q id hp=>by simp at hp⟩,NK.nil,fun p hp=>by simp at hp,hc,fun p id hp=>by simp at hp⟩
theorem Ms.mono {n n':Nat} {es:eU} {ck o c c':Nat} {hp:HS} (h:Ms n es ck o hp c) (hn:n≤n') (hc:c≤c'):Ms n' es ck o hp c':=
 ⟨h.rg,h.nk,fun p hp=>by obtain⟨j,h1,h2⟩:=h.keys p hp;exact⟨j,by omega,h2⟩,Nat.lt_of_lt_of_le h.lo hc,fun p id h1 h2=>Nat.lt_of_lt_of_le (h.li p id h1 h2) hc⟩
theorem Ms.heap {n:Nat} {es:eU} {ck o c:Nat} {hp aH:HS} (h:Ms n es ck o hp c) (he: ∀q Ww c2,q < c→find hp q=some (.mp Ww c2)→find aH q=some (.mp Ww c2)):Ms n es ck o aH c:=by
 refine⟨⟨he _ _ _ h.lo h.rg.out,fun p hp=>?_,h.rg.born,h.rg.OZ⟩,h.nk,h.keys,h.lo,h.li⟩
 obtain⟨h1,h2,id,ei,ci,h3,h4,h5,h6⟩:=h.rg.inn p hp
 exact⟨h1,h2,id,ei,ci,h3,h4,he _ _ _ (h.li p id hp h3) h5,h6⟩
theorem Ms.add {i:Nat} {es:eU} {ck o c cm c':Nat} {hp hq:HS} (h:Ms i es ck o hp c) (hc:c≤cm) (B9:cm < c') (hm:find hq cm=some (.mp [] 0)) (he: ∀q,q < c→find hq q=find hp q):
 Ms (i+1) (es++[(.int .i64 (i:Int), .map cm,ck)]) (ck+1) o (jM hq o (.mp (es++[(.int .i64 (i:Int), .map cm,ck)]) (ck+1))) c':=by
 have hlo:=h.lo
 refine⟨⟨?_,fun p hp=>?_,?_,fun p q id hp hq h1 h2=>?_⟩,?_,fun p hp=>?_,by omega,fun p id hp h1=>?_⟩
 · rw[bU,if_pos rfl,he o hlo,h.rg.out]
   rfl
 · rcases List.mem_append.1 hp with hp|hp
   · obtain⟨h1,h2,id,ei,ci,h3,h4,h5,h6⟩:=h.rg.inn p hp
     exact⟨h1,by omega,id,ei,ci,h3,h4,by rw[bU,if_neg h4,he id (h.li p id hp h3)];exact h5,h6⟩
   · rw[List.mem_singleton]at hp
     subst hp
     exact⟨⟨_,rfl⟩,by simp,cm,[],0,rfl,by omega,by rw[bU,if_neg (by omega)];exact hm,NK.nil,fun x hx=>by simp at hx⟩
 · rw[List.map_append,List.nodup_append]
   refine⟨h.rg.born,by simp,?_⟩
   intro x hx y hy
   simp only[List.mem_map]at hx
   obtain⟨p,hp,rfl⟩:=hx
   simp only[List.map_cons,List.map_nil,List.mem_singleton]at hy
   subst hy
   have:=(h.rg.inn p hp).2.1
   omega
 · rcases List.mem_append.1 hp with hp|hp<;>rcases List.mem_append.1 hq with hq|hq
   · exact h.rg.OZ p q id hp hq h1 h2
   · rw[List.mem_singleton]at hq
     subst hq
     have:=h.li p id hp h1
     have e:=C.map.inj h2
     omega
   · rw[List.mem_singleton]at hp
     subst hp
     have:=h.li q id hq h2
     have e:=C.map.inj h1
     omega
   · rw[List.mem_singleton]at hp hq
     rw[hp,hq]
 · unfold NK
   rw[List.map_append,List.nodup_append]
   refine⟨h.nk,by simp,?_⟩
   intro x hx y hy
   simp only[List.mem_map]at hx
   obtain⟨p,hp,rfl⟩:=hx
   simp only[List.map_cons,List.map_nil,List.mem_singleton]at hy
   subst hy
   obtain⟨j,h1,h2⟩:=h.keys p hp
   rw[h2]
   intro e
   simp only[Value.int.injEq,true_and]at e
   omega
 · rcases List.mem_append.1 hp with hp|hp
   · obtain⟨j,h1,h2⟩:=h.keys p hp
     exact⟨j,by omega,h2⟩
   · rw[List.mem_singleton]at hp
     subst hp
     exact⟨i,by omega,rfl⟩
 · rcases List.mem_append.1 hp with hp|hp
   · have:=h.li p id hp h1
     omega
   · rw[List.mem_singleton]at hp
     subst hp
     have e:=C.map.inj h1
     omega
theorem Ms.del {n:Nat} {es:eU} {ck o c:Nat} {hp:HS} (h:Ms n es ck o hp c) (k:Int):Ms n (er k es) ck o (jM hp o (.mp (er k es) ck)) c:=by
 refine⟨⟨?_,fun p hp=>?_,List.Nodup.sublist (List.filter_sublist.map _) h.rg.born,fun p q id hp hq h1 h2=>h.rg.OZ p q id (vv hp).1 (vv hq).1 h1 h2⟩,h.nk.er k,fun p hp=>h.keys p (vv hp).1,h.lo,fun p id hp h1=>h.li p id (vv hp).1 h1⟩
 · rw[bU,if_pos rfl,h.rg.out]
   rfl
 · obtain⟨h1,h2,id,ei,ci,h3,h4,h5,h6⟩:=h.rg.inn p (vv hp).1
   exact⟨h1,h2,id,ei,ci,h3,h4,by rw[bU,if_neg h4];exact h5,h6⟩
def Ro.HV:Ro→Bool
 | .call _ _| .fg _ _| .raw _ _=>false
 |_=>true
variable {n ctr:Nat} {tm:TS} {hp:HS} {K:TS→HS→Nat→Prop}
end Go.aU
end
section
namespace Go.aU
open Go
variable {P:Program} {M A:Nat→Prop} {ρ:Env} {F:Nat→Prop} {st:St} {a:Act} {w:World}
theorem zB {f:FuncId} {us ts:List W} {hp:HS} {ctr sz:Nat} {rows:List (List C)} {v:V} (id:Nat) (hv:v.cq=true) (hT:tg ts=true) (hf:find hp id=some (.row sz rows)) (hl:bK (bM [(id,bD.row sz rows)]) us=some ts) (hfn:Fn P f ts [] v []):
 eo P f us hp ctr v (del hp id) (ctr+4):=by
 intro M A ρ a w n L xs hr hx
 have h0:=Rel.forget hr (st':=⟨n,L,[(id, .row sz rows)]⟩) rfl (fun _ _ h=>h) (fun k b hb=>by
  simp only[av]at hb
  split at hb
  · rename_i e
    subst e
    rw[←hb]
    exact hf
  · simp[find]at hb)
 let B:Nat→Prop:=fun b=>A b∧ρ id≠some (.fN b)
 have hx':tE w B ρ ts xs.toList:=⟨(gK hl).trans hx.1,fun k u x hu AD=>by
  obtain⟨c,hc,hlc⟩:=ew hl k u hu
  exact iy h0 (B:=B) (fun b hb=>hb.1) (fun k blk b hk hρ hB=>by
   simp only[av]at hk
   split at hk
   · rename_i e
     subst e
     exact hB.2 hρ
   · simp[find]at hk) hlc (hx.2 k c x hc AD) ρ⟩
 have hs:Rel M B ρ (bC ctr) ⟨n,L,del hp id⟩ a w:=Rel.shrink (hp:=del hp id) hr (fun b hb=>hb.1) (fun k b hk=>by
  rw[ey]at hk
  split at hk
  · simp at hk
  · exact hk) (fun k blk b hk hρ=>by
  rw[ey]at hk
  split at hk
  · simp at hk
  · rename_i hne
    refine⟨(Cb (hr.heap k blk hk) hρ).1,fun h2=>?_⟩
    exact hne (hr.inj k id blk _ b hk hf hρ h2))
 refine(lJ (fh (hp:=del hp id) (ctr:=ctr) hv hT hfn) M B ρ a w n L xs hs hx').mono ?_
 rintro e w' ⟨x,A',ρ',h1,r1,r2,r3,r4,r5⟩
 refine⟨x,A',ρ',h1,r1,r2,r3,r4,fun b hA hM=>r5.1 b ⟨hA,fun h2=>hM ((hr.heap id _ hf).lt h2).2.1⟩ hM,fun b hb h2=>(r5.2 b hb h2).1⟩
theorem xX {f:FuncId} {us ts:List W} {hp:HS} {ctr sz:Nat} {rows:List (List C)} {K:V→HS→Nat→Prop} {Good:List W→Prop} (id:Nat) (hT:tg ts=true) (hf:find hp id=some (.row sz rows)) (hl:bK (bM [(id,bD.row sz rows)]) us=some ts)
 (h: ∃rs,Fn P f ts [] (aT rs) []∧(aT rs).cq=true∧Good rs) (hk: ∀rs,Good rs→K (aT rs) (del hp id) (ctr+4)): ∃v aH c',eo P f us hp ctr v aH c'∧K v aH c':=by
 obtain⟨rs,h1,h2,h3⟩:=h
 exact⟨_,_,_,zB id h2 hT hf hl h1,hk rs h3⟩
end Go.aU
end
section
namespace Go.aU
open Go
variable {P:Program} {M A:Nat→Prop} {ρ:Env} {F:Nat→Prop} {st:St} {a:Act} {w:World}
theorem dR.fF {tm:TS} {hp:HS} {ctr szr:Nat} {xs:List (List C)} {e:List C} (rid i0 j sz:Nat) (hf:find hp rid=some (.row szr xs)) (EB:xs[i0]? =some e) (hj:e[j]? =some (.t iu)):
 dR tm hp ctr tm ((ctr, .row sz [])::jM hp rid (.row szr (xs.set i0 (e.set j (.own ctr sz 0 0))))) (ctr+4):=by
 intro M A ρ n a w hr
 have hfr:ρ ctr=none:=hr.fresh ctr (Nat.le_refl _)
 have cI:cW ρ (dg ρ ctr .jn):=cW.jM hfr
 have hne: ∀ {id:Nat},id≠ctr→dg ρ ctr .jn id=ρ id:=fun bN=>by simp[dg,bN]
 refine⟨A,dg ρ ctr .jn,⟨hr.size,hr.defers,fun u v hv=>(hr.tmps u v hv).keeps (dY.refl _ _) (fun _ _=>rfl) cI,fun id blk hb=>?_,fun id id' blk fz b h1 h2 r1 r2=>?_,fun id bN=>?_,hr.bound,hr.may,hr.dW⟩,cI.Kf,fP.refl M A w⟩
 · simp only[av]at hb
   split at hb
   · rename_i e'
     subst e'
     simp only[Option.some.injEq]at hb
     subst hb
     exact⟨by simp, .inr ⟨by simp[dg],rfl⟩⟩
   · simp only[bU]at hb
     split at hb
     · rename_i e'
       subst e'
       rw[hf]at hb
       simp only[Option.map_some,Option.some.injEq]at hb
       subst hb
       have h0:=(hr.heap _ _ hf).keeps (dY.refl _ _) (fun _ _=>rfl) cI (fun _ h=>h) (fun _ _=>rfl)
       obtain⟨h1,h2⟩:=h0
       refine⟨fun el hel=>?_,?_⟩
       · rcases List.mem_or_eq_of_mem_set hel with hel|rfl
         · exact h1 el hel
         · rw[List.length_set]
           exact h1 e (List.mem_of_getElem? EB)
       · rcases h2 with⟨b,c,t,k1,k2,k3,k4,k5,k6⟩|⟨_,h3⟩
         · refine .inl ⟨b,c,t,k1,k2,k3,k4,by simpa using k5,fun i el jj q hi hq=>?_⟩
           by_cases H8:i0=i
           · subst H8
             rw[List.getElem?_set_self (List.getElem?_eq_some_iff.1 EB).1,Option.some.injEq]at hi
             subst hi
             by_cases hjj:j=jj
             · subst hjj
               have hlt:=(List.getElem?_eq_some_iff.1 hj).1
               rw[List.getElem?_set_self hlt,Option.some.injEq]at hq
               subst hq
               obtain⟨x,hx,hrc,hcell⟩:=k6 i0 e j _ EB hj
               refine⟨x,hx,?_,hcell⟩
               have hrt:RT w A iu x:=hrc
               cases hrt
               exact .inr ⟨by simp[dg],rfl,rfl,rfl⟩
             · rw[List.getElem?_set_ne hjj]at hq
               exact k6 i0 e jj q EB hq
           · rw[List.getElem?_set_ne H8]at hi
             exact k6 i el jj q hi hq
         · rw[h3]at EB
           simp at EB
     · exact(hr.heap id blk hb).keeps (dY.refl _ _) (fun _ _=>rfl) cI (fun _ h=>h) (fun _ _=>rfl)
 · have old: ∀ {q:Nat} {bl:bD},find ((ctr,bD.row sz [])::jM hp rid (.row szr (xs.set i0 (e.set j (.own ctr sz 0 0))))) q=some bl→q≠ctr→ ∃zO,find hp q=some zO:=by
    intro q bl hq hqc
    simp only[av]at hq
    rw[if_neg (fun e=>hqc e.symm)]at hq
    simp only[bU]at hq
    split at hq
    · rename_i e'
      subst e'
      exact⟨_,hf⟩
    · exact⟨_,hq⟩
   have n1:id≠ctr:=by intro e;subst e;simp[dg]at r1
   have n2:id'≠ctr:=by intro e;subst e;simp[dg]at r2
   obtain⟨c1,g1⟩:=old h1 n1
   obtain⟨c2,g2⟩:=old h2 n2
   rw[hne n1]at r1
   rw[hne n2]at r2
   exact hr.inj id id' c1 c2 b g1 g2 r1 r2
 · simp only[bC]at bN
   rw[hne (by omega)]
   exact hr.fresh id (by simp only[bC];omega)
end Go.aU
end
section
namespace Go.aU.Cd
open Go Go.Proofs
set_option maxRecDepth 100000
set_option maxHeartbeats 2000000
def c34:Rc:=Sq (Rg [Bx 2 0,Mn 4,Mb 5 false]) (Sq (Rg [Mv 14 1,Le 15 14,p 16 (.make [zn] 24 (t 15) (t 15)),Mv 6 16]) (Sq (Sq (Rg [Fa 17 6 2,Ld 18 17,Le 19 18,Mk 20 0]) (Bk 0 (Lp (Sq (Rg [Bt 21 .lss 20 19]) (Sq (Cn 21 Sk (Ex 0)) (Sq (Bk 1 (Sq (Rg [Ia 22 2 18 20,Lo 2 23 22,p 8 (.alloc [zi,zn]),So 2 8 23]) (Sq (Rg [Fa 24 1 8,Ld 25 24,Le 26 25,Mk 27 0]) (Bk 2 (Lp (Sq (Rg [Bt 28 .lss 27 26]) (Sq (Cn 28 Sk (Ex 2)) (Sq (Bk 3 (Sq (Rg [Ia 29 4 25 27,Lo 4 30 29,p 10 (.alloc [zi,zi,zi,zi]),So 4 10 30]) (Dr [Mv 31 6,Fa 32 0 10,Ld 33 32,Mv 34 6,Fa 35 0 10,Ld 36 35,Ia 37 1 34 36,Ld 38 37,Fa 39 1 10,Ld 40 39,Fa 41 2 10,Ld 42 41,p 43 (.build [zi,zi] [(0,1,t 40),(1,1,t 42)]),p 44 (.bc [zi,zi] 1 [(0,t 43)]),p 45 (.append 2 16 (t 38) (t 44)),Ia 46 1 31 33,So 1 46 45] [[],[],[1],[],[],[4],[3,5],[6],[],[8],[],[10],[9,11],[12],[7,13],[0,2,0,1,2,3,4,5,6,7,8,9,10,11,12,13,14],[15,14,14,0,1,2,3,4,5,6,7,8,9,10,11,12,13,14]]))) (Rg [Bi 47 .add 27 1,Mv 27 47]))))))))) (Rg [Bi 48 .add 20 1,Mv 20 48]))))))) (Sq (Sq (Rg [Mv 49 6,Le 50 49,Mk 51 0]) (Bk 4 (Lp (Sq (Rg [Bt 52 .lss 51 50]) (Sq (Cn 52 Sk (Ex 4)) (Sq (Bk 5 (Sq (Rg [Ia 53 1 49 51,Ld 54 53,Mv 12 54]) (Sq (Rg [Mv 55 12,p 56 (.call 63 [t 55,(.c (.w (.one (.t (.val (.func (.func 64) #[] #[]))))))])]) (Sq (Rg [Mk 13 1]) (Bk 6 (Lp (Sq (Sq (Rg [Mv 57 13,Mv 58 12,Le 59 58,Bt 60 .lss 57 59]) (Cn 60 Sk (Ex 6))) (Sq (Bk 7 (Sq (Dr [Mv 63 12,Mv 64 13,Ia 65 2 63 64,Fa 66 0 65,Ld 67 66,Mv 68 12,Mv 69 13,Bi 70 .sub 69 1,Ia 71 2 68 70,Fa 72 1 71,Ld 73 72,Bt 74 .lss 67 73] [[],[],[0,1],[2],[3],[],[],[6],[5,7],[8],[9],[4,10]]) (Cn 74 (Sq (Rg [Mn 4,Mb 5 false]) Rt) Sk))) (Rg [Mv 61 13,Bi 62 .add 61 1,Mv 13 62]))))))))) (Rg [Bi 75 .add 51 1,Mv 51 75]))))))) (Sq (Rg [Mv 76 6,Mv 4 76,Mb 5 true]) Rt))))
theorem Ct:ae Tryz.prog (Tryz.f34.body.getD .skip)=some c34:=by kernel_rfl
theorem Cy:Tryz.f34.body=some (Tryz.f34.body.getD .skip):=rfl
def bL (r:Int) (qs:Lz):List Zn:=qs.filterMap fun e=>if nI 0 e=r then some (nI 1 e,nI 2 e)else none
theorem Ii {r f t a:Int} (qs:Lz):bL r (qs++[[tI r,tI f,tI t,tI a]])=bL r qs++[(f,t)]:=by
 simp[bL,nI]
theorem Ih {r c f t a:Int} (qs:Lz) (h:r≠c):bL c (qs++[[tI r,tI f,tI t,tI a]])=bL c qs:=by
 simp[bL,nI,h]
theorem jL (r:Int) (qs:Lz):(bL r qs).length≤qs.length:=List.length_filterMap_le _ _
def oH:List Zn→Bool
 |a::b::r=>decide (a.2≤b.1)&&oH (b::r)
 |_=>true
theorem Al (l:List Zn):oH l=true↔ ∀i a b,l[i]? =some a→l[i+1]? =some b→a.2≤b.1:=by
 induction l with
 |nil=>simp[oH]
 |cons x l ih=>
  cases l with
  |nil=>simp[oH]
  |cons y l=>
   simp only[oH,Bool.and_eq_true,decide_eq_true_eq,ih]
   constructor
   · rintro⟨h1,h2⟩ i a b ha hb
     cases i with
     |zero=>simp at ha hb;subst ha hb;exact h1
     |succ i=>exact h2 i a b (by simpa using ha) (by simpa using hb)
   · intro h
     exact⟨h 0 x y rfl rfl,fun i a b ha hb=>h (i+1) a b (by simpa using ha) (by simpa using hb)⟩
def wU (n:Nat) (qs:Lz):Bool:=(List.range n).all fun r=>oH (cJ (bL (r:Int) qs))
abbrev partsOf (plies:Lz):Lz:=plies.flatMap (nL 1)
def fD (k:Nat) (r:List (List C)) (z:List Zn):Prop:=k=z.length∧aF r (rZ z)
theorem fD.az {k:Nat} {r:List (List C)} {z:List Zn} (h:fD k r z) (g:Nat→Option Nat):fD k (r.map fun e=>e.map (C.az g)) z:=⟨h.1,h.2.az g⟩
theorem fD.If {k k':Nat} {r:List (List C)} {z:List Zn} (h:fD k r z) (f t:Int) (hk:k'=r.length+1) (g:Nat→Option Nat):fD k' (((r++[[C.t (tI f),C.t (tI t)]]:List (List C))).map fun e=>e.map (C.az g)) (z++[(f,t)]):=by
 refine⟨?_,?_⟩
 · rw[hk,h.2.len];simp
 · have:=(aF.snoc h.2 [tI f,tI t]).az g
   simpa[rZ]using this
def M8 (n:Nat) (qs:Lz) (ts:List W):Prop:= ∃z,ts=[oL 1 z,oB (wU n qs)]
def PP (HQ:(Nat→List Zn)→HS→Prop) (plies:Lz) (m:Nat) (vs:List V) (hq:HS):Prop:= ∃i:Nat,i≤plies.length∧m=plies.length - i∧vs=[iV .i64 (i:Int)]∧HQ (fun r=>bL r (partsOf (plies.take i))) hq
def PO (HQ:(Nat→List Zn)→HS→Prop) (pre ps:Lz) (m:Nat) (vs:List V) (hq:HS):Prop:= ∃j:Nat,j≤ps.length∧m=ps.length - j∧vs=[iV .i64 (j:Int)]∧HQ (fun r=>bL r (pre++ps.take j)) hq
def PN (HQ:(Nat→List Zn)→HS→Prop) (n:Nat) (F:Nat→List Zn) (m:Nat) (vs:List V) (hq:HS):Prop:= ∃k:Int,0≤k∧k≤(n:Int)∧m=((n:Int) - k).toNat∧vs=[iV .i64 k]∧HQ (fun r=>if(r:Int) < k then cJ (F r)else F r) hq∧ ∀r:Nat,(r:Int) < k→oH (cJ (F r))=true
def qf (l:List Zn) (i:Int):Prop:= ∀ (j:Nat) (a b:Zn),(j:Int)+1 < i→l[j]? =some a→l[j+1]? =some b→a.2≤b.1
def QN (l:List Zn) (m:Nat) (vs:List V):Prop:= ∃i:Int,1≤i∧i≤1000000∧m=((l.length:Int)+1 - i).toNat∧vs=[iV .i64 i]∧qf l i
theorem fD.qh {c:Int} {k i j:Nat} {l:Int} {r:List (List C)} {plies ps:Lz} (h:fD k r (bL c (partsOf (plies.take i)++ps.take j))) (hs:plies[((i:Int)).toNat]? =some [tI l, .aA 4 ps]) (hj:ps.length≤j) (g:Nat→Option Nat):fD k (r.map fun e=>e.map (C.az g)) (bL c (partsOf (plies.take (i+1)))):=by
 have hs':plies[i]? =some [tI l, .aA 4 ps]:=by simpa using hs
 have e:partsOf (plies.take (i+1))=partsOf (plies.take i)++ps.take j:=by
  rw[List.take_add_one,hs',List.take_of_length_le hj]
  simp[partsOf,nL]
 rw[e]
 exact h.az g
theorem fD.nil {c:Int} {k:Nat} {r:List (List C)} {pre ps:Lz} (h:fD k r (bL c pre)) (g:Nat→Option Nat):fD k (r.map fun e=>e.map (C.az g)) (bL c (pre++ps.take 0)):=by
 simpa using h.az g
theorem fD.all {c:Int} {k i:Nat} {r:List (List C)} {plies:Lz} (h:fD k r (bL c (partsOf (plies.take i)))) (hi:plies.length≤i) (g:Nat→Option Nat):fD k (r.map fun e=>e.map (C.az g)) (bL c (partsOf plies)):=by
 rw[List.take_of_length_le hi]at h
 exact h.az g
theorem Kg {ps:Lz} {j:Nat} {e:List T} (hs:ps[((j:Int)).toNat]? =some e):ps.take (j+1)=ps.take j++[e]:=by
 have hs':ps[j]? =some e:=by simpa using hs
 rw[List.take_add_one,hs']
 rfl
theorem fD.eS {c r0 f t a:Int} {k j:Nat} {r:List (List C)} {pre ps:Lz} (h:fD k r (bL c (pre++ps.take j))) (hs:ps[((j:Int)).toNat]? =some [tI r0,tI f,tI t,tI a]) (hne:r0≠c) (g:Nat→Option Nat):fD k (r.map fun e=>e.map (C.az g)) (bL c (pre++ps.take (j+1))):=by
 rw[Kg hs, ←List.append_assoc,Ih _ hne]
 exact h.az g
theorem fD.hit {c f t a:Int} {k k' j:Nat} {r:List (List C)} {pre ps:Lz} (h:fD k r (bL c (pre++ps.take j))) (hs:ps[((j:Int)).toNat]? =some [tI c,tI f,tI t,tI a]) (hk:k'=r.length+1) (g:Nat→Option Nat):fD k' (((r++[[C.t (tI f),C.t (tI t)]]:List (List C))).map fun e=>e.map (C.az g)) (bL c (pre++ps.take (j+1))):=by
 rw[Kg hs, ←List.append_assoc,Ii]
 exact h.If f t hk g
theorem fD.sort {z zl:List Zn} {k:Nat} {r:List (List C)} (hz:zl=cJ z) (hk:k=z.length) (hR:aF r (rZ zl)):fD k r (cJ z):=⟨by rw[hk,aQ],hz▸hR⟩
theorem fD.kR {c:Int} {k j:Nat} {r:List (List C)} {pre ps:Lz} {B:Nat} (h:fD k r (bL c (pre++ps.take j))) (hB:pre.length+ps.length≤B):r.length=k∧k≤B:=by
 have h1:=jL c (pre++ps.take j)
 have h2:=h.2.len
 have h3:=h.1
 simp[rZ]at h1 h2
 omega
theorem yz {l:List Zn} {i:Nat} {a b:Int} (h:(rZ l)[i]? =some [tI a,tI b]):l[i]? =some (a,b):=by
 simp only[rZ,List.getElem?_map,Option.map_eq_some_iff]at h
 obtain⟨⟨x,y⟩,h1,h2⟩:=h
 simp only[eZ,List.cons.injEq,T.val.injEq,Value.int.injEq,true_and,and_true]at h2
 obtain⟨rfl,rfl⟩:=h2
 exact h1
theorem cQ (l:List Zn):(rZ l).length=l.length:=by simp[rZ]
theorem xd (l:List Zn):cc (rZ l):=fun e he=>by
 simp only[rZ,List.mem_map]at he
 obtain⟨x,_,rfl⟩:=he
 exact⟨_,_,rfl⟩
theorem qf.one (l:List Zn):qf l 1:=fun j a b hj=>by omega
theorem qf.next {l:List Zn} {i a b c d:Int} {i1:Int} (h:qf l i) (h1:1≤i) (H9:i1=i - 1) (ha:(rZ l)[0+i1.toNat]? =some [tI c,tI a]) (hb:(rZ l)[0+i.toNat]? =some [tI b,tI d]) (hab:a≤b):qf l (i+1):=by
 rw[Nat.zero_add]at ha hb
 intro j x y hj hx hy
 by_cases fo:(j:Int)+1=i
 · have e1:i1.toNat=j:=by omega
   have e2:i.toNat=j+1:=by omega
   rw[e1]at ha
   rw[e2]at hb
   rw[yz ha]at hx
   rw[yz hb]at hy
   cases hx
   cases hy
   exact hab
 · exact h j x y (by omega) hx hy
theorem qf.all {l:List Zn} {i:Int} (h:qf l i) (hi:(l.length:Int)≤i):oH l=true:=(Al l).2 fun j a b ha hb=>h j a b (by have:=(List.getElem?_eq_some_iff.1 hb).1;omega) ha hb
theorem cz {l:List Zn} {i i1 a b c d:Int} (h1:1≤i) (H9:i1=i - 1) (ha:(rZ l)[0+i1.toNat]? =some [tI c,tI a]) (hb:(rZ l)[0+i.toNat]? =some [tI b,tI d]) (hab:b < a):oH l=false:=by
 cases h:oH l with
 |false=>rfl
 |true=>
  have e2:i.toNat=i1.toNat+1:=by omega
  rw[Nat.zero_add]at ha hb
  rw[e2]at hb
  have:=(Al l).1 h _ _ _ (yz ha) (yz hb)
  simp only at this
  omega
theorem cS {n r:Nat} {qs:Lz} {zl:List Zn} (hr:r < n) (hz:zl=cJ (bL (r:Int) qs)) (h:oH zl=false):wU n qs=false:=by
 unfold wU
 rw[List.all_eq_false]
 exact⟨r,by simpa using hr,by rw[←hz,h];simp⟩
theorem jo {n:Nat} {k:Int} {qs:Lz} (hk:(n:Int)≤k) (h: ∀r:Nat,(r:Int) < k→oH (cJ (bL (r:Int) qs))=true):wU n qs=true:=by
 unfold wU
 rw[List.all_eq_true]
 intro r hr
 exact h r (by have:=List.mem_range.1 hr;omega)
theorem cC {c:Nat} {F:Nat→List Zn} {zl:List Zn} (h: ∀r:Nat,(r:Int) < (c:Int)→oH (cJ (F r))=true) (hz:zl=cJ (F c)) (h1:oH zl=true): ∀r:Nat,(r:Int) < ((c+1:Nat):Int)→oH (cJ (F r))=true:=by
 intro r hr
 by_cases e:r=c
 · subst e
   rw[←hz]
   exact h1
 · exact h r (by omega)
def GSo (l:List Zn) (ts:List W) (hout:HS):Prop:=ts=[]∧hout=[(0, .row 2 (tr (rZ (cJ l))))]
theorem cT {f g:Nat} (hS:fO Tryz.prog f g) (l:List Zn) (hl:l.length≤100000): ∃ts hout,Fn Tryz.prog f [.one (.own 0 2 0 l.length),fV g] [(0, .row 2 (tr (rZ l)))] (aT ts) hout∧GSo l ts hout:=
 ⟨[],_,IB hS l (by omega),rfl,rfl⟩
theorem fH {z zl:List Zn} {i:Int} (h:i < (z.length:Int)) (hz:zl.length=z.length):i < (zl.length:Int):=by omega
theorem fI {z zl:List Zn} {i:Int} (h:¬i < (z.length:Int)) (hz:zl.length=z.length):(zl.length:Int)≤i:=by omega
def CF (hp:HS):List (Nat×Nat×Lz)→Prop
 | []=>True
 |p::r=>(∃rr,find hp p.1=some (.row 2 rr)∧aF rr p.2.2∧p.2.1=p.2.2.length)∧CF hp r
theorem Am {hp:HS}: ∀ {ps:List (Nat×Nat×Lz)},CF hp ps→bK (bK (cV 5 hp)) (ps.map fun p=>[.own p.1 2 0 p.2.1])=some (ps.map fun p=>[.aA 2 p.2.2])
 | [],_=>rfl
 |p::r,h=>by
  obtain⟨⟨rr,h1,h2,h3⟩,h4⟩:=h
  have hl:0+p.2.1≤rr.length:=by rw[h2.len,h3];omega
  have e:cV 5 hp (.own p.1 2 0 p.2.1)=some (.aA 2 p.2.2):=by
   simp only[cV,h1,true_and,hl,if_true]
   rw[h2,tP,qQ,h3]
   simp
  simp only[List.map_cons,bK,e,Am h4]
theorem oC {hp:HS} {tm:TS} {t id len:Nat} {rows:List (List C)} (ps:List (Nat×Nat×Lz)) (h:find tm t=some (.w (.one (.own id 1 0 len)))) (hf:find hp id=some (.row 1 rows)) (hr:rows=ps.map fun p=>[.own p.1 2 0 p.2.1]) (hl:len=ps.length) (hN:CF hp ps):
 Rs Tryz.prog hp tm (.tmp t) (.one (.t (.aA 1 (ps.map fun p=>[.aA 2 p.2.2])))):=by
 subst hr hl
 refine⟨_, .one (.t (.aA 1 (ps.map fun p=>[.aA 2 p.2.2]))),by simp only[cv,h];rfl,?_,zP.refl _⟩
 have hk:0+ps.length≤(ps.map fun p=>[C.own p.1 2 0 p.2.1]).length:=by simp
 have:cV 6 hp (.own id 1 0 ps.length)=some (.aA 1 (ps.map fun p=>[.aA 2 p.2.2])):=by
  simp only[cV,hf,true_and,hk,if_true]
  have e:((ps.map fun p=>[C.own p.1 2 0 p.2.1]).drop 0).take ps.length=ps.map fun p=>[C.own p.1 2 0 p.2.1]:=by rw[List.drop_zero,List.take_of_length_le (by simp)]
  rw[e,Am hN]
  rfl
 simp only[bM,this,Option.map_some]
end Go.aU.Cd
end
section
namespace Go.aU.Cd
open Go Go.Proofs
set_option maxRecDepth 100000
set_option maxHeartbeats 1000000
variable [CE]
def c15:Rc:=Sq (Rg [Bx 2 0,Bx 3 1,Mn 4,Mk 5 0]) (Sq (Rg [Lo 7 15 2,Lo 6 16 3,p 17 (.call 30 [t 15,t 16]),Mv 14 17,Et 18 14 0,Et 19 14 1,Et 20 14 2,Mv 6 18,Mv 7 19,Mv 8 20]) (Sq (Sq (Rg [Mv 21 8,Bi 22 .neq 21 0]) (Cn 22 (Sq (Rg [Mv 23 8,Mn 4,Mv 5 23]) Rt) Sk)) (Sq (Rg [Mn 9]) (Sq (Sq (Rg [Mv 24 7,Le 25 24,Mk 26 0]) (Bk 0 (Lp (Sq (Rg [Bt 27 .lss 26 25]) (Sq (Cn 27 Sk (Ex 0)) (Sq (Bk 1 (Sq (Rg [Ia 28 5 24 26,Lo 5 29 28,p 11 (.alloc [zi,zb,zi,zi,zi]),So 5 11 29]) (Sq (Rg [Mv 31 6,Lo 5 32 11,p 33 (.call 31 [t 31,t 32]),Mv 30 33,Et 34 30 0,Et 35 30 1,Mv 12 34,Mv 13 35]) (Sq (Sq (Rg [Mv 36 13,Bi 37 .neq 36 0]) (Cn 37 (Sq (Rg [Mv 38 13,Mn 4,Mv 5 38]) Rt) Sk)) (Rg [Mv 39 9,Mv 40 12,p 41 (.bc [zn] 1 [(0,t 40)]),p 42 (.append 1 24 (t 39) (t 41)),Mv 9 42]))))) (Rg [Bi 43 .add 26 1,Mv 26 43]))))))) (Sq (Rg [Mv 44 9,Mv 4 44,Mk 5 0]) Rt)))))
theorem auT:ae Tryz.prog (Tryz.f15.body.getD .skip)=some c15:=by kernel_rfl
theorem axR:Tryz.f15.body=some (Tryz.f15.body.getD .skip):=rfl
def c42:Rc:=Sq (Rg [Bx 5 0,p 10 (.alloc [zi,zi,zi,zi,zn,zb]),Mk 11 0]) (Sq (Rg [Fa 16 6 5,Ld 17 16,Mv 18 2,Ia 19 2 17 18,Lo 2 20 19,p 12 (.alloc [zi,zn]),So 2 12 20]) (Sq (Rg [Lo 2 22 12,Mv 23 4,p 24 (.call 36 [t 22,t 23]),Mv 21 24,Et 25 21 0,Et 26 21 1,Mv 13 25,Mv 14 26]) (Sq (Sq (Rg [Mv 27 14,Bi 28 .neq 27 0]) (Cn 28 (Sq (Rg [p 29 (.build [zi,zi,zi,zi,zn,zb] []),Mv 30 14,So 6 10 29,Mv 11 30]) Rt) Sk)) (Sq (Rg [Lo 2 32 12,Mv 33 1,Mv 34 4,p 35 (.call 35 [t 32,t 33,t 34]),Mv 31 35,Et 36 31 0,Et 37 31 1,Mv 15 36,Mv 14 37]) (Sq (Sq (Rg [Mv 38 14,Bi 39 .neq 38 0]) (Cn 39 (Sq (Rg [p 40 (.build [zi,zi,zi,zi,zn,zb] []),Mv 41 14,So 6 10 40,Mv 11 41]) Rt) Sk)) (Sq (Dr [Mv 42 2,Mv 43 3,Fa 44 0 12,Ld 45 44,Fa 46 0 5,Fa 47 4 46,Ld 48 47,Fa 49 0 5,Fa 50 5 49,Ld 51 50,Mv 52 3,Ia 53 7 51 52,Fa 54 0 53,Ld 55 54,Ia 56 1 48 55,Ld 57 56,Fa 58 1 12,Ld 59 58,Mv 60 13,Ia 61 4 59 60,Fa 62 0 61,Ld 63 62,p 64 (.bc [zi] 1 [(0,t 63)]),Mv 65 15,p 66 (.build [zi,zi,zi,zi,zn,zb] [(0,1,t 42),(1,1,t 43),(2,1,t 45),(3,1,t 57),(4,1,t 64),(5,1,t 65)]),So 6 10 66,Mk 11 0] [[],[],[],[2],[],[4],[5],[],[7],[8],[],[9,10],[11],[12],[6,13],[14],[],[16],[],[17,18],[19],[20],[21],[],[0,1,3,15,22,23],[24,0,1,2,3,4,5,6,7,8,9,10,11,12,13,14,15,16,17,18,19,20,21,22,23,24],[25,0,1,2,3,4,5,6,7,8,9,10,11,12,13,14,15,16,17,18,19,20,21,22,23,24,25]]) Rt))))))
theorem auI:ae Tryz.prog (Tryz.f42.body.getD .skip)=some c42:=by kernel_rfl
theorem axG:Tryz.f42.body=some (Tryz.f42.body.getD .skip):=rfl
def BF (l:Int) (ps poly:Lz):Int×Int:=pk 36 [FY l ps,oL 2 poly] (fun p=>[oI p.1,oI p.2]) (fun p=>p.2=0→0≤p.1∧p.1 < (ps.length:Int))
theorem lX (l:Int) (ps poly:Lz) (hp:Bo ps) (ji:ps.length≤maxLen) (hx:cc poly) (hl:poly.length≤1000000): ∃ts,Fn Tryz.prog 36 [FY l ps,oL 2 poly] [] (aT ts) []∧(aT ts).cq=true∧(ts=[oI (BF l ps poly).1,oI (BF l ps poly).2]∧((BF l ps poly).2=0→0≤(BF l ps poly).1∧(BF l ps poly).1 < (ps.length:Int))):=by
 obtain⟨ts,h1,h2,n,e,rfl,h3⟩:=vC l ps poly hp ji hx hl
 exact xf (enc:=fun p:Int×Int=>[oI p.1,oI p.2]) (Q:=fun p=>p.2=0→0≤p.1∧p.1 < (ps.length:Int)) ⟨(n,e),h1,h2,h3⟩
def NY (poly:Lz) (x y w h:Int):Bool×Int:=pk 67 [oL 2 poly,Ef x y w h] (fun p=>[oB p.1,oI p.2]) (fun _=>True)
theorem ww (poly:Lz) (hx:cc poly) (hl:poly.length≤1000000) (x y w h:Int): ∃ts,Fn Tryz.prog 67 [oL 2 poly,Ef x y w h] [] (aT ts) []∧(aT ts).cq=true∧(ts=[oB (NY poly x y w h).1,oI (NY poly x y w h).2]∧True):=by
 obtain⟨ts,h1,h2,b,e,rfl⟩:=yF poly hx hl x y w h
 exact xf (enc:=fun p:Bool×Int=>[oB p.1,oI p.2]) (Q:=fun _=>True) ⟨(b,e),h1,h2,trivial⟩
def xH (oh:Int→Int→Int→Int→Bool×Int) (d:Int):Lz→Bool×Int
 | []=>(false,0)
 |f::r=>if(oh (IntKind.i64.wrap (nI 0 f+d)) (nI 1 f) (nI 2 f) (nI 3 f)).2≠0 then(false,(oh (IntKind.i64.wrap (nI 0 f+d)) (nI 1 f) (nI 2 f) (nI 3 f)).2)
  else if(oh (IntKind.i64.wrap (nI 0 f+d)) (nI 1 f) (nI 2 f) (nI 3 f)).1=true then(true,0)else xH oh d r
def ri (l:Int) (ps poly:Lz):List T:=lO ps ((BF l ps poly).1)
def Dp (l:Int) (ps ag poly:Lz):Bool×Int:=xH (NY poly) (IntKind.i64.wrap (nI 3 (ri l ps poly) - nI 1 (ri l ps poly))) (nL 6 (lO ag (nI 0 (ri l ps poly))))
structure rA (l:Int) (ps ag poly:Lz):Prop where
 car:(BF l ps poly).2=0
 Qm:0≤nI 0 (ri l ps poly)∧nI 0 (ri l ps poly) < (ag.length:Int)
 Ry:tj (lO ag (nI 0 (ri l ps poly)))
 fl:(Dp l ps ag poly).2=0
def GHt (l:Int) (ps ag poly:Lz) (ts:List W):Prop:= ∃b e,ts=[oB b,oI e]∧(e=0↔rA l ps ag poly)∧(e=0→b=(Dp l ps ag poly).1)
def RHt (oh:Int→Int→Int→Int→Bool×Int) (d:Int) (fl:Lz) (ia:List (Lz)) (m:Nat) (vs:List V) (xss:List (Lz)):Prop:= ∃i:Nat,i≤fl.length∧xH oh d fl=xH oh d (fl.drop i)∧m=fl.length - i∧vs=[iV .i64 (i:Int)]∧xss=ia
theorem zo {fl:Lz} {i:Nat} {e:List T} (hs:fl[((i:Int)).toNat]? =some e):fl.drop i=e::fl.drop (i+1):=by
 have hs':fl[i]? =some e:=by simpa using hs
 obtain⟨hi,he⟩:=List.getElem?_eq_some_iff.1 hs'
 rw[List.drop_eq_getElem_cons hi,he]
theorem ze {oh:Int→Int→Int→Int→Bool×Int} {d x y w h:Int} {r:Lz}:xH oh d ([tI x,tI y,tI w,tI h]::r)=if(oh (IntKind.i64.wrap (x+d)) y w h).2≠0 then(false,(oh (IntKind.i64.wrap (x+d)) y w h).2)else if(oh (IntKind.i64.wrap (x+d)) y w h).1=true then(true,0)else xH oh d r:=rfl
theorem RHt.next {oh:Int→Int→Int→Int→Bool×Int} {d x y w h:Int} {fl:Lz} {ia:List (Lz)} {i:Nat} (hi:(i:Int) < (fl.length:Int)) (hl:fl.length≤maxLen) (hf:xH oh d fl=xH oh d (fl.drop i)) (hs:fl[((i:Int)).toNat]? =some [tI x,tI y,tI w,tI h]) (h1:(oh (IntKind.i64.wrap (x+d)) y w h).2=0) (h2:(oh (IntKind.i64.wrap (x+d)) y w h).1=false):
 RHt oh d fl ia (fl.length - (i+1)) [iV .i64 (IntKind.i64.wrap ((i:Int)+1))] ia:=by
 refine⟨i+1,by omega,?_,rfl,by simp only[maxLen]at hl;rw[bt (by omega) (by omega)];rfl,rfl⟩
 rw[hf,zo hs,ze]
 rw[if_neg (fun hh=>hh h1),if_neg (by rw[h2];simp)]
theorem ON {oh:Int→Int→Int→Int→Bool×Int} {d x y w h:Int} {fl:Lz} {i:Nat} (hf:xH oh d fl=xH oh d (fl.drop i)) (hs:fl[((i:Int)).toNat]? =some [tI x,tI y,tI w,tI h]) (h1:¬ (oh (IntKind.i64.wrap (x+d)) y w h).2=0):¬ (xH oh d fl).2=0:=by
 rw[hf,zo hs,ze]
 rw[if_pos (show(oh (IntKind.i64.wrap (x+d)) y w h).2≠0 from h1)]
 exact h1
theorem OM {oh:Int→Int→Int→Int→Bool×Int} {d x y w h:Int} {fl:Lz} {i:Nat} (hf:xH oh d fl=xH oh d (fl.drop i)) (hs:fl[((i:Int)).toNat]? =some [tI x,tI y,tI w,tI h]) (h1:(oh (IntKind.i64.wrap (x+d)) y w h).2=0) (h2:(oh (IntKind.i64.wrap (x+d)) y w h).1=true):xH oh d fl=(true,0):=by
 rw[hf,zo hs,ze]
 rw[if_neg (fun hh=>hh h1),if_pos h2]
theorem OO {oh:Int→Int→Int→Int→Bool×Int} {d:Int} {fl:Lz} {i:Nat} (hf:xH oh d fl=xH oh d (fl.drop i)) (hi:fl.length≤i):xH oh d fl=(false,0):=by
 rw[hf,List.drop_eq_nil_of_le hi]
 rfl
section
variable {l r1 f1 t1 a1:Int} {ps ag poly fl:Lz} {id:ByteArray} {w1 l1 a2 b2 c2:Int}
theorem rh (hs:ps[((BF l ps poly).1).toNat]? =some [tI r1,tI f1,tI t1,tI a1]):ri l ps poly=[tI r1,tI f1,tI t1,tI a1]:=jC hs
theorem Ch (hs:ps[((BF l ps poly).1).toNat]? =some [tI r1,tI f1,tI t1,tI a1]) (qM:ag[r1.toNat]? =some [.val (.string id),tI w1,tI l1,tI a2,tI b2,tI c2, .aA 4 fl]):Dp l ps ag poly=xH (NY poly) (IntKind.i64.wrap (a1 - f1)) fl:=by
 unfold Dp
 rw[rh hs,show nI 0 [tI r1,tI f1,tI t1,tI a1]=r1 from rfl,jC qM]
 rfl
theorem Sw (h:¬ (BF l ps poly).2=0):(BF l ps poly).2=0↔rA l ps ag poly:=iff_of_false h fun hh=>h hh.car
theorem anJ (hs:ps[((BF l ps poly).1).toNat]? =some [tI r1,tI f1,tI t1,tI a1]) (h:r1 < 0∨r1≥ (ag.length:Int)):¬rA l ps ag poly:=fun hh=>by
 have h1:=hh.Qm
 rw[rh hs]at h1
 have h1:0≤r1∧r1 < (ag.length:Int):=h1
 omega
theorem anI (hs:ps[((BF l ps poly).1).toNat]? =some [tI r1,tI f1,tI t1,tI a1]) (qM:ag[r1.toNat]? =some [.val (.string id),tI w1,tI l1,tI a2,tI b2,tI c2, .aA 4 fl]) (h:¬HA id w1 l1 a2 b2 c2 fl):¬rA l ps ag poly:=fun hh=>by
 have h1:=hh.Ry
 rw[rh hs]at h1
 have h1:tj (lO ag r1):=h1
 rw[jC qM]at h1
 exact h (tj.of h1)
theorem anH (hs:ps[((BF l ps poly).1).toNat]? =some [tI r1,tI f1,tI t1,tI a1]) (qM:ag[r1.toNat]? =some [.val (.string id),tI w1,tI l1,tI a2,tI b2,tI c2, .aA 4 fl]) (h:¬ (xH (NY poly) (IntKind.i64.wrap (a1 - f1)) fl).2=0):¬rA l ps ag poly:=fun hh=>by
 have h1:=hh.fl
 rw[Ch hs qM]at h1
 exact h h1
theorem Ku (hc:(BF l ps poly).2=0) (hs:ps[((BF l ps poly).1).toNat]? =some [tI r1,tI f1,tI t1,tI a1]) (h0:0≤r1) (h1:r1 < (ag.length:Int)) (qM:ag[r1.toNat]? =some [.val (.string id),tI w1,tI l1,tI a2,tI b2,tI c2, .aA 4 fl]) (hr:HA id w1 l1 a2 b2 c2 fl) {b:Bool} (h:xH (NY poly) (IntKind.i64.wrap (a1 - f1)) fl=(b,0)):
 rA l ps ag poly∧b=(Dp l ps ag poly).1:=by
 refine⟨⟨hc,?_,?_,?_⟩,?_⟩
 · rw[rh hs];exact⟨h0,h1⟩
 · rw[rh hs]
   show tj (lO ag r1)
   rw[jC qM]
   exact⟨_,_,_,_,_,_,_,rfl,hr⟩
 · rw[Ch hs qM,h]
 · rw[Ch hs qM,h]
end
theorem Co (l:Int) (ps ag poly:Lz) (hp:Bo ps) (ji:ps.length≤maxLen) (hR:vZ ag) (hx:cc poly) (hl:poly.length≤1000000):Tg 35 [FY l ps,oL 7 ag,oL 2 poly] (GHt l ps ag poly):=by
 refine aL ?_
 refine ah (n:=80) (rs:=[.tmp 6, .tmp 7]) Tryz.func35 axJ auL rfl rfl (by simp) ?_
 repeat' (conv=>whnf
          first
  |(refine aD (fun h=>?_) (fun h=>?_))
  |(refine bY (fun h=>?_) (fun h=>?_))
  |(refine aI (fun h=>?_) (fun h=>?_))
  |(refine And.intro (by omega) (Exists.intro _ (And.intro qM ?_)))
  |(refine aC (xs:=ps) hp (hn (by omega)).1 (hn (by omega)).2 ?_;rintro _ ⟨r1,f1,t1,a1,rfl⟩ hs)
  |(refine aC (xs:=ag) hR (by omega) (by omega) ?_;rintro _ ⟨id,w1,l1,a2,b2,c2,fl,rfl,bN,hfl,EE⟩ qM)
  |(refine aC (xs:=fl) hfl (by omega) (by omega) ?_;rintro _ ⟨x3,y3,w3,h3,rfl⟩ hsf)
  |(refine ai rfl (lX l ps poly hp ji hx hl) ?_;rintro _ ⟨rfl,hn⟩)
  |(refine ai rfl (rG id w1 l1 a2 b2 c2 fl bN hfl EE) ?_;rintro _ ⟨e2,rfl,Df⟩)
  |(refine ai rfl (ww poly hx hl _ _ _ _) ?_;rintro _ ⟨rfl,_⟩)
  |exact dz rfl (bZ rfl) (bZ rfl) ⟨_,_,rfl,Sw (by assumption),fun h0=>absurd h0 (by assumption)⟩
  |exact dz rfl (bZ rfl) (bZ rfl) ⟨_,_,rfl,iff_of_false (by decide) (anJ hs (by omega)),fun h0=>absurd h0 (by decide)⟩
  |exact dz rfl (bZ rfl) (bZ rfl) ⟨_,_,rfl,iff_of_false (by assumption) (anI hs qM (fun hh=>absurd (Df.2 hh) (by assumption))),fun h0=>absurd h0 (by assumption)⟩
  |exact dz rfl (bZ rfl) (bZ rfl) ⟨_,_,rfl,iff_of_false (by assumption) (anH hs qM (ON hf hsf (by assumption))),fun h0=>absurd h0 (by assumption)⟩
  |(have h9:=Ku (by omega) hs (by omega) (by omega) qM (Df.1 (by omega)) (OM hf hsf (by omega) (by assumption));exact dz rfl (bZ rfl) (bZ rfl) ⟨_,_,rfl,iff_of_true rfl h9.1,fun _=>h9.2⟩)
  |(have h9:=Ku (by omega) hs (by omega) (by omega) qM (Df.1 (by omega)) (OO hf (by omega));exact dz rfl (bZ rfl) (bZ rfl) ⟨_,_,rfl,iff_of_true rfl h9.1,fun _=>h9.2⟩)
  |(apply bH [2,10,54,55,56] [] [56] [(4,4)] (RHt (NY poly) (IntKind.i64.wrap (a1 - f1)) fl [[[tI r1,tI f1,tI t1,tI a1]]]) (fl.length) [iV .i64 0];(conv=>whnf);exact⟨rfl,rfl,rfl,rfl⟩;exact rfl;exact rfl;exact .cons (aF.az (xs:=[[tI r1,tI f1,tI t1,tI a1]]) rfl _) .nil;exact⟨0,by omega,rfl,rfl,rfl,rfl⟩;rintro _ _ _ ⟨i,hi,hf,rfl,rfl,rfl⟩)
  |(refine au [2,10,54,55,56] [] ?_;(conv=>whnf);exact⟨rfl,_,[_],_, .cons (aF.az (xs:=[[tI r1,tI f1,tI t1,tI a1]]) rfl _) .nil,RHt.next (by omega) EE hf hsf (by omega) (by first|assumption|simp_all),rfl,rfl,by omega⟩))
 all_goals (conv=>whnf)
end Go.aU.Cd
end
section
namespace Go.aU.Cd
open Go Go.Proofs
set_option maxRecDepth 100000
set_option maxHeartbeats 1000000
variable [CE]
theorem aCp:iT Tryz.prog 53=some true:=by kernel_rfl
theorem zCp:cN Tryz.prog 53=some 6:=by kernel_rfl
def Bw (sizes places:Lz) (M:Nat) (ps:Lz):Prop:=vU ps∧ps.length=places.length∧CI sizes.length places∧(∀e,e∈sizes→P5 M e)∧sizes.length≤6
def JL (n:Nat) (m:Nat) (vs:List V) (xss:List (Lz)):Prop:= ∃ (i:Nat) (zs:Lz),i≤n∧m=n - i∧vs=[bP 4 1 zs.length,iV .i64 (i:Int)]∧xss=[zs]∧vU zs∧zs.length=i
theorem JL.next {n i k:Nat} {zs ps:Lz} (hi:(i:Int) < (n:Int)) (hn:n≤1000000) (hz:vU zs) (jG:zs.length=i) (hp:cc ps∧ps.length≤1000000) (hk:k=zs.length+1):JL n (n - (i+1)) [bP 4 1 k,iV .i64 (IntKind.i64.wrap ((i:Int)+1))] [zs++[[.aA 2 ps]]]:=by
 refine⟨i+1,_,by omega,rfl,by subst hk;rw[bt (by omega) (by omega)];simp,rfl,fun e he=>?_,by simp;omega⟩
 rcases List.mem_append.1 he with he|he
 · exact hz e he
 · simp only[List.mem_singleton]at he
   exact⟨ps,he,hp⟩
theorem yO (sn:ByteArray) (bz ms ps us ss os:Lz) (hS:iW sn bz ms ps us ss os) (ln wd rx ry:Int) (sizes places:Lz) (hz:Is sizes) (jG:sizes.length≤maxLen) (ji:PW places) (SI:places.length≤1000000):Tg 15 [mc sn bz ms ps us ss os,Km ln wd rx ry sizes places] (J2 1 (Bw sizes places bz.length)):=by
 refine aL ?_
 refine ah (n:=45) (rs:=[.tmp 4, .tmp 5]) Tryz.func15 axR auT rfl rfl (by simp) ?_
 repeat' (conv=>whnf
          first
  |(refine aD (fun h=>?_) (fun h=>?_))
  |(refine bY (fun h=>?_) (fun h=>?_))
  |(refine aC (xs:=fq) (hA (by omega)).2.1 (by omega) (by omega) ?_;rintro _ ⟨sh,f,q,x,y,rfl,SD,SC⟩ hs)
  |(have h8:=(hA (by omega)).2.2.1;refine And.intro ⟨by simp[tr],by simp[tr,aX];omega,by simp[tr,maxLen];omega⟩ ?_)
  |(refine ai rfl (sS sn bz ms ps us ss os hS ln wd rx ry sizes places hz jG ji SI) ?_;rintro _ ⟨eI,fq,e,rfl,hA⟩)
  |(refine ai rfl (oE eI (hA (by omega)).1 sh f q x y) ?_;rintro _ ⟨pl,e2,rfl,hP⟩)
  |exact dz rfl (bS 1 rfl) (bZ rfl) ⟨_,_,rfl,fun h0=>absurd h0 (by omega)⟩
  |exact dz rfl (fA rfl rfl (xs:=zs) rfl (by omega)) (bZ rfl) ⟨_,_,rfl,fun _=>by rw[gA rfl];have h9:=hA (by omega);exact⟨hzs,by omega,h9.2.2.2⟩⟩
  |(apply eN [6,9,24,25,26] [] [9,26] [(4,1)] (JL fq.length) (fq.length) [bP 4 1 0,iV .i64 0] (dR.jn 9 1 rfl);(conv=>whnf);exact⟨rfl,rfl,rfl,rfl⟩;exact rfl;exact rfl;exact .cons (aF.az aF.nil _) .nil;exact⟨0,[],by omega,rfl,rfl,rfl,fun e he=>by simp at he,rfl⟩;rintro _ _ _ ⟨i,zs,hi,rfl,rfl,rfl,hzs,eD⟩)
  |(refine au [6,9,24,25,26] [] ?_;(conv=>whnf);exact⟨rfl,_,[_,_],_, .cons (aF.az (aF.snoc (xs:=zs) rfl [.aA 2 _]) _) .nil,JL.next (by omega) (by have:=(hA (by omega)).2.2.1;omega) hzs eD (hP (by omega)).1 (by simp[tr]),rfl,rfl,by omega⟩))
 all_goals (conv=>whnf)
def Kl (sn:ByteArray) (bz ms ps us ss os:Lz) (ln wd rx ry:Int) (sizes places:Lz):Lz×Int:=pk 15 [mc sn bz ms ps us ss os,Km ln wd rx ry sizes places] (fun p=>[oL 1 p.1,oI p.2]) (fun p=>p.2=0→Bw sizes places bz.length p.1)
theorem wB (sn:ByteArray) (bz ms ps us ss os:Lz) (hS:iW sn bz ms ps us ss os) (ln wd rx ry:Int) (sizes places:Lz) (hz:Is sizes) (jG:sizes.length≤maxLen) (ji:PW places) (SI:places.length≤1000000):
 ∃ts,Fn Tryz.prog 15 [mc sn bz ms ps us ss os,Km ln wd rx ry sizes places] [] (aT ts) []∧(aT ts).cq=true∧(ts=[oL 1 (Kl sn bz ms ps us ss os ln wd rx ry sizes places).1,oI (Kl sn bz ms ps us ss os ln wd rx ry sizes places).2]∧((Kl sn bz ms ps us ss os ln wd rx ry sizes places).2=0→Bw sizes places bz.length (Kl sn bz ms ps us ss os ln wd rx ry sizes places).1)):=by
 obtain⟨ts,h1,h2,x,e,rfl,h3⟩:=yO sn bz ms ps us ss os hS ln wd rx ry sizes places hz jG ji SI
 exact xf (enc:=fun p:Lz×Int=>[oL 1 p.1,oI p.2]) (Q:=fun p=>p.2=0→Bw sizes places bz.length p.1) ⟨(x,e),h1,h2,h3⟩
abbrev N2 (p q l s:Int) (x:T) (d:Bool):W:= .agg [.t (tI p), .t (tI q), .t (tI l), .t (tI s), .t x, .t (tB d)]
def GPo (pE:Int) (ps ag poly:Lz) (qh place sz:Int) (ts:List W):Prop:= ∃p q l s x d e,ts=[N2 p q l s x d,oI e]∧(e=0↔rA pE ps ag poly)∧
 (e=0→p=qh∧q=place∧l=pE∧s=sz∧x= .aA 1 [[tI (nI 0 (ri pE ps poly))]]∧d=(Dp pE ps ag poly).1)
theorem tc (ln wd rx ry:Int) (sizes places plies ag poly:Lz) (hR:vZ ag) (hx:cc poly) (hl:poly.length≤1000000) (qh place pE g u k q x y sz:Int) (f:Bool) (ps:Lz) (hps:Bo ps) (ji:ps.length≤maxLen) (h0:0≤qh) (hy:plies[qh.toNat]? =some [tI pE, .aA 4 ps]) (h1:0≤place) (Qx:places[place.toNat]? =some [tI g,tI u,tI k,tB f,tI q,tI x,tI y]) (h2:0≤g) (hsz:sizes[g.toNat]? =some [tI sz]):Tg 42 [sM ln wd rx ry sizes places plies,oL 7 ag,oI qh,oI place,oL 2 poly] (GPo pE ps ag poly qh place sz):=by
 refine aL ?_
 refine ah (n:=67) (rs:=[.cell 10 53, .tmp 11]) Tryz.func42 axG auI rfl rfl (by simp) ?_
 repeat' (conv=>whnf
          first
  |(refine bY (fun h=>?_) (fun h=>?_))
  |(refine And.intro h0 (Exists.intro _ (And.intro hy ?_)))
  |(refine And.intro h1 (Exists.intro _ (And.intro Qx ?_)))
  |(refine And.intro h2 (Exists.intro _ (And.intro hsz ?_)))
  |(refine aC (xs:=ps) hps (hn (by omega)).1 (hn (by omega)).2 ?_;rintro _ ⟨r1,f1,t1,a1,rfl⟩ hs)
  |(refine And.intro (by kernel_rfl) ?_)
  |(refine ai rfl (lX pE ps poly hps ji hx hl) ?_;rintro _ ⟨rfl,hn⟩)
  |(refine ai rfl (Co pE ps ag poly hps ji hR hx hl) ?_;rintro _ ⟨hb,he,rfl,Oy,SY⟩)
  |exact dz rfl (bI aCp zCp rfl rfl (Nat.le_refl _) rfl (cR.refl _)) (bZ rfl) ⟨_,_,_,_,_,_,_,rfl,Sw (by assumption),fun h0=>absurd h0 (by assumption)⟩
  |exact dz rfl (bI aCp zCp rfl rfl (Nat.le_refl _) rfl (cR.refl _)) (bZ rfl) ⟨_,_,_,_,_,_,_,rfl,Oy,fun h0=>absurd h0 (by assumption)⟩
  |exact dz rfl (bI aCp zCp rfl rfl (Nat.le_refl _) rfl (cR.refl _)) (bZ rfl) ⟨_,_,_,_,_,_,_,rfl,iff_of_true rfl (Oy.1 (by assumption)),fun _=>⟨rfl,rfl,rfl,rfl,by rw[rh hs];rfl,SY (by assumption)⟩⟩)
 all_goals (conv=>whnf)
end Go.aU.Cd
end
section
namespace Go.aU.Cd
open Go Go.Proofs
set_option maxRecDepth 100000
set_option maxHeartbeats 4000000
def HU0 (F:Nat→List Zn) (hq:HS):Prop:=hq=[(4, .row 1 [])]
theorem Ri (hS:fO Tryz.prog 63 64) (ln wd rx ry:Int) (sizes places plies:Lz) (hy: ∀e,e∈plies→ ∃l q,e=[tI l, .aA 4 q]∧Bo q) (kr:plies.length≤1000000) (hB: ∀e,e∈plies→(nL 1 e).length≤1000) (hT: ∀i,(partsOf (plies.take i)).length≤100000) (dK: ∀e,e∈plies→ ∀q,q∈nL 1 e→0≤nI 0 q∧nI 0 q < 0):Tg 34 [sM ln wd rx ry sizes places plies,oL 7 []] (M8 0 (partsOf plies)):=by
 have hZ: ∀c:Int,(bL c (partsOf plies)).length≤100000:=fun c=>by have h1:=jL c (partsOf plies);have h2:=hT plies.length;rw[List.take_of_length_le (Nat.le_refl _)]at h2;omega
 refine aL ?_
 refine ah (n:=77) (rs:=[.tmp 4, .tmp 5]) Tryz.func34 Cy Ct rfl rfl (by simp) ?_
 repeat' (conv=>whnf
          first
  |(refine aD (fun h=>?_) (fun h=>?_))
  |(refine And.intro ⟨by simp,by simp,by simp,by simp⟩ ?_)
  |(refine aC (xs:=plies) hy (by omega) (by omega) ?_;rintro _ ⟨l,ps,rfl,hq⟩ hs;have EG:=dK _ (List.mem_of_getElem? hs);have KF:ps.length≤1000:=hB _ (List.mem_of_getElem? hs);have Qs:=hT i)
  |(refine aC (xs:=ps) hq (by omega) (by omega) ?_;rintro _ ⟨r1,f1,t1,a1,rfl⟩ cg;have sU:=EG _ (List.mem_of_getElem? cg);simp only[nI,List.getElem?_cons_zero]at sU)
  |(refine And.intro ⟨by omega,by omega⟩ ?_)
  |(exfalso;simp at h;omega)
  |(have h7:((0:Nat):Int)≤k:=(by simp at h;omega);exact dz rfl (oC [] rfl rfl rfl rfl trivial) (bZ rfl) ⟨_,by rw[jo h7 hall]⟩)
  |(have hgd:=hs;clear hgd;apply ct [6,18,19,20,25,26,27] [] [27] (PO HU0 (partsOf (plies.take i)) ps) (ps.length) [iV .i64 0];(conv=>whnf);exact⟨rfl,rfl,rfl,rfl⟩;exact rfl;exact rfl;exact⟨0,by omega,rfl,rfl,rfl⟩;rintro _ _ _ ⟨j,hj,rfl,rfl,rfl⟩)
  |(have hgd:=hi;clear hgd;apply ct [6,49,50,51] [] [51] (PN HU0 0 (fun r=>bL (r:Int) (partsOf plies))) (0) [iV .i64 0];(conv=>whnf);exact⟨rfl,rfl,rfl,rfl⟩;exact rfl;exact rfl;exact⟨0,by omega,by omega,rfl,rfl,rfl,fun r hr=>by omega⟩;rintro _ _ _ ⟨k,Ff,fE,rfl,rfl,rfl,hall⟩)
  |(apply ct [6,18,19,20] [] [20] (PP HU0 plies) (plies.length) [iV .i64 0];(conv=>whnf);exact⟨rfl,rfl,rfl,rfl⟩;exact rfl;exact rfl;exact⟨0,by omega,rfl,rfl,rfl⟩;rintro _ _ _ ⟨i,hi,rfl,rfl,rfl⟩)
  |(have hgd:=hj;clear hgd;refine au [6,18,19,20] [] ?_;(conv=>whnf);exact⟨rfl,_,[_],⟨i+1,by omega,rfl,by rw[bt (by omega) (by omega)];rfl,rfl⟩,rfl,rfl,by omega⟩))
 all_goals (conv=>whnf)
end Go.aU.Cd
end
section
namespace Go.aU.Cd
open Go Go.Proofs
set_option maxRecDepth 100000
set_option maxHeartbeats 4000000
def HU1 (F:Nat→List Zn) (hq:HS):Prop:= ∃ (k0:Nat) (y0:List (List C)),hq=[(4, .row 1 [[.own 8 2 0 k0]]),(8, .row 2 y0)]∧fD k0 y0 (F 0)
theorem Rh (hS:fO Tryz.prog 63 64) (e0:List T) (ln wd rx ry:Int) (sizes places plies:Lz) (hy: ∀e,e∈plies→ ∃l q,e=[tI l, .aA 4 q]∧Bo q) (kr:plies.length≤1000000) (hB: ∀e,e∈plies→(nL 1 e).length≤1000) (hT: ∀i,(partsOf (plies.take i)).length≤100000) (dK: ∀e,e∈plies→ ∀q,q∈nL 1 e→0≤nI 0 q∧nI 0 q < 1):Tg 34 [sM ln wd rx ry sizes places plies,oL 7 [e0]] (M8 1 (partsOf plies)):=by
 have hZ: ∀c:Int,(bL c (partsOf plies)).length≤100000:=fun c=>by have h1:=jL c (partsOf plies);have h2:=hT plies.length;rw[List.take_of_length_le (Nat.le_refl _)]at h2;omega
 refine aL ?_
 refine ah (n:=77) (rs:=[.tmp 4, .tmp 5]) Tryz.func34 Cy Ct rfl rfl (by simp) ?_
 repeat' (conv=>whnf
          first
  |(refine aD (fun h=>?_) (fun h=>?_))
  |(refine And.intro ⟨by simp,by simp,by simp,by simp⟩ ?_)
  |(have yZ:=sU.2;have nF:=sU.1;have uV:r1=0:=(by omega);clear nF yZ;rcases uV with rfl)
  |(have nF:=Ff;have AL:=h;simp at AL;have uV:k=0:=(by omega);clear nF AL;rcases uV with rfl)
  |(refine And.intro ⟨by simp,by simp⟩ ?_)
  |(refine aC (xs:=plies) hy (by omega) (by omega) ?_;rintro _ ⟨l,ps,rfl,hq⟩ hs;have EG:=dK _ (List.mem_of_getElem? hs);have KF:ps.length≤1000:=hB _ (List.mem_of_getElem? hs);have Qs:=hT i)
  |(refine aC (xs:=ps) hq (by omega) (by omega) ?_;rintro _ ⟨r1,f1,t1,a1,rfl⟩ cg;have sU:=EG _ (List.mem_of_getElem? cg);simp only[nI,List.getElem?_cons_zero]at sU)
  |(have hb0:=p0.kR (B:=101000) (by omega);refine And.intro ⟨hb0.1.symm,by simp[aX];omega,by simp[maxLen];omega⟩ ?_)
  |(have h6:=fH (z:=bL ((0:Nat):Int) (partsOf plies)) h eD;refine And.intro ⟨by omega,h⟩ ?_)
  |(have lV:IntKind.i64.wrap (i4 - 1)=i4 - 1:=bt (by omega) (by omega);generalize IntKind.i64.wrap (i4 - 1)=j1 at lV⊢;refine And.intro ⟨by omega,by omega⟩ ?_)
  |(refine And.intro (by kernel_rfl) ?_)
  |(refine eW [8] rfl (cT hS (bL ((0:Nat):Int) (partsOf plies)) (hZ _)) rfl (jI rfl (rfl:aF _ (rZ (bL ((0:Nat):Int) (partsOf plies))))) ?_;rintro _ _ ⟨rfl,rfl⟩;obtain⟨zl,hz⟩: ∃zl,zl=cJ (bL ((0:Nat):Int) (partsOf plies)):=⟨_,rfl⟩;rw[←hz];have jG:zl.length≤100000:=(by rw[hz,aQ];exact hZ _);have eD:zl.length=(bL ((0:Nat):Int) (partsOf plies)).length:=(by rw[hz,aQ]))
  |(refine cj (xs:=rZ zl) (aF.az (aF.az (xs:=rZ zl) rfl _) _) (xd zl) (by rw[cQ];omega) ?_;first|(rintro _ ⟨a6,b6,rfl⟩ kJ;have:=lC)|rintro _ ⟨a5,b5,rfl⟩ lC)
  |exact dz rfl (bS 1 rfl) (bZ rfl) ⟨_,by rw[cS (r:=0) (by omega) hz (cz hi4 lV kJ lC (by omega))]⟩
  |(have h7:((1:Nat):Int)≤k:=(by simp at h;omega);exact dz rfl (oC [(8,_,_)] rfl rfl rfl rfl ⟨⟨_,rfl,rfl,(cQ _).symm⟩,trivial⟩) (bZ rfl) ⟨_,by rw[jo h7 hall]⟩)
  |(have hgd:=eD;clear hgd;apply aO [6,12,13,49,50,51] [(6,0)] [13] (QN zl) (zl.length) [iV .i64 1];(conv=>whnf);exact⟨rfl,rfl,rfl,rfl⟩;exact rfl;exact rfl;exact⟨1,by omega,by omega,by omega,rfl,qf.one zl⟩;rintro _ _ ⟨i4,hi4,SX,rfl,rfl,nV⟩)
  |(have hgd:=h6;clear hgd;refine au [6,12,13,49,50,51] [(6,0)] ?_;(conv=>whnf);exact⟨rfl,_,[_],⟨i4+1,by omega,by omega,rfl,by rw[bt (by omega) (by omega)],nV.next hi4 lV kJ lC (by omega)⟩,rfl,(by simp only[eG]<;>rfl),rfl,by omega⟩)
  |(have hgd:=hs;clear hgd;apply ct [6,18,19,20,25,26,27] [(6,0)] [27] (PO HU1 (partsOf (plies.take i)) ps) (ps.length) [iV .i64 0];(conv=>whnf);exact⟨rfl,rfl,rfl,rfl⟩;exact rfl;exact rfl;exact⟨0,by omega,rfl,rfl,⟨_,_,rfl,p0.nil _⟩⟩;rintro _ _ _ ⟨j,hj,rfl,rfl,⟨k0,y0,rfl,p0⟩⟩)
  |(have hgd:=cg;clear hgd;refine au [6,18,19,20,25,26,27] [(6,0)] ?_;(conv=>whnf);exact⟨rfl,_,[_],⟨j+1,by omega,rfl,by rw[bt (by omega) (by omega)];rfl,⟨_,_,rfl,p0.hit cg (by simp) _⟩⟩,rfl,rfl,by omega⟩)
  |(have hgd:=hi;clear hgd;apply ct [6,49,50,51] [(6,0)] [51] (PN HU1 1 (fun r=>bL (r:Int) (partsOf plies))) (1) [iV .i64 0];(conv=>whnf);exact⟨rfl,rfl,rfl,rfl⟩;exact rfl;exact rfl;exact⟨0,by omega,by omega,rfl,rfl,⟨_,_,rfl,p0.all (by omega) _⟩,fun r hr=>by omega⟩;rintro _ _ _ ⟨k,Ff,fE,rfl,rfl,⟨_,_,rfl,⟨rfl,rfl⟩⟩,hall⟩)
  |(have hgd:=eD;clear hgd;refine au [6,49,50,51] [(6,0)] ?_;(conv=>whnf);exact⟨rfl,_,[_],⟨1,by omega,by omega,rfl,rfl,⟨_,_,rfl,fD.sort hz rfl (aF.az (aF.az (aF.az (xs:=rZ zl) rfl _) _) _)⟩,cC (c:=0) hall hz (nV.all (fI (z:=bL ((0:Nat):Int) (partsOf plies)) h eD))⟩,rfl,rfl,by omega⟩)
  |(apply iF [6,18,19,20] [(6,0)] [20] (PP HU1 plies) (plies.length) [iV .i64 0] (dR.fF 24 0 0 2 rfl rfl rfl);(conv=>whnf);exact⟨rfl,rfl,rfl,rfl⟩;exact rfl;exact rfl;exact⟨0,by omega,rfl,rfl,⟨_,_,rfl,⟨rfl,rfl⟩⟩⟩;rintro _ _ _ ⟨i,hi,rfl,rfl,⟨k0,y0,rfl,p0⟩⟩)
  |(have hgd:=hj;clear hgd;refine au [6,18,19,20] [(6,0)] ?_;(conv=>whnf);exact⟨rfl,_,[_],⟨i+1,by omega,rfl,by rw[bt (by omega) (by omega)];rfl,⟨_,_,rfl,p0.qh hs (by omega) _⟩⟩,rfl,rfl,by omega⟩))
 all_goals (conv=>whnf)
end Go.aU.Cd
end
section
namespace Go.aU.Cd
open Go Go.Proofs
set_option maxRecDepth 100000
set_option maxHeartbeats 4000000
def HU2 (F:Nat→List Zn) (hq:HS):Prop:= ∃ (k0 k1:Nat) (y0 y1:List (List C)),hq=[(4, .row 1 [[.own 8 2 0 k0],[.own 12 2 0 k1]]),(8, .row 2 y0),(12, .row 2 y1)]∧fD k0 y0 (F 0)∧fD k1 y1 (F 1)
theorem Rf (hS:fO Tryz.prog 63 64) (e0 e1:List T) (ln wd rx ry:Int) (sizes places plies:Lz) (hy: ∀e,e∈plies→ ∃l q,e=[tI l, .aA 4 q]∧Bo q) (kr:plies.length≤1000000) (hB: ∀e,e∈plies→(nL 1 e).length≤1000) (hT: ∀i,(partsOf (plies.take i)).length≤100000) (dK: ∀e,e∈plies→ ∀q,q∈nL 1 e→0≤nI 0 q∧nI 0 q < 2):Tg 34 [sM ln wd rx ry sizes places plies,oL 7 [e0,e1]] (M8 2 (partsOf plies)):=by
 have hZ: ∀c:Int,(bL c (partsOf plies)).length≤100000:=fun c=>by have h1:=jL c (partsOf plies);have h2:=hT plies.length;rw[List.take_of_length_le (Nat.le_refl _)]at h2;omega
 refine aL ?_
 refine ah (n:=77) (rs:=[.tmp 4, .tmp 5]) Tryz.func34 Cy Ct rfl rfl (by simp) ?_
 repeat' (conv=>whnf
          first
  |(refine aD (fun h=>?_) (fun h=>?_))
  |(refine And.intro ⟨by simp,by simp,by simp,by simp⟩ ?_)
  |(have yZ:=sU.2;have nF:=sU.1;have uV:r1=0∨r1=1:=(by omega);clear nF yZ;rcases uV with rfl|rfl)
  |(have nF:=Ff;have AL:=h;simp at AL;have uV:k=0∨k=1:=(by omega);clear nF AL;rcases uV with rfl|rfl)
  |(refine And.intro ⟨by simp,by simp⟩ ?_)
  |(refine aC (xs:=plies) hy (by omega) (by omega) ?_;rintro _ ⟨l,ps,rfl,hq⟩ hs;have EG:=dK _ (List.mem_of_getElem? hs);have KF:ps.length≤1000:=hB _ (List.mem_of_getElem? hs);have Qs:=hT i)
  |(refine aC (xs:=ps) hq (by omega) (by omega) ?_;rintro _ ⟨r1,f1,t1,a1,rfl⟩ cg;have sU:=EG _ (List.mem_of_getElem? cg);simp only[nI,List.getElem?_cons_zero]at sU)
  |(have hb0:=p0.kR (B:=101000) (by omega);refine And.intro ⟨hb0.1.symm,by simp[aX];omega,by simp[maxLen];omega⟩ ?_)
  |(have jc:=p1.kR (B:=101000) (by omega);refine And.intro ⟨jc.1.symm,by simp[aX];omega,by simp[maxLen];omega⟩ ?_)
  |(have h6:=fH (z:=bL ((0:Nat):Int) (partsOf plies)) h eD;refine And.intro ⟨by omega,h⟩ ?_)
  |(have h6:=fH (z:=bL ((1:Nat):Int) (partsOf plies)) h eD;refine And.intro ⟨by omega,h⟩ ?_)
  |(have lV:IntKind.i64.wrap (i4 - 1)=i4 - 1:=bt (by omega) (by omega);generalize IntKind.i64.wrap (i4 - 1)=j1 at lV⊢;refine And.intro ⟨by omega,by omega⟩ ?_)
  |(refine And.intro (by kernel_rfl) ?_)
  |(refine eW [8] rfl (cT hS (bL ((0:Nat):Int) (partsOf plies)) (hZ _)) rfl (jI rfl (rfl:aF _ (rZ (bL ((0:Nat):Int) (partsOf plies))))) ?_;rintro _ _ ⟨rfl,rfl⟩;obtain⟨zl,hz⟩: ∃zl,zl=cJ (bL ((0:Nat):Int) (partsOf plies)):=⟨_,rfl⟩;rw[←hz];have jG:zl.length≤100000:=(by rw[hz,aQ];exact hZ _);have eD:zl.length=(bL ((0:Nat):Int) (partsOf plies)).length:=(by rw[hz,aQ]))
  |(refine eW [12] rfl (cT hS (bL ((1:Nat):Int) (partsOf plies)) (hZ _)) rfl (jI rfl (rfl:aF _ (rZ (bL ((1:Nat):Int) (partsOf plies))))) ?_;rintro _ _ ⟨rfl,rfl⟩;obtain⟨zl,hz⟩: ∃zl,zl=cJ (bL ((1:Nat):Int) (partsOf plies)):=⟨_,rfl⟩;rw[←hz];have jG:zl.length≤100000:=(by rw[hz,aQ];exact hZ _);have eD:zl.length=(bL ((1:Nat):Int) (partsOf plies)).length:=(by rw[hz,aQ]))
  |(refine cj (xs:=rZ zl) (aF.az (aF.az (xs:=rZ zl) rfl _) _) (xd zl) (by rw[cQ];omega) ?_;first|(rintro _ ⟨a6,b6,rfl⟩ kJ;have:=lC)|rintro _ ⟨a5,b5,rfl⟩ lC)
  |exact dz rfl (bS 1 rfl) (bZ rfl) ⟨_,by rw[cS (r:=0) (by omega) hz (cz hi4 lV kJ lC (by omega))]⟩
  |exact dz rfl (bS 1 rfl) (bZ rfl) ⟨_,by rw[cS (r:=1) (by omega) hz (cz hi4 lV kJ lC (by omega))]⟩
  |(have h7:((2:Nat):Int)≤k:=(by simp at h;omega);exact dz rfl (oC [(8,_,_),(12,_,_)] rfl rfl rfl rfl ⟨⟨_,rfl,rfl,(cQ _).symm⟩,⟨_,rfl,rfl,(cQ _).symm⟩,trivial⟩) (bZ rfl) ⟨_,by rw[jo h7 hall]⟩)
  |(have hgd:=eD;clear hgd;apply aO [6,12,13,49,50,51] [(6,0),(6,1)] [13] (QN zl) (zl.length) [iV .i64 1];(conv=>whnf);exact⟨rfl,rfl,rfl,rfl⟩;exact rfl;exact rfl;exact⟨1,by omega,by omega,by omega,rfl,qf.one zl⟩;rintro _ _ ⟨i4,hi4,SX,rfl,rfl,nV⟩)
  |(have hgd:=h6;clear hgd;refine au [6,12,13,49,50,51] [(6,0),(6,1)] ?_;(conv=>whnf);exact⟨rfl,_,[_],⟨i4+1,by omega,by omega,rfl,by rw[bt (by omega) (by omega)],nV.next hi4 lV kJ lC (by omega)⟩,rfl,(by simp only[eG]<;>rfl),rfl,by omega⟩)
  |(have hgd:=hs;clear hgd;apply ct [6,18,19,20,25,26,27] [(6,0),(6,1)] [27] (PO HU2 (partsOf (plies.take i)) ps) (ps.length) [iV .i64 0];(conv=>whnf);exact⟨rfl,rfl,rfl,rfl⟩;exact rfl;exact rfl;exact⟨0,by omega,rfl,rfl,⟨_,_,_,_,rfl,p0.nil _,p1.nil _⟩⟩;rintro _ _ _ ⟨j,hj,rfl,rfl,⟨k0,k1,y0,y1,rfl,p0,p1⟩⟩)
  |(have hgd:=cg;clear hgd;refine au [6,18,19,20,25,26,27] [(6,0),(6,1)] ?_;(conv=>whnf);first|exact⟨rfl,_,[_],⟨j+1,by omega,rfl,by rw[bt (by omega) (by omega)];rfl,⟨_,_,_,_,rfl,p0.hit cg (by simp) _,p1.eS cg (by decide) _⟩⟩,rfl,rfl,by omega⟩|exact⟨rfl,_,[_],⟨j+1,by omega,rfl,by rw[bt (by omega) (by omega)];rfl,⟨_,_,_,_,rfl,p0.eS cg (by decide) _,p1.hit cg (by simp) _⟩⟩,rfl,rfl,by omega⟩)
  |(have hgd:=hi;clear hgd;apply ct [6,49,50,51] [(6,0),(6,1)] [51] (PN HU2 2 (fun r=>bL (r:Int) (partsOf plies))) (2) [iV .i64 0];(conv=>whnf);exact⟨rfl,rfl,rfl,rfl⟩;exact rfl;exact rfl;exact⟨0,by omega,by omega,rfl,rfl,⟨_,_,_,_,rfl,p0.all (by omega) _,p1.all (by omega) _⟩,fun r hr=>by omega⟩;rintro _ _ _ ⟨k,Ff,fE,rfl,rfl,⟨_,_,_,_,rfl,⟨rfl,rfl⟩,⟨rfl,rfl⟩⟩,hall⟩)
  |(have hgd:=eD;clear hgd;refine au [6,49,50,51] [(6,0),(6,1)] ?_;(conv=>whnf);first|exact⟨rfl,_,[_],⟨1,by omega,by omega,rfl,rfl,⟨_,_,_,_,rfl,fD.sort hz rfl (aF.az (aF.az (aF.az (xs:=rZ zl) rfl _) _) _),⟨rfl,aF.az (aF.az (xs:=rZ _) rfl _) _⟩⟩,cC (c:=0) hall hz (nV.all (fI (z:=bL ((0:Nat):Int) (partsOf plies)) h eD))⟩,rfl,rfl,by omega⟩|exact⟨rfl,_,[_],⟨2,by omega,by omega,rfl,rfl,⟨_,_,_,_,rfl,⟨rfl,aF.az (aF.az (xs:=rZ _) rfl _) _⟩,fD.sort hz rfl (aF.az (aF.az (aF.az (xs:=rZ zl) rfl _) _) _)⟩,cC (c:=1) hall hz (nV.all (fI (z:=bL ((1:Nat):Int) (partsOf plies)) h eD))⟩,rfl,rfl,by omega⟩)
  |(apply iF [6,18,19,20] [(6,0),(6,1)] [20] (PP HU2 plies) (plies.length) [iV .i64 0] (dR.trans (dR.fF 24 0 0 2 rfl rfl rfl) (dR.fF 24 1 0 2 rfl rfl rfl));(conv=>whnf);exact⟨rfl,rfl,rfl,rfl⟩;exact rfl;exact rfl;exact⟨0,by omega,rfl,rfl,⟨_,_,_,_,rfl,⟨rfl,rfl⟩,⟨rfl,rfl⟩⟩⟩;rintro _ _ _ ⟨i,hi,rfl,rfl,⟨k0,k1,y0,y1,rfl,p0,p1⟩⟩)
  |(have hgd:=hj;clear hgd;refine au [6,18,19,20] [(6,0),(6,1)] ?_;(conv=>whnf);exact⟨rfl,_,[_],⟨i+1,by omega,rfl,by rw[bt (by omega) (by omega)];rfl,⟨_,_,_,_,rfl,p0.qh hs (by omega) _,p1.qh hs (by omega) _⟩⟩,rfl,rfl,by omega⟩))
 all_goals (conv=>whnf)
end Go.aU.Cd
end
section
namespace Go.aU.Cd
open Go Go.Proofs
set_option maxRecDepth 100000
set_option maxHeartbeats 4000000
def HU3 (F:Nat→List Zn) (hq:HS):Prop:= ∃ (k0 k1 k2:Nat) (y0 y1 y2:List (List C)),hq=[(4, .row 1 [[.own 8 2 0 k0],[.own 12 2 0 k1],[.own 16 2 0 k2]]),(8, .row 2 y0),(12, .row 2 y1),(16, .row 2 y2)]∧fD k0 y0 (F 0)∧fD k1 y1 (F 1)∧fD k2 y2 (F 2)
theorem Re (hS:fO Tryz.prog 63 64) (e0 e1 e2:List T) (ln wd rx ry:Int) (sizes places plies:Lz) (hy: ∀e,e∈plies→ ∃l q,e=[tI l, .aA 4 q]∧Bo q) (kr:plies.length≤1000000) (hB: ∀e,e∈plies→(nL 1 e).length≤1000) (hT: ∀i,(partsOf (plies.take i)).length≤100000) (dK: ∀e,e∈plies→ ∀q,q∈nL 1 e→0≤nI 0 q∧nI 0 q < 3):Tg 34 [sM ln wd rx ry sizes places plies,oL 7 [e0,e1,e2]] (M8 3 (partsOf plies)):=by
 have hZ: ∀c:Int,(bL c (partsOf plies)).length≤100000:=fun c=>by have h1:=jL c (partsOf plies);have h2:=hT plies.length;rw[List.take_of_length_le (Nat.le_refl _)]at h2;omega
 refine aL ?_
 refine ah (n:=77) (rs:=[.tmp 4, .tmp 5]) Tryz.func34 Cy Ct rfl rfl (by simp) ?_
 repeat' (conv=>whnf
          first
  |(refine aD (fun h=>?_) (fun h=>?_))
  |(refine And.intro ⟨by simp,by simp,by simp,by simp⟩ ?_)
  |(have yZ:=sU.2;have nF:=sU.1;have uV:r1=0∨r1=1∨r1=2:=(by omega);clear nF yZ;rcases uV with rfl|rfl|rfl)
  |(have nF:=Ff;have AL:=h;simp at AL;have uV:k=0∨k=1∨k=2:=(by omega);clear nF AL;rcases uV with rfl|rfl|rfl)
  |(refine And.intro ⟨by simp,by simp⟩ ?_)
  |(refine aC (xs:=plies) hy (by omega) (by omega) ?_;rintro _ ⟨l,ps,rfl,hq⟩ hs;have EG:=dK _ (List.mem_of_getElem? hs);have KF:ps.length≤1000:=hB _ (List.mem_of_getElem? hs);have Qs:=hT i)
  |(refine aC (xs:=ps) hq (by omega) (by omega) ?_;rintro _ ⟨r1,f1,t1,a1,rfl⟩ cg;have sU:=EG _ (List.mem_of_getElem? cg);simp only[nI,List.getElem?_cons_zero]at sU)
  |(have hb0:=p0.kR (B:=101000) (by omega);refine And.intro ⟨hb0.1.symm,by simp[aX];omega,by simp[maxLen];omega⟩ ?_)
  |(have jc:=p1.kR (B:=101000) (by omega);refine And.intro ⟨jc.1.symm,by simp[aX];omega,by simp[maxLen];omega⟩ ?_)
  |(have kU:=p2.kR (B:=101000) (by omega);refine And.intro ⟨kU.1.symm,by simp[aX];omega,by simp[maxLen];omega⟩ ?_)
  |(have h6:=fH (z:=bL ((0:Nat):Int) (partsOf plies)) h eD;refine And.intro ⟨by omega,h⟩ ?_)
  |(have h6:=fH (z:=bL ((1:Nat):Int) (partsOf plies)) h eD;refine And.intro ⟨by omega,h⟩ ?_)
  |(have h6:=fH (z:=bL ((2:Nat):Int) (partsOf plies)) h eD;refine And.intro ⟨by omega,h⟩ ?_)
  |(have lV:IntKind.i64.wrap (i4 - 1)=i4 - 1:=bt (by omega) (by omega);generalize IntKind.i64.wrap (i4 - 1)=j1 at lV⊢;refine And.intro ⟨by omega,by omega⟩ ?_)
  |(refine And.intro (by kernel_rfl) ?_)
  |(refine eW [8] rfl (cT hS (bL ((0:Nat):Int) (partsOf plies)) (hZ _)) rfl (jI rfl (rfl:aF _ (rZ (bL ((0:Nat):Int) (partsOf plies))))) ?_;rintro _ _ ⟨rfl,rfl⟩;obtain⟨zl,hz⟩: ∃zl,zl=cJ (bL ((0:Nat):Int) (partsOf plies)):=⟨_,rfl⟩;rw[←hz];have jG:zl.length≤100000:=(by rw[hz,aQ];exact hZ _);have eD:zl.length=(bL ((0:Nat):Int) (partsOf plies)).length:=(by rw[hz,aQ]))
  |(refine eW [12] rfl (cT hS (bL ((1:Nat):Int) (partsOf plies)) (hZ _)) rfl (jI rfl (rfl:aF _ (rZ (bL ((1:Nat):Int) (partsOf plies))))) ?_;rintro _ _ ⟨rfl,rfl⟩;obtain⟨zl,hz⟩: ∃zl,zl=cJ (bL ((1:Nat):Int) (partsOf plies)):=⟨_,rfl⟩;rw[←hz];have jG:zl.length≤100000:=(by rw[hz,aQ];exact hZ _);have eD:zl.length=(bL ((1:Nat):Int) (partsOf plies)).length:=(by rw[hz,aQ]))
  |(refine eW [16] rfl (cT hS (bL ((2:Nat):Int) (partsOf plies)) (hZ _)) rfl (jI rfl (rfl:aF _ (rZ (bL ((2:Nat):Int) (partsOf plies))))) ?_;rintro _ _ ⟨rfl,rfl⟩;obtain⟨zl,hz⟩: ∃zl,zl=cJ (bL ((2:Nat):Int) (partsOf plies)):=⟨_,rfl⟩;rw[←hz];have jG:zl.length≤100000:=(by rw[hz,aQ];exact hZ _);have eD:zl.length=(bL ((2:Nat):Int) (partsOf plies)).length:=(by rw[hz,aQ]))
  |(refine cj (xs:=rZ zl) (aF.az (aF.az (xs:=rZ zl) rfl _) _) (xd zl) (by rw[cQ];omega) ?_;first|(rintro _ ⟨a6,b6,rfl⟩ kJ;have:=lC)|rintro _ ⟨a5,b5,rfl⟩ lC)
  |exact dz rfl (bS 1 rfl) (bZ rfl) ⟨_,by rw[cS (r:=0) (by omega) hz (cz hi4 lV kJ lC (by omega))]⟩
  |exact dz rfl (bS 1 rfl) (bZ rfl) ⟨_,by rw[cS (r:=1) (by omega) hz (cz hi4 lV kJ lC (by omega))]⟩
  |exact dz rfl (bS 1 rfl) (bZ rfl) ⟨_,by rw[cS (r:=2) (by omega) hz (cz hi4 lV kJ lC (by omega))]⟩
  |(have h7:((3:Nat):Int)≤k:=(by simp at h;omega);exact dz rfl (oC [(8,_,_),(12,_,_),(16,_,_)] rfl rfl rfl rfl ⟨⟨_,rfl,rfl,(cQ _).symm⟩,⟨_,rfl,rfl,(cQ _).symm⟩,⟨_,rfl,rfl,(cQ _).symm⟩,trivial⟩) (bZ rfl) ⟨_,by rw[jo h7 hall]⟩)
  |(have hgd:=eD;clear hgd;apply aO [6,12,13,49,50,51] [(6,0),(6,1),(6,2)] [13] (QN zl) (zl.length) [iV .i64 1];(conv=>whnf);exact⟨rfl,rfl,rfl,rfl⟩;exact rfl;exact rfl;exact⟨1,by omega,by omega,by omega,rfl,qf.one zl⟩;rintro _ _ ⟨i4,hi4,SX,rfl,rfl,nV⟩)
  |(have hgd:=h6;clear hgd;refine au [6,12,13,49,50,51] [(6,0),(6,1),(6,2)] ?_;(conv=>whnf);exact⟨rfl,_,[_],⟨i4+1,by omega,by omega,rfl,by rw[bt (by omega) (by omega)],nV.next hi4 lV kJ lC (by omega)⟩,rfl,(by simp only[eG]<;>rfl),rfl,by omega⟩)
  |(have hgd:=hs;clear hgd;apply ct [6,18,19,20,25,26,27] [(6,0),(6,1),(6,2)] [27] (PO HU3 (partsOf (plies.take i)) ps) (ps.length) [iV .i64 0];(conv=>whnf);exact⟨rfl,rfl,rfl,rfl⟩;exact rfl;exact rfl;exact⟨0,by omega,rfl,rfl,⟨_,_,_,_,_,_,rfl,p0.nil _,p1.nil _,p2.nil _⟩⟩;rintro _ _ _ ⟨j,hj,rfl,rfl,⟨k0,k1,k2,y0,y1,y2,rfl,p0,p1,p2⟩⟩)
  |(have hgd:=cg;clear hgd;refine au [6,18,19,20,25,26,27] [(6,0),(6,1),(6,2)] ?_;(conv=>whnf);first|exact⟨rfl,_,[_],⟨j+1,by omega,rfl,by rw[bt (by omega) (by omega)];rfl,⟨_,_,_,_,_,_,rfl,p0.hit cg (by simp) _,p1.eS cg (by decide) _,p2.eS cg (by decide) _⟩⟩,rfl,rfl,by omega⟩|exact⟨rfl,_,[_],⟨j+1,by omega,rfl,by rw[bt (by omega) (by omega)];rfl,⟨_,_,_,_,_,_,rfl,p0.eS cg (by decide) _,p1.hit cg (by simp) _,p2.eS cg (by decide) _⟩⟩,rfl,rfl,by omega⟩|exact⟨rfl,_,[_],⟨j+1,by omega,rfl,by rw[bt (by omega) (by omega)];rfl,⟨_,_,_,_,_,_,rfl,p0.eS cg (by decide) _,p1.eS cg (by decide) _,p2.hit cg (by simp) _⟩⟩,rfl,rfl,by omega⟩)
  |(have hgd:=hi;clear hgd;apply ct [6,49,50,51] [(6,0),(6,1),(6,2)] [51] (PN HU3 3 (fun r=>bL (r:Int) (partsOf plies))) (3) [iV .i64 0];(conv=>whnf);exact⟨rfl,rfl,rfl,rfl⟩;exact rfl;exact rfl;exact⟨0,by omega,by omega,rfl,rfl,⟨_,_,_,_,_,_,rfl,p0.all (by omega) _,p1.all (by omega) _,p2.all (by omega) _⟩,fun r hr=>by omega⟩;rintro _ _ _ ⟨k,Ff,fE,rfl,rfl,⟨_,_,_,_,_,_,rfl,⟨rfl,rfl⟩,⟨rfl,rfl⟩,⟨rfl,rfl⟩⟩,hall⟩)
  |(have hgd:=eD;clear hgd;refine au [6,49,50,51] [(6,0),(6,1),(6,2)] ?_;(conv=>whnf);first|exact⟨rfl,_,[_],⟨1,by omega,by omega,rfl,rfl,⟨_,_,_,_,_,_,rfl,fD.sort hz rfl (aF.az (aF.az (aF.az (xs:=rZ zl) rfl _) _) _),⟨rfl,aF.az (aF.az (xs:=rZ _) rfl _) _⟩,⟨rfl,aF.az (aF.az (xs:=rZ _) rfl _) _⟩⟩,cC (c:=0) hall hz (nV.all (fI (z:=bL ((0:Nat):Int) (partsOf plies)) h eD))⟩,rfl,rfl,by omega⟩|exact⟨rfl,_,[_],⟨2,by omega,by omega,rfl,rfl,⟨_,_,_,_,_,_,rfl,⟨rfl,aF.az (aF.az (xs:=rZ _) rfl _) _⟩,fD.sort hz rfl (aF.az (aF.az (aF.az (xs:=rZ zl) rfl _) _) _),⟨rfl,aF.az (aF.az (xs:=rZ _) rfl _) _⟩⟩,cC (c:=1) hall hz (nV.all (fI (z:=bL ((1:Nat):Int) (partsOf plies)) h eD))⟩,rfl,rfl,by omega⟩|exact⟨rfl,_,[_],⟨3,by omega,by omega,rfl,rfl,⟨_,_,_,_,_,_,rfl,⟨rfl,aF.az (aF.az (xs:=rZ _) rfl _) _⟩,⟨rfl,aF.az (aF.az (xs:=rZ _) rfl _) _⟩,fD.sort hz rfl (aF.az (aF.az (aF.az (xs:=rZ zl) rfl _) _) _)⟩,cC (c:=2) hall hz (nV.all (fI (z:=bL ((2:Nat):Int) (partsOf plies)) h eD))⟩,rfl,rfl,by omega⟩)
  |(apply iF [6,18,19,20] [(6,0),(6,1),(6,2)] [20] (PP HU3 plies) (plies.length) [iV .i64 0] (dR.trans (dR.fF 24 0 0 2 rfl rfl rfl) (dR.trans (dR.fF 24 1 0 2 rfl rfl rfl) (dR.fF 24 2 0 2 rfl rfl rfl)));(conv=>whnf);exact⟨rfl,rfl,rfl,rfl⟩;exact rfl;exact rfl;exact⟨0,by omega,rfl,rfl,⟨_,_,_,_,_,_,rfl,⟨rfl,rfl⟩,⟨rfl,rfl⟩,⟨rfl,rfl⟩⟩⟩;rintro _ _ _ ⟨i,hi,rfl,rfl,⟨k0,k1,k2,y0,y1,y2,rfl,p0,p1,p2⟩⟩)
  |(have hgd:=hj;clear hgd;refine au [6,18,19,20] [(6,0),(6,1),(6,2)] ?_;(conv=>whnf);exact⟨rfl,_,[_],⟨i+1,by omega,rfl,by rw[bt (by omega) (by omega)];rfl,⟨_,_,_,_,_,_,rfl,p0.qh hs (by omega) _,p1.qh hs (by omega) _,p2.qh hs (by omega) _⟩⟩,rfl,rfl,by omega⟩))
 all_goals (conv=>whnf)
end Go.aU.Cd
end
section
namespace Go.aU.Cd
open Go Go.Proofs
set_option maxRecDepth 100000
set_option maxHeartbeats 4000000
def HU4 (F:Nat→List Zn) (hq:HS):Prop:= ∃ (k0 k1 k2 k3:Nat) (y0 y1 y2 y3:List (List C)),hq=[(4, .row 1 [[.own 8 2 0 k0],[.own 12 2 0 k1],[.own 16 2 0 k2],[.own 20 2 0 k3]]),(8, .row 2 y0),(12, .row 2 y1),(16, .row 2 y2),(20, .row 2 y3)]∧fD k0 y0 (F 0)∧fD k1 y1 (F 1)∧fD k2 y2 (F 2)∧fD k3 y3 (F 3)
theorem Rb (hS:fO Tryz.prog 63 64) (e0 e1 e2 e3:List T) (ln wd rx ry:Int) (sizes places plies:Lz) (hy: ∀e,e∈plies→ ∃l q,e=[tI l, .aA 4 q]∧Bo q) (kr:plies.length≤1000000) (hB: ∀e,e∈plies→(nL 1 e).length≤1000) (hT: ∀i,(partsOf (plies.take i)).length≤100000) (dK: ∀e,e∈plies→ ∀q,q∈nL 1 e→0≤nI 0 q∧nI 0 q < 4):Tg 34 [sM ln wd rx ry sizes places plies,oL 7 [e0,e1,e2,e3]] (M8 4 (partsOf plies)):=by
 have hZ: ∀c:Int,(bL c (partsOf plies)).length≤100000:=fun c=>by have h1:=jL c (partsOf plies);have h2:=hT plies.length;rw[List.take_of_length_le (Nat.le_refl _)]at h2;omega
 refine aL ?_
 refine ah (n:=77) (rs:=[.tmp 4, .tmp 5]) Tryz.func34 Cy Ct rfl rfl (by simp) ?_
 repeat' (conv=>whnf
          first
  |(refine aD (fun h=>?_) (fun h=>?_))
  |(refine And.intro ⟨by simp,by simp,by simp,by simp⟩ ?_)
  |(have yZ:=sU.2;have nF:=sU.1;have uV:r1=0∨r1=1∨r1=2∨r1=3:=(by omega);clear nF yZ;rcases uV with rfl|rfl|rfl|rfl)
  |(have nF:=Ff;have AL:=h;simp at AL;have uV:k=0∨k=1∨k=2∨k=3:=(by omega);clear nF AL;rcases uV with rfl|rfl|rfl|rfl)
  |(refine And.intro ⟨by simp,by simp⟩ ?_)
  |(refine aC (xs:=plies) hy (by omega) (by omega) ?_;rintro _ ⟨l,ps,rfl,hq⟩ hs;have EG:=dK _ (List.mem_of_getElem? hs);have KF:ps.length≤1000:=hB _ (List.mem_of_getElem? hs);have Qs:=hT i)
  |(refine aC (xs:=ps) hq (by omega) (by omega) ?_;rintro _ ⟨r1,f1,t1,a1,rfl⟩ cg;have sU:=EG _ (List.mem_of_getElem? cg);simp only[nI,List.getElem?_cons_zero]at sU)
  |(have hb0:=p0.kR (B:=101000) (by omega);refine And.intro ⟨hb0.1.symm,by simp[aX];omega,by simp[maxLen];omega⟩ ?_)
  |(have jc:=p1.kR (B:=101000) (by omega);refine And.intro ⟨jc.1.symm,by simp[aX];omega,by simp[maxLen];omega⟩ ?_)
  |(have kU:=p2.kR (B:=101000) (by omega);refine And.intro ⟨kU.1.symm,by simp[aX];omega,by simp[maxLen];omega⟩ ?_)
  |(have QF:=p3.kR (B:=101000) (by omega);refine And.intro ⟨QF.1.symm,by simp[aX];omega,by simp[maxLen];omega⟩ ?_)
  |(have h6:=fH (z:=bL ((0:Nat):Int) (partsOf plies)) h eD;refine And.intro ⟨by omega,h⟩ ?_)
  |(have h6:=fH (z:=bL ((1:Nat):Int) (partsOf plies)) h eD;refine And.intro ⟨by omega,h⟩ ?_)
  |(have h6:=fH (z:=bL ((2:Nat):Int) (partsOf plies)) h eD;refine And.intro ⟨by omega,h⟩ ?_)
  |(have h6:=fH (z:=bL ((3:Nat):Int) (partsOf plies)) h eD;refine And.intro ⟨by omega,h⟩ ?_)
  |(have lV:IntKind.i64.wrap (i4 - 1)=i4 - 1:=bt (by omega) (by omega);generalize IntKind.i64.wrap (i4 - 1)=j1 at lV⊢;refine And.intro ⟨by omega,by omega⟩ ?_)
  |(refine And.intro (by kernel_rfl) ?_)
  |(refine eW [8] rfl (cT hS (bL ((0:Nat):Int) (partsOf plies)) (hZ _)) rfl (jI rfl (rfl:aF _ (rZ (bL ((0:Nat):Int) (partsOf plies))))) ?_;rintro _ _ ⟨rfl,rfl⟩;obtain⟨zl,hz⟩: ∃zl,zl=cJ (bL ((0:Nat):Int) (partsOf plies)):=⟨_,rfl⟩;rw[←hz];have jG:zl.length≤100000:=(by rw[hz,aQ];exact hZ _);have eD:zl.length=(bL ((0:Nat):Int) (partsOf plies)).length:=(by rw[hz,aQ]))
  |(refine eW [12] rfl (cT hS (bL ((1:Nat):Int) (partsOf plies)) (hZ _)) rfl (jI rfl (rfl:aF _ (rZ (bL ((1:Nat):Int) (partsOf plies))))) ?_;rintro _ _ ⟨rfl,rfl⟩;obtain⟨zl,hz⟩: ∃zl,zl=cJ (bL ((1:Nat):Int) (partsOf plies)):=⟨_,rfl⟩;rw[←hz];have jG:zl.length≤100000:=(by rw[hz,aQ];exact hZ _);have eD:zl.length=(bL ((1:Nat):Int) (partsOf plies)).length:=(by rw[hz,aQ]))
  |(refine eW [16] rfl (cT hS (bL ((2:Nat):Int) (partsOf plies)) (hZ _)) rfl (jI rfl (rfl:aF _ (rZ (bL ((2:Nat):Int) (partsOf plies))))) ?_;rintro _ _ ⟨rfl,rfl⟩;obtain⟨zl,hz⟩: ∃zl,zl=cJ (bL ((2:Nat):Int) (partsOf plies)):=⟨_,rfl⟩;rw[←hz];have jG:zl.length≤100000:=(by rw[hz,aQ];exact hZ _);have eD:zl.length=(bL ((2:Nat):Int) (partsOf plies)).length:=(by rw[hz,aQ]))
  |(refine eW [20] rfl (cT hS (bL ((3:Nat):Int) (partsOf plies)) (hZ _)) rfl (jI rfl (rfl:aF _ (rZ (bL ((3:Nat):Int) (partsOf plies))))) ?_;rintro _ _ ⟨rfl,rfl⟩;obtain⟨zl,hz⟩: ∃zl,zl=cJ (bL ((3:Nat):Int) (partsOf plies)):=⟨_,rfl⟩;rw[←hz];have jG:zl.length≤100000:=(by rw[hz,aQ];exact hZ _);have eD:zl.length=(bL ((3:Nat):Int) (partsOf plies)).length:=(by rw[hz,aQ]))
  |(refine cj (xs:=rZ zl) (aF.az (aF.az (xs:=rZ zl) rfl _) _) (xd zl) (by rw[cQ];omega) ?_;first|(rintro _ ⟨a6,b6,rfl⟩ kJ;have:=lC)|rintro _ ⟨a5,b5,rfl⟩ lC)
  |exact dz rfl (bS 1 rfl) (bZ rfl) ⟨_,by rw[cS (r:=0) (by omega) hz (cz hi4 lV kJ lC (by omega))]⟩
  |exact dz rfl (bS 1 rfl) (bZ rfl) ⟨_,by rw[cS (r:=1) (by omega) hz (cz hi4 lV kJ lC (by omega))]⟩
  |exact dz rfl (bS 1 rfl) (bZ rfl) ⟨_,by rw[cS (r:=2) (by omega) hz (cz hi4 lV kJ lC (by omega))]⟩
  |exact dz rfl (bS 1 rfl) (bZ rfl) ⟨_,by rw[cS (r:=3) (by omega) hz (cz hi4 lV kJ lC (by omega))]⟩
  |(have h7:((4:Nat):Int)≤k:=(by simp at h;omega);exact dz rfl (oC [(8,_,_),(12,_,_),(16,_,_),(20,_,_)] rfl rfl rfl rfl ⟨⟨_,rfl,rfl,(cQ _).symm⟩,⟨_,rfl,rfl,(cQ _).symm⟩,⟨_,rfl,rfl,(cQ _).symm⟩,⟨_,rfl,rfl,(cQ _).symm⟩,trivial⟩) (bZ rfl) ⟨_,by rw[jo h7 hall]⟩)
  |(have hgd:=eD;clear hgd;apply aO [6,12,13,49,50,51] [(6,0),(6,1),(6,2),(6,3)] [13] (QN zl) (zl.length) [iV .i64 1];(conv=>whnf);exact⟨rfl,rfl,rfl,rfl⟩;exact rfl;exact rfl;exact⟨1,by omega,by omega,by omega,rfl,qf.one zl⟩;rintro _ _ ⟨i4,hi4,SX,rfl,rfl,nV⟩)
  |(have hgd:=h6;clear hgd;refine au [6,12,13,49,50,51] [(6,0),(6,1),(6,2),(6,3)] ?_;(conv=>whnf);exact⟨rfl,_,[_],⟨i4+1,by omega,by omega,rfl,by rw[bt (by omega) (by omega)],nV.next hi4 lV kJ lC (by omega)⟩,rfl,(by simp only[eG]<;>rfl),rfl,by omega⟩)
  |(have hgd:=hs;clear hgd;apply ct [6,18,19,20,25,26,27] [(6,0),(6,1),(6,2),(6,3)] [27] (PO HU4 (partsOf (plies.take i)) ps) (ps.length) [iV .i64 0];(conv=>whnf);exact⟨rfl,rfl,rfl,rfl⟩;exact rfl;exact rfl;exact⟨0,by omega,rfl,rfl,⟨_,_,_,_,_,_,_,_,rfl,p0.nil _,p1.nil _,p2.nil _,p3.nil _⟩⟩;rintro _ _ _ ⟨j,hj,rfl,rfl,⟨k0,k1,k2,k3,y0,y1,y2,y3,rfl,p0,p1,p2,p3⟩⟩)
  |(have hgd:=cg;clear hgd;refine au [6,18,19,20,25,26,27] [(6,0),(6,1),(6,2),(6,3)] ?_;(conv=>whnf);first|exact⟨rfl,_,[_],⟨j+1,by omega,rfl,by rw[bt (by omega) (by omega)];rfl,⟨_,_,_,_,_,_,_,_,rfl,p0.hit cg (by simp) _,p1.eS cg (by decide) _,p2.eS cg (by decide) _,p3.eS cg (by decide) _⟩⟩,rfl,rfl,by omega⟩|exact⟨rfl,_,[_],⟨j+1,by omega,rfl,by rw[bt (by omega) (by omega)];rfl,⟨_,_,_,_,_,_,_,_,rfl,p0.eS cg (by decide) _,p1.hit cg (by simp) _,p2.eS cg (by decide) _,p3.eS cg (by decide) _⟩⟩,rfl,rfl,by omega⟩|exact⟨rfl,_,[_],⟨j+1,by omega,rfl,by rw[bt (by omega) (by omega)];rfl,⟨_,_,_,_,_,_,_,_,rfl,p0.eS cg (by decide) _,p1.eS cg (by decide) _,p2.hit cg (by simp) _,p3.eS cg (by decide) _⟩⟩,rfl,rfl,by omega⟩|exact⟨rfl,_,[_],⟨j+1,by omega,rfl,by rw[bt (by omega) (by omega)];rfl,⟨_,_,_,_,_,_,_,_,rfl,p0.eS cg (by decide) _,p1.eS cg (by decide) _,p2.eS cg (by decide) _,p3.hit cg (by simp) _⟩⟩,rfl,rfl,by omega⟩)
  |(have hgd:=hi;clear hgd;apply ct [6,49,50,51] [(6,0),(6,1),(6,2),(6,3)] [51] (PN HU4 4 (fun r=>bL (r:Int) (partsOf plies))) (4) [iV .i64 0];(conv=>whnf);exact⟨rfl,rfl,rfl,rfl⟩;exact rfl;exact rfl;exact⟨0,by omega,by omega,rfl,rfl,⟨_,_,_,_,_,_,_,_,rfl,p0.all (by omega) _,p1.all (by omega) _,p2.all (by omega) _,p3.all (by omega) _⟩,fun r hr=>by omega⟩;rintro _ _ _ ⟨k,Ff,fE,rfl,rfl,⟨_,_,_,_,_,_,_,_,rfl,⟨rfl,rfl⟩,⟨rfl,rfl⟩,⟨rfl,rfl⟩,⟨rfl,rfl⟩⟩,hall⟩)
  |(have hgd:=eD;clear hgd;refine au [6,49,50,51] [(6,0),(6,1),(6,2),(6,3)] ?_;(conv=>whnf);first|exact⟨rfl,_,[_],⟨1,by omega,by omega,rfl,rfl,⟨_,_,_,_,_,_,_,_,rfl,fD.sort hz rfl (aF.az (aF.az (aF.az (xs:=rZ zl) rfl _) _) _),⟨rfl,aF.az (aF.az (xs:=rZ _) rfl _) _⟩,⟨rfl,aF.az (aF.az (xs:=rZ _) rfl _) _⟩,⟨rfl,aF.az (aF.az (xs:=rZ _) rfl _) _⟩⟩,cC (c:=0) hall hz (nV.all (fI (z:=bL ((0:Nat):Int) (partsOf plies)) h eD))⟩,rfl,rfl,by omega⟩|exact⟨rfl,_,[_],⟨2,by omega,by omega,rfl,rfl,⟨_,_,_,_,_,_,_,_,rfl,⟨rfl,aF.az (aF.az (xs:=rZ _) rfl _) _⟩,fD.sort hz rfl (aF.az (aF.az (aF.az (xs:=rZ zl) rfl _) _) _),⟨rfl,aF.az (aF.az (xs:=rZ _) rfl _) _⟩,⟨rfl,aF.az (aF.az (xs:=rZ _) rfl _) _⟩⟩,cC (c:=1) hall hz (nV.all (fI (z:=bL ((1:Nat):Int) (partsOf plies)) h eD))⟩,rfl,rfl,by omega⟩|exact⟨rfl,_,[_],⟨3,by omega,by omega,rfl,rfl,⟨_,_,_,_,_,_,_,_,rfl,⟨rfl,aF.az (aF.az (xs:=rZ _) rfl _) _⟩,⟨rfl,aF.az (aF.az (xs:=rZ _) rfl _) _⟩,fD.sort hz rfl (aF.az (aF.az (aF.az (xs:=rZ zl) rfl _) _) _),⟨rfl,aF.az (aF.az (xs:=rZ _) rfl _) _⟩⟩,cC (c:=2) hall hz (nV.all (fI (z:=bL ((2:Nat):Int) (partsOf plies)) h eD))⟩,rfl,rfl,by omega⟩|exact⟨rfl,_,[_],⟨4,by omega,by omega,rfl,rfl,⟨_,_,_,_,_,_,_,_,rfl,⟨rfl,aF.az (aF.az (xs:=rZ _) rfl _) _⟩,⟨rfl,aF.az (aF.az (xs:=rZ _) rfl _) _⟩,⟨rfl,aF.az (aF.az (xs:=rZ _) rfl _) _⟩,fD.sort hz rfl (aF.az (aF.az (aF.az (xs:=rZ zl) rfl _) _) _)⟩,cC (c:=3) hall hz (nV.all (fI (z:=bL ((3:Nat):Int) (partsOf plies)) h eD))⟩,rfl,rfl,by omega⟩)
  |(apply iF [6,18,19,20] [(6,0),(6,1),(6,2),(6,3)] [20] (PP HU4 plies) (plies.length) [iV .i64 0] (dR.trans (dR.fF 24 0 0 2 rfl rfl rfl) (dR.trans (dR.fF 24 1 0 2 rfl rfl rfl) (dR.trans (dR.fF 24 2 0 2 rfl rfl rfl) (dR.fF 24 3 0 2 rfl rfl rfl))));(conv=>whnf);exact⟨rfl,rfl,rfl,rfl⟩;exact rfl;exact rfl;exact⟨0,by omega,rfl,rfl,⟨_,_,_,_,_,_,_,_,rfl,⟨rfl,rfl⟩,⟨rfl,rfl⟩,⟨rfl,rfl⟩,⟨rfl,rfl⟩⟩⟩;rintro _ _ _ ⟨i,hi,rfl,rfl,⟨k0,k1,k2,k3,y0,y1,y2,y3,rfl,p0,p1,p2,p3⟩⟩)
  |(have hgd:=hj;clear hgd;refine au [6,18,19,20] [(6,0),(6,1),(6,2),(6,3)] ?_;(conv=>whnf);exact⟨rfl,_,[_],⟨i+1,by omega,rfl,by rw[bt (by omega) (by omega)];rfl,⟨_,_,_,_,_,_,_,_,rfl,p0.qh hs (by omega) _,p1.qh hs (by omega) _,p2.qh hs (by omega) _,p3.qh hs (by omega) _⟩⟩,rfl,rfl,by omega⟩))
 all_goals (conv=>whnf)
end Go.aU.Cd
end
section
namespace Go.aU.Cd
open Go Go.Proofs
set_option maxRecDepth 100000
set_option maxHeartbeats 4000000
def HU5 (F:Nat→List Zn) (hq:HS):Prop:= ∃ (k0 k1 k2 k3 k4:Nat) (y0 y1 y2 y3 y4:List (List C)),hq=[(4, .row 1 [[.own 8 2 0 k0],[.own 12 2 0 k1],[.own 16 2 0 k2],[.own 20 2 0 k3],[.own 24 2 0 k4]]),(8, .row 2 y0),(12, .row 2 y1),(16, .row 2 y2),(20, .row 2 y3),(24, .row 2 y4)]∧fD k0 y0 (F 0)∧fD k1 y1 (F 1)∧fD k2 y2 (F 2)∧fD k3 y3 (F 3)∧fD k4 y4 (F 4)
theorem Ra (hS:fO Tryz.prog 63 64) (e0 e1 e2 e3 e4:List T) (ln wd rx ry:Int) (sizes places plies:Lz) (hy: ∀e,e∈plies→ ∃l q,e=[tI l, .aA 4 q]∧Bo q) (kr:plies.length≤1000000) (hB: ∀e,e∈plies→(nL 1 e).length≤1000) (hT: ∀i,(partsOf (plies.take i)).length≤100000) (dK: ∀e,e∈plies→ ∀q,q∈nL 1 e→0≤nI 0 q∧nI 0 q < 5):Tg 34 [sM ln wd rx ry sizes places plies,oL 7 [e0,e1,e2,e3,e4]] (M8 5 (partsOf plies)):=by
 have hZ: ∀c:Int,(bL c (partsOf plies)).length≤100000:=fun c=>by have h1:=jL c (partsOf plies);have h2:=hT plies.length;rw[List.take_of_length_le (Nat.le_refl _)]at h2;omega
 refine aL ?_
 refine ah (n:=77) (rs:=[.tmp 4, .tmp 5]) Tryz.func34 Cy Ct rfl rfl (by simp) ?_
 repeat' (conv=>whnf
          first
  |(refine aD (fun h=>?_) (fun h=>?_))
  |(refine And.intro ⟨by simp,by simp,by simp,by simp⟩ ?_)
  |(have yZ:=sU.2;have nF:=sU.1;have uV:r1=0∨r1=1∨r1=2∨r1=3∨r1=4:=(by omega);clear nF yZ;rcases uV with rfl|rfl|rfl|rfl|rfl)
  |(have nF:=Ff;have AL:=h;simp at AL;have uV:k=0∨k=1∨k=2∨k=3∨k=4:=(by omega);clear nF AL;rcases uV with rfl|rfl|rfl|rfl|rfl)
  |(refine And.intro ⟨by simp,by simp⟩ ?_)
  |(refine aC (xs:=plies) hy (by omega) (by omega) ?_;rintro _ ⟨l,ps,rfl,hq⟩ hs;have EG:=dK _ (List.mem_of_getElem? hs);have KF:ps.length≤1000:=hB _ (List.mem_of_getElem? hs);have Qs:=hT i)
  |(refine aC (xs:=ps) hq (by omega) (by omega) ?_;rintro _ ⟨r1,f1,t1,a1,rfl⟩ cg;have sU:=EG _ (List.mem_of_getElem? cg);simp only[nI,List.getElem?_cons_zero]at sU)
  |(have hb0:=p0.kR (B:=101000) (by omega);refine And.intro ⟨hb0.1.symm,by simp[aX];omega,by simp[maxLen];omega⟩ ?_)
  |(have jc:=p1.kR (B:=101000) (by omega);refine And.intro ⟨jc.1.symm,by simp[aX];omega,by simp[maxLen];omega⟩ ?_)
  |(have kU:=p2.kR (B:=101000) (by omega);refine And.intro ⟨kU.1.symm,by simp[aX];omega,by simp[maxLen];omega⟩ ?_)
  |(have QF:=p3.kR (B:=101000) (by omega);refine And.intro ⟨QF.1.symm,by simp[aX];omega,by simp[maxLen];omega⟩ ?_)
  |(have hb4:=p4.kR (B:=101000) (by omega);refine And.intro ⟨hb4.1.symm,by simp[aX];omega,by simp[maxLen];omega⟩ ?_)
  |(have h6:=fH (z:=bL ((0:Nat):Int) (partsOf plies)) h eD;refine And.intro ⟨by omega,h⟩ ?_)
  |(have h6:=fH (z:=bL ((1:Nat):Int) (partsOf plies)) h eD;refine And.intro ⟨by omega,h⟩ ?_)
  |(have h6:=fH (z:=bL ((2:Nat):Int) (partsOf plies)) h eD;refine And.intro ⟨by omega,h⟩ ?_)
  |(have h6:=fH (z:=bL ((3:Nat):Int) (partsOf plies)) h eD;refine And.intro ⟨by omega,h⟩ ?_)
  |(have h6:=fH (z:=bL ((4:Nat):Int) (partsOf plies)) h eD;refine And.intro ⟨by omega,h⟩ ?_)
  |(have lV:IntKind.i64.wrap (i4 - 1)=i4 - 1:=bt (by omega) (by omega);generalize IntKind.i64.wrap (i4 - 1)=j1 at lV⊢;refine And.intro ⟨by omega,by omega⟩ ?_)
  |(refine And.intro (by kernel_rfl) ?_)
  |(refine eW [8] rfl (cT hS (bL ((0:Nat):Int) (partsOf plies)) (hZ _)) rfl (jI rfl (rfl:aF _ (rZ (bL ((0:Nat):Int) (partsOf plies))))) ?_;rintro _ _ ⟨rfl,rfl⟩;obtain⟨zl,hz⟩: ∃zl,zl=cJ (bL ((0:Nat):Int) (partsOf plies)):=⟨_,rfl⟩;rw[←hz];have jG:zl.length≤100000:=(by rw[hz,aQ];exact hZ _);have eD:zl.length=(bL ((0:Nat):Int) (partsOf plies)).length:=(by rw[hz,aQ]))
  |(refine eW [12] rfl (cT hS (bL ((1:Nat):Int) (partsOf plies)) (hZ _)) rfl (jI rfl (rfl:aF _ (rZ (bL ((1:Nat):Int) (partsOf plies))))) ?_;rintro _ _ ⟨rfl,rfl⟩;obtain⟨zl,hz⟩: ∃zl,zl=cJ (bL ((1:Nat):Int) (partsOf plies)):=⟨_,rfl⟩;rw[←hz];have jG:zl.length≤100000:=(by rw[hz,aQ];exact hZ _);have eD:zl.length=(bL ((1:Nat):Int) (partsOf plies)).length:=(by rw[hz,aQ]))
  |(refine eW [16] rfl (cT hS (bL ((2:Nat):Int) (partsOf plies)) (hZ _)) rfl (jI rfl (rfl:aF _ (rZ (bL ((2:Nat):Int) (partsOf plies))))) ?_;rintro _ _ ⟨rfl,rfl⟩;obtain⟨zl,hz⟩: ∃zl,zl=cJ (bL ((2:Nat):Int) (partsOf plies)):=⟨_,rfl⟩;rw[←hz];have jG:zl.length≤100000:=(by rw[hz,aQ];exact hZ _);have eD:zl.length=(bL ((2:Nat):Int) (partsOf plies)).length:=(by rw[hz,aQ]))
  |(refine eW [20] rfl (cT hS (bL ((3:Nat):Int) (partsOf plies)) (hZ _)) rfl (jI rfl (rfl:aF _ (rZ (bL ((3:Nat):Int) (partsOf plies))))) ?_;rintro _ _ ⟨rfl,rfl⟩;obtain⟨zl,hz⟩: ∃zl,zl=cJ (bL ((3:Nat):Int) (partsOf plies)):=⟨_,rfl⟩;rw[←hz];have jG:zl.length≤100000:=(by rw[hz,aQ];exact hZ _);have eD:zl.length=(bL ((3:Nat):Int) (partsOf plies)).length:=(by rw[hz,aQ]))
  |(refine eW [24] rfl (cT hS (bL ((4:Nat):Int) (partsOf plies)) (hZ _)) rfl (jI rfl (rfl:aF _ (rZ (bL ((4:Nat):Int) (partsOf plies))))) ?_;rintro _ _ ⟨rfl,rfl⟩;obtain⟨zl,hz⟩: ∃zl,zl=cJ (bL ((4:Nat):Int) (partsOf plies)):=⟨_,rfl⟩;rw[←hz];have jG:zl.length≤100000:=(by rw[hz,aQ];exact hZ _);have eD:zl.length=(bL ((4:Nat):Int) (partsOf plies)).length:=(by rw[hz,aQ]))
  |(refine cj (xs:=rZ zl) (aF.az (aF.az (xs:=rZ zl) rfl _) _) (xd zl) (by rw[cQ];omega) ?_;first|(rintro _ ⟨a6,b6,rfl⟩ kJ;have:=lC)|rintro _ ⟨a5,b5,rfl⟩ lC)
  |exact dz rfl (bS 1 rfl) (bZ rfl) ⟨_,by rw[cS (r:=0) (by omega) hz (cz hi4 lV kJ lC (by omega))]⟩
  |exact dz rfl (bS 1 rfl) (bZ rfl) ⟨_,by rw[cS (r:=1) (by omega) hz (cz hi4 lV kJ lC (by omega))]⟩
  |exact dz rfl (bS 1 rfl) (bZ rfl) ⟨_,by rw[cS (r:=2) (by omega) hz (cz hi4 lV kJ lC (by omega))]⟩
  |exact dz rfl (bS 1 rfl) (bZ rfl) ⟨_,by rw[cS (r:=3) (by omega) hz (cz hi4 lV kJ lC (by omega))]⟩
  |exact dz rfl (bS 1 rfl) (bZ rfl) ⟨_,by rw[cS (r:=4) (by omega) hz (cz hi4 lV kJ lC (by omega))]⟩
  |(have h7:((5:Nat):Int)≤k:=(by simp at h;omega);exact dz rfl (oC [(8,_,_),(12,_,_),(16,_,_),(20,_,_),(24,_,_)] rfl rfl rfl rfl ⟨⟨_,rfl,rfl,(cQ _).symm⟩,⟨_,rfl,rfl,(cQ _).symm⟩,⟨_,rfl,rfl,(cQ _).symm⟩,⟨_,rfl,rfl,(cQ _).symm⟩,⟨_,rfl,rfl,(cQ _).symm⟩,trivial⟩) (bZ rfl) ⟨_,by rw[jo h7 hall]⟩)
  |(have hgd:=eD;clear hgd;apply aO [6,12,13,49,50,51] [(6,0),(6,1),(6,2),(6,3),(6,4)] [13] (QN zl) (zl.length) [iV .i64 1];(conv=>whnf);exact⟨rfl,rfl,rfl,rfl⟩;exact rfl;exact rfl;exact⟨1,by omega,by omega,by omega,rfl,qf.one zl⟩;rintro _ _ ⟨i4,hi4,SX,rfl,rfl,nV⟩)
  |(have hgd:=h6;clear hgd;refine au [6,12,13,49,50,51] [(6,0),(6,1),(6,2),(6,3),(6,4)] ?_;(conv=>whnf);exact⟨rfl,_,[_],⟨i4+1,by omega,by omega,rfl,by rw[bt (by omega) (by omega)],nV.next hi4 lV kJ lC (by omega)⟩,rfl,(by simp only[eG]<;>rfl),rfl,by omega⟩)
  |(have hgd:=hs;clear hgd;apply ct [6,18,19,20,25,26,27] [(6,0),(6,1),(6,2),(6,3),(6,4)] [27] (PO HU5 (partsOf (plies.take i)) ps) (ps.length) [iV .i64 0];(conv=>whnf);exact⟨rfl,rfl,rfl,rfl⟩;exact rfl;exact rfl;exact⟨0,by omega,rfl,rfl,⟨_,_,_,_,_,_,_,_,_,_,rfl,p0.nil _,p1.nil _,p2.nil _,p3.nil _,p4.nil _⟩⟩;rintro _ _ _ ⟨j,hj,rfl,rfl,⟨k0,k1,k2,k3,k4,y0,y1,y2,y3,y4,rfl,p0,p1,p2,p3,p4⟩⟩)
  |(have hgd:=cg;clear hgd;refine au [6,18,19,20,25,26,27] [(6,0),(6,1),(6,2),(6,3),(6,4)] ?_;(conv=>whnf);first|exact⟨rfl,_,[_],⟨j+1,by omega,rfl,by rw[bt (by omega) (by omega)];rfl,⟨_,_,_,_,_,_,_,_,_,_,rfl,p0.hit cg (by simp) _,p1.eS cg (by decide) _,p2.eS cg (by decide) _,p3.eS cg (by decide) _,p4.eS cg (by decide) _⟩⟩,rfl,rfl,by omega⟩|exact⟨rfl,_,[_],⟨j+1,by omega,rfl,by rw[bt (by omega) (by omega)];rfl,⟨_,_,_,_,_,_,_,_,_,_,rfl,p0.eS cg (by decide) _,p1.hit cg (by simp) _,p2.eS cg (by decide) _,p3.eS cg (by decide) _,p4.eS cg (by decide) _⟩⟩,rfl,rfl,by omega⟩|exact⟨rfl,_,[_],⟨j+1,by omega,rfl,by rw[bt (by omega) (by omega)];rfl,⟨_,_,_,_,_,_,_,_,_,_,rfl,p0.eS cg (by decide) _,p1.eS cg (by decide) _,p2.hit cg (by simp) _,p3.eS cg (by decide) _,p4.eS cg (by decide) _⟩⟩,rfl,rfl,by omega⟩|exact⟨rfl,_,[_],⟨j+1,by omega,rfl,by rw[bt (by omega) (by omega)];rfl,⟨_,_,_,_,_,_,_,_,_,_,rfl,p0.eS cg (by decide) _,p1.eS cg (by decide) _,p2.eS cg (by decide) _,p3.hit cg (by simp) _,p4.eS cg (by decide) _⟩⟩,rfl,rfl,by omega⟩|exact⟨rfl,_,[_],⟨j+1,by omega,rfl,by rw[bt (by omega) (by omega)];rfl,⟨_,_,_,_,_,_,_,_,_,_,rfl,p0.eS cg (by decide) _,p1.eS cg (by decide) _,p2.eS cg (by decide) _,p3.eS cg (by decide) _,p4.hit cg (by simp) _⟩⟩,rfl,rfl,by omega⟩)
  |(have hgd:=hi;clear hgd;apply ct [6,49,50,51] [(6,0),(6,1),(6,2),(6,3),(6,4)] [51] (PN HU5 5 (fun r=>bL (r:Int) (partsOf plies))) (5) [iV .i64 0];(conv=>whnf);exact⟨rfl,rfl,rfl,rfl⟩;exact rfl;exact rfl;exact⟨0,by omega,by omega,rfl,rfl,⟨_,_,_,_,_,_,_,_,_,_,rfl,p0.all (by omega) _,p1.all (by omega) _,p2.all (by omega) _,p3.all (by omega) _,p4.all (by omega) _⟩,fun r hr=>by omega⟩;rintro _ _ _ ⟨k,Ff,fE,rfl,rfl,⟨_,_,_,_,_,_,_,_,_,_,rfl,⟨rfl,rfl⟩,⟨rfl,rfl⟩,⟨rfl,rfl⟩,⟨rfl,rfl⟩,⟨rfl,rfl⟩⟩,hall⟩)
  |(have hgd:=eD;clear hgd;refine au [6,49,50,51] [(6,0),(6,1),(6,2),(6,3),(6,4)] ?_;(conv=>whnf);first|exact⟨rfl,_,[_],⟨1,by omega,by omega,rfl,rfl,⟨_,_,_,_,_,_,_,_,_,_,rfl,fD.sort hz rfl (aF.az (aF.az (aF.az (xs:=rZ zl) rfl _) _) _),⟨rfl,aF.az (aF.az (xs:=rZ _) rfl _) _⟩,⟨rfl,aF.az (aF.az (xs:=rZ _) rfl _) _⟩,⟨rfl,aF.az (aF.az (xs:=rZ _) rfl _) _⟩,⟨rfl,aF.az (aF.az (xs:=rZ _) rfl _) _⟩⟩,cC (c:=0) hall hz (nV.all (fI (z:=bL ((0:Nat):Int) (partsOf plies)) h eD))⟩,rfl,rfl,by omega⟩|exact⟨rfl,_,[_],⟨2,by omega,by omega,rfl,rfl,⟨_,_,_,_,_,_,_,_,_,_,rfl,⟨rfl,aF.az (aF.az (xs:=rZ _) rfl _) _⟩,fD.sort hz rfl (aF.az (aF.az (aF.az (xs:=rZ zl) rfl _) _) _),⟨rfl,aF.az (aF.az (xs:=rZ _) rfl _) _⟩,⟨rfl,aF.az (aF.az (xs:=rZ _) rfl _) _⟩,⟨rfl,aF.az (aF.az (xs:=rZ _) rfl _) _⟩⟩,cC (c:=1) hall hz (nV.all (fI (z:=bL ((1:Nat):Int) (partsOf plies)) h eD))⟩,rfl,rfl,by omega⟩|exact⟨rfl,_,[_],⟨3,by omega,by omega,rfl,rfl,⟨_,_,_,_,_,_,_,_,_,_,rfl,⟨rfl,aF.az (aF.az (xs:=rZ _) rfl _) _⟩,⟨rfl,aF.az (aF.az (xs:=rZ _) rfl _) _⟩,fD.sort hz rfl (aF.az (aF.az (aF.az (xs:=rZ zl) rfl _) _) _),⟨rfl,aF.az (aF.az (xs:=rZ _) rfl _) _⟩,⟨rfl,aF.az (aF.az (xs:=rZ _) rfl _) _⟩⟩,cC (c:=2) hall hz (nV.all (fI (z:=bL ((2:Nat):Int) (partsOf plies)) h eD))⟩,rfl,rfl,by omega⟩|exact⟨rfl,_,[_],⟨4,by omega,by omega,rfl,rfl,⟨_,_,_,_,_,_,_,_,_,_,rfl,⟨rfl,aF.az (aF.az (xs:=rZ _) rfl _) _⟩,⟨rfl,aF.az (aF.az (xs:=rZ _) rfl _) _⟩,⟨rfl,aF.az (aF.az (xs:=rZ _) rfl _) _⟩,fD.sort hz rfl (aF.az (aF.az (aF.az (xs:=rZ zl) rfl _) _) _),⟨rfl,aF.az (aF.az (xs:=rZ _) rfl _) _⟩⟩,cC (c:=3) hall hz (nV.all (fI (z:=bL ((3:Nat):Int) (partsOf plies)) h eD))⟩,rfl,rfl,by omega⟩|exact⟨rfl,_,[_],⟨5,by omega,by omega,rfl,rfl,⟨_,_,_,_,_,_,_,_,_,_,rfl,⟨rfl,aF.az (aF.az (xs:=rZ _) rfl _) _⟩,⟨rfl,aF.az (aF.az (xs:=rZ _) rfl _) _⟩,⟨rfl,aF.az (aF.az (xs:=rZ _) rfl _) _⟩,⟨rfl,aF.az (aF.az (xs:=rZ _) rfl _) _⟩,fD.sort hz rfl (aF.az (aF.az (aF.az (xs:=rZ zl) rfl _) _) _)⟩,cC (c:=4) hall hz (nV.all (fI (z:=bL ((4:Nat):Int) (partsOf plies)) h eD))⟩,rfl,rfl,by omega⟩)
  |(apply iF [6,18,19,20] [(6,0),(6,1),(6,2),(6,3),(6,4)] [20] (PP HU5 plies) (plies.length) [iV .i64 0] (dR.trans (dR.fF 24 0 0 2 rfl rfl rfl) (dR.trans (dR.fF 24 1 0 2 rfl rfl rfl) (dR.trans (dR.fF 24 2 0 2 rfl rfl rfl) (dR.trans (dR.fF 24 3 0 2 rfl rfl rfl) (dR.fF 24 4 0 2 rfl rfl rfl)))));(conv=>whnf);exact⟨rfl,rfl,rfl,rfl⟩;exact rfl;exact rfl;exact⟨0,by omega,rfl,rfl,⟨_,_,_,_,_,_,_,_,_,_,rfl,⟨rfl,rfl⟩,⟨rfl,rfl⟩,⟨rfl,rfl⟩,⟨rfl,rfl⟩,⟨rfl,rfl⟩⟩⟩;rintro _ _ _ ⟨i,hi,rfl,rfl,⟨k0,k1,k2,k3,k4,y0,y1,y2,y3,y4,rfl,p0,p1,p2,p3,p4⟩⟩)
  |(have hgd:=hj;clear hgd;refine au [6,18,19,20] [(6,0),(6,1),(6,2),(6,3),(6,4)] ?_;(conv=>whnf);exact⟨rfl,_,[_],⟨i+1,by omega,rfl,by rw[bt (by omega) (by omega)];rfl,⟨_,_,_,_,_,_,_,_,_,_,rfl,p0.qh hs (by omega) _,p1.qh hs (by omega) _,p2.qh hs (by omega) _,p3.qh hs (by omega) _,p4.qh hs (by omega) _⟩⟩,rfl,rfl,by omega⟩))
 all_goals (conv=>whnf)
end Go.aU.Cd
end
section
namespace Go.aU.Cd
open Go Go.Proofs
set_option maxRecDepth 100000
set_option maxHeartbeats 4000000
def HU6 (F:Nat→List Zn) (hq:HS):Prop:= ∃ (k0 k1 k2 k3 k4 k5:Nat) (y0 y1 y2 y3 y4 y5:List (List C)),hq=[(4, .row 1 [[.own 8 2 0 k0],[.own 12 2 0 k1],[.own 16 2 0 k2],[.own 20 2 0 k3],[.own 24 2 0 k4],[.own 28 2 0 k5]]),(8, .row 2 y0),(12, .row 2 y1),(16, .row 2 y2),(20, .row 2 y3),(24, .row 2 y4),(28, .row 2 y5)]∧fD k0 y0 (F 0)∧fD k1 y1 (F 1)∧fD k2 y2 (F 2)∧fD k3 y3 (F 3)∧fD k4 y4 (F 4)∧fD k5 y5 (F 5)
theorem Q9 (hS:fO Tryz.prog 63 64) (e0 e1 e2 e3 e4 e5:List T) (ln wd rx ry:Int) (sizes places plies:Lz) (hy: ∀e,e∈plies→ ∃l q,e=[tI l, .aA 4 q]∧Bo q) (kr:plies.length≤1000000) (hB: ∀e,e∈plies→(nL 1 e).length≤1000) (hT: ∀i,(partsOf (plies.take i)).length≤100000) (dK: ∀e,e∈plies→ ∀q,q∈nL 1 e→0≤nI 0 q∧nI 0 q < 6):Tg 34 [sM ln wd rx ry sizes places plies,oL 7 [e0,e1,e2,e3,e4,e5]] (M8 6 (partsOf plies)):=by
 have hZ: ∀c:Int,(bL c (partsOf plies)).length≤100000:=fun c=>by have h1:=jL c (partsOf plies);have h2:=hT plies.length;rw[List.take_of_length_le (Nat.le_refl _)]at h2;omega
 refine aL ?_
 refine ah (n:=77) (rs:=[.tmp 4, .tmp 5]) Tryz.func34 Cy Ct rfl rfl (by simp) ?_
 repeat' (conv=>whnf
          first
  |(refine aD (fun h=>?_) (fun h=>?_))
  |(refine And.intro ⟨by simp,by simp,by simp,by simp⟩ ?_)
  |(have yZ:=sU.2;have nF:=sU.1;have uV:r1=0∨r1=1∨r1=2∨r1=3∨r1=4∨r1=5:=(by omega);clear nF yZ;rcases uV with rfl|rfl|rfl|rfl|rfl|rfl)
  |(have nF:=Ff;have AL:=h;simp at AL;have uV:k=0∨k=1∨k=2∨k=3∨k=4∨k=5:=(by omega);clear nF AL;rcases uV with rfl|rfl|rfl|rfl|rfl|rfl)
  |(refine And.intro ⟨by simp,by simp⟩ ?_)
  |(refine aC (xs:=plies) hy (by omega) (by omega) ?_;rintro _ ⟨l,ps,rfl,hq⟩ hs;have EG:=dK _ (List.mem_of_getElem? hs);have KF:ps.length≤1000:=hB _ (List.mem_of_getElem? hs);have Qs:=hT i)
  |(refine aC (xs:=ps) hq (by omega) (by omega) ?_;rintro _ ⟨r1,f1,t1,a1,rfl⟩ cg;have sU:=EG _ (List.mem_of_getElem? cg);simp only[nI,List.getElem?_cons_zero]at sU)
  |(have hb0:=p0.kR (B:=101000) (by omega);refine And.intro ⟨hb0.1.symm,by simp[aX];omega,by simp[maxLen];omega⟩ ?_)
  |(have jc:=p1.kR (B:=101000) (by omega);refine And.intro ⟨jc.1.symm,by simp[aX];omega,by simp[maxLen];omega⟩ ?_)
  |(have kU:=p2.kR (B:=101000) (by omega);refine And.intro ⟨kU.1.symm,by simp[aX];omega,by simp[maxLen];omega⟩ ?_)
  |(have QF:=p3.kR (B:=101000) (by omega);refine And.intro ⟨QF.1.symm,by simp[aX];omega,by simp[maxLen];omega⟩ ?_)
  |(have hb4:=p4.kR (B:=101000) (by omega);refine And.intro ⟨hb4.1.symm,by simp[aX];omega,by simp[maxLen];omega⟩ ?_)
  |(have KF:=p5.kR (B:=101000) (by omega);refine And.intro ⟨KF.1.symm,by simp[aX];omega,by simp[maxLen];omega⟩ ?_)
  |(have h6:=fH (z:=bL ((0:Nat):Int) (partsOf plies)) h eD;refine And.intro ⟨by omega,h⟩ ?_)
  |(have h6:=fH (z:=bL ((1:Nat):Int) (partsOf plies)) h eD;refine And.intro ⟨by omega,h⟩ ?_)
  |(have h6:=fH (z:=bL ((2:Nat):Int) (partsOf plies)) h eD;refine And.intro ⟨by omega,h⟩ ?_)
  |(have h6:=fH (z:=bL ((3:Nat):Int) (partsOf plies)) h eD;refine And.intro ⟨by omega,h⟩ ?_)
  |(have h6:=fH (z:=bL ((4:Nat):Int) (partsOf plies)) h eD;refine And.intro ⟨by omega,h⟩ ?_)
  |(have h6:=fH (z:=bL ((5:Nat):Int) (partsOf plies)) h eD;refine And.intro ⟨by omega,h⟩ ?_)
  |(have lV:IntKind.i64.wrap (i4 - 1)=i4 - 1:=bt (by omega) (by omega);generalize IntKind.i64.wrap (i4 - 1)=j1 at lV⊢;refine And.intro ⟨by omega,by omega⟩ ?_)
  |(refine And.intro (by kernel_rfl) ?_)
  |(refine eW [8] rfl (cT hS (bL ((0:Nat):Int) (partsOf plies)) (hZ _)) rfl (jI rfl (rfl:aF _ (rZ (bL ((0:Nat):Int) (partsOf plies))))) ?_;rintro _ _ ⟨rfl,rfl⟩;obtain⟨zl,hz⟩: ∃zl,zl=cJ (bL ((0:Nat):Int) (partsOf plies)):=⟨_,rfl⟩;rw[←hz];have jG:zl.length≤100000:=(by rw[hz,aQ];exact hZ _);have eD:zl.length=(bL ((0:Nat):Int) (partsOf plies)).length:=(by rw[hz,aQ]))
  |(refine eW [12] rfl (cT hS (bL ((1:Nat):Int) (partsOf plies)) (hZ _)) rfl (jI rfl (rfl:aF _ (rZ (bL ((1:Nat):Int) (partsOf plies))))) ?_;rintro _ _ ⟨rfl,rfl⟩;obtain⟨zl,hz⟩: ∃zl,zl=cJ (bL ((1:Nat):Int) (partsOf plies)):=⟨_,rfl⟩;rw[←hz];have jG:zl.length≤100000:=(by rw[hz,aQ];exact hZ _);have eD:zl.length=(bL ((1:Nat):Int) (partsOf plies)).length:=(by rw[hz,aQ]))
  |(refine eW [16] rfl (cT hS (bL ((2:Nat):Int) (partsOf plies)) (hZ _)) rfl (jI rfl (rfl:aF _ (rZ (bL ((2:Nat):Int) (partsOf plies))))) ?_;rintro _ _ ⟨rfl,rfl⟩;obtain⟨zl,hz⟩: ∃zl,zl=cJ (bL ((2:Nat):Int) (partsOf plies)):=⟨_,rfl⟩;rw[←hz];have jG:zl.length≤100000:=(by rw[hz,aQ];exact hZ _);have eD:zl.length=(bL ((2:Nat):Int) (partsOf plies)).length:=(by rw[hz,aQ]))
  |(refine eW [20] rfl (cT hS (bL ((3:Nat):Int) (partsOf plies)) (hZ _)) rfl (jI rfl (rfl:aF _ (rZ (bL ((3:Nat):Int) (partsOf plies))))) ?_;rintro _ _ ⟨rfl,rfl⟩;obtain⟨zl,hz⟩: ∃zl,zl=cJ (bL ((3:Nat):Int) (partsOf plies)):=⟨_,rfl⟩;rw[←hz];have jG:zl.length≤100000:=(by rw[hz,aQ];exact hZ _);have eD:zl.length=(bL ((3:Nat):Int) (partsOf plies)).length:=(by rw[hz,aQ]))
  |(refine eW [24] rfl (cT hS (bL ((4:Nat):Int) (partsOf plies)) (hZ _)) rfl (jI rfl (rfl:aF _ (rZ (bL ((4:Nat):Int) (partsOf plies))))) ?_;rintro _ _ ⟨rfl,rfl⟩;obtain⟨zl,hz⟩: ∃zl,zl=cJ (bL ((4:Nat):Int) (partsOf plies)):=⟨_,rfl⟩;rw[←hz];have jG:zl.length≤100000:=(by rw[hz,aQ];exact hZ _);have eD:zl.length=(bL ((4:Nat):Int) (partsOf plies)).length:=(by rw[hz,aQ]))
  |(refine eW [28] rfl (cT hS (bL ((5:Nat):Int) (partsOf plies)) (hZ _)) rfl (jI rfl (rfl:aF _ (rZ (bL ((5:Nat):Int) (partsOf plies))))) ?_;rintro _ _ ⟨rfl,rfl⟩;obtain⟨zl,hz⟩: ∃zl,zl=cJ (bL ((5:Nat):Int) (partsOf plies)):=⟨_,rfl⟩;rw[←hz];have jG:zl.length≤100000:=(by rw[hz,aQ];exact hZ _);have eD:zl.length=(bL ((5:Nat):Int) (partsOf plies)).length:=(by rw[hz,aQ]))
  |(refine cj (xs:=rZ zl) (aF.az (aF.az (xs:=rZ zl) rfl _) _) (xd zl) (by rw[cQ];omega) ?_;first|(rintro _ ⟨a6,b6,rfl⟩ kJ;have:=lC)|rintro _ ⟨a5,b5,rfl⟩ lC)
  |exact dz rfl (bS 1 rfl) (bZ rfl) ⟨_,by rw[cS (r:=0) (by omega) hz (cz hi4 lV kJ lC (by omega))]⟩
  |exact dz rfl (bS 1 rfl) (bZ rfl) ⟨_,by rw[cS (r:=1) (by omega) hz (cz hi4 lV kJ lC (by omega))]⟩
  |exact dz rfl (bS 1 rfl) (bZ rfl) ⟨_,by rw[cS (r:=2) (by omega) hz (cz hi4 lV kJ lC (by omega))]⟩
  |exact dz rfl (bS 1 rfl) (bZ rfl) ⟨_,by rw[cS (r:=3) (by omega) hz (cz hi4 lV kJ lC (by omega))]⟩
  |exact dz rfl (bS 1 rfl) (bZ rfl) ⟨_,by rw[cS (r:=4) (by omega) hz (cz hi4 lV kJ lC (by omega))]⟩
  |exact dz rfl (bS 1 rfl) (bZ rfl) ⟨_,by rw[cS (r:=5) (by omega) hz (cz hi4 lV kJ lC (by omega))]⟩
  |(have h7:((6:Nat):Int)≤k:=(by simp at h;omega);exact dz rfl (oC [(8,_,_),(12,_,_),(16,_,_),(20,_,_),(24,_,_),(28,_,_)] rfl rfl rfl rfl ⟨⟨_,rfl,rfl,(cQ _).symm⟩,⟨_,rfl,rfl,(cQ _).symm⟩,⟨_,rfl,rfl,(cQ _).symm⟩,⟨_,rfl,rfl,(cQ _).symm⟩,⟨_,rfl,rfl,(cQ _).symm⟩,⟨_,rfl,rfl,(cQ _).symm⟩,trivial⟩) (bZ rfl) ⟨_,by rw[jo h7 hall]⟩)
  |(have hgd:=eD;clear hgd;apply aO [6,12,13,49,50,51] [(6,0),(6,1),(6,2),(6,3),(6,4),(6,5)] [13] (QN zl) (zl.length) [iV .i64 1];(conv=>whnf);exact⟨rfl,rfl,rfl,rfl⟩;exact rfl;exact rfl;exact⟨1,by omega,by omega,by omega,rfl,qf.one zl⟩;rintro _ _ ⟨i4,hi4,SX,rfl,rfl,nV⟩)
  |(have hgd:=h6;clear hgd;refine au [6,12,13,49,50,51] [(6,0),(6,1),(6,2),(6,3),(6,4),(6,5)] ?_;(conv=>whnf);exact⟨rfl,_,[_],⟨i4+1,by omega,by omega,rfl,by rw[bt (by omega) (by omega)],nV.next hi4 lV kJ lC (by omega)⟩,rfl,(by simp only[eG]<;>rfl),rfl,by omega⟩)
  |(have hgd:=hs;clear hgd;apply ct [6,18,19,20,25,26,27] [(6,0),(6,1),(6,2),(6,3),(6,4),(6,5)] [27] (PO HU6 (partsOf (plies.take i)) ps) (ps.length) [iV .i64 0];(conv=>whnf);exact⟨rfl,rfl,rfl,rfl⟩;exact rfl;exact rfl;exact⟨0,by omega,rfl,rfl,⟨_,_,_,_,_,_,_,_,_,_,_,_,rfl,p0.nil _,p1.nil _,p2.nil _,p3.nil _,p4.nil _,p5.nil _⟩⟩;rintro _ _ _ ⟨j,hj,rfl,rfl,⟨k0,k1,k2,k3,k4,k5,y0,y1,y2,y3,y4,y5,rfl,p0,p1,p2,p3,p4,p5⟩⟩)
  |(have hgd:=cg;clear hgd;refine au [6,18,19,20,25,26,27] [(6,0),(6,1),(6,2),(6,3),(6,4),(6,5)] ?_;(conv=>whnf);first|exact⟨rfl,_,[_],⟨j+1,by omega,rfl,by rw[bt (by omega) (by omega)];rfl,⟨_,_,_,_,_,_,_,_,_,_,_,_,rfl,p0.hit cg (by simp) _,p1.eS cg (by decide) _,p2.eS cg (by decide) _,p3.eS cg (by decide) _,p4.eS cg (by decide) _,p5.eS cg (by decide) _⟩⟩,rfl,rfl,by omega⟩|exact⟨rfl,_,[_],⟨j+1,by omega,rfl,by rw[bt (by omega) (by omega)];rfl,⟨_,_,_,_,_,_,_,_,_,_,_,_,rfl,p0.eS cg (by decide) _,p1.hit cg (by simp) _,p2.eS cg (by decide) _,p3.eS cg (by decide) _,p4.eS cg (by decide) _,p5.eS cg (by decide) _⟩⟩,rfl,rfl,by omega⟩|exact⟨rfl,_,[_],⟨j+1,by omega,rfl,by rw[bt (by omega) (by omega)];rfl,⟨_,_,_,_,_,_,_,_,_,_,_,_,rfl,p0.eS cg (by decide) _,p1.eS cg (by decide) _,p2.hit cg (by simp) _,p3.eS cg (by decide) _,p4.eS cg (by decide) _,p5.eS cg (by decide) _⟩⟩,rfl,rfl,by omega⟩|exact⟨rfl,_,[_],⟨j+1,by omega,rfl,by rw[bt (by omega) (by omega)];rfl,⟨_,_,_,_,_,_,_,_,_,_,_,_,rfl,p0.eS cg (by decide) _,p1.eS cg (by decide) _,p2.eS cg (by decide) _,p3.hit cg (by simp) _,p4.eS cg (by decide) _,p5.eS cg (by decide) _⟩⟩,rfl,rfl,by omega⟩|exact⟨rfl,_,[_],⟨j+1,by omega,rfl,by rw[bt (by omega) (by omega)];rfl,⟨_,_,_,_,_,_,_,_,_,_,_,_,rfl,p0.eS cg (by decide) _,p1.eS cg (by decide) _,p2.eS cg (by decide) _,p3.eS cg (by decide) _,p4.hit cg (by simp) _,p5.eS cg (by decide) _⟩⟩,rfl,rfl,by omega⟩|exact⟨rfl,_,[_],⟨j+1,by omega,rfl,by rw[bt (by omega) (by omega)];rfl,⟨_,_,_,_,_,_,_,_,_,_,_,_,rfl,p0.eS cg (by decide) _,p1.eS cg (by decide) _,p2.eS cg (by decide) _,p3.eS cg (by decide) _,p4.eS cg (by decide) _,p5.hit cg (by simp) _⟩⟩,rfl,rfl,by omega⟩)
  |(have hgd:=hi;clear hgd;apply ct [6,49,50,51] [(6,0),(6,1),(6,2),(6,3),(6,4),(6,5)] [51] (PN HU6 6 (fun r=>bL (r:Int) (partsOf plies))) (6) [iV .i64 0];(conv=>whnf);exact⟨rfl,rfl,rfl,rfl⟩;exact rfl;exact rfl;exact⟨0,by omega,by omega,rfl,rfl,⟨_,_,_,_,_,_,_,_,_,_,_,_,rfl,p0.all (by omega) _,p1.all (by omega) _,p2.all (by omega) _,p3.all (by omega) _,p4.all (by omega) _,p5.all (by omega) _⟩,fun r hr=>by omega⟩;rintro _ _ _ ⟨k,Ff,fE,rfl,rfl,⟨_,_,_,_,_,_,_,_,_,_,_,_,rfl,⟨rfl,rfl⟩,⟨rfl,rfl⟩,⟨rfl,rfl⟩,⟨rfl,rfl⟩,⟨rfl,rfl⟩,⟨rfl,rfl⟩⟩,hall⟩)
  |(have hgd:=eD;clear hgd;refine au [6,49,50,51] [(6,0),(6,1),(6,2),(6,3),(6,4),(6,5)] ?_;(conv=>whnf);first|exact⟨rfl,_,[_],⟨1,by omega,by omega,rfl,rfl,⟨_,_,_,_,_,_,_,_,_,_,_,_,rfl,fD.sort hz rfl (aF.az (aF.az (aF.az (xs:=rZ zl) rfl _) _) _),⟨rfl,aF.az (aF.az (xs:=rZ _) rfl _) _⟩,⟨rfl,aF.az (aF.az (xs:=rZ _) rfl _) _⟩,⟨rfl,aF.az (aF.az (xs:=rZ _) rfl _) _⟩,⟨rfl,aF.az (aF.az (xs:=rZ _) rfl _) _⟩,⟨rfl,aF.az (aF.az (xs:=rZ _) rfl _) _⟩⟩,cC (c:=0) hall hz (nV.all (fI (z:=bL ((0:Nat):Int) (partsOf plies)) h eD))⟩,rfl,rfl,by omega⟩|exact⟨rfl,_,[_],⟨2,by omega,by omega,rfl,rfl,⟨_,_,_,_,_,_,_,_,_,_,_,_,rfl,⟨rfl,aF.az (aF.az (xs:=rZ _) rfl _) _⟩,fD.sort hz rfl (aF.az (aF.az (aF.az (xs:=rZ zl) rfl _) _) _),⟨rfl,aF.az (aF.az (xs:=rZ _) rfl _) _⟩,⟨rfl,aF.az (aF.az (xs:=rZ _) rfl _) _⟩,⟨rfl,aF.az (aF.az (xs:=rZ _) rfl _) _⟩,⟨rfl,aF.az (aF.az (xs:=rZ _) rfl _) _⟩⟩,cC (c:=1) hall hz (nV.all (fI (z:=bL ((1:Nat):Int) (partsOf plies)) h eD))⟩,rfl,rfl,by omega⟩|exact⟨rfl,_,[_],⟨3,by omega,by omega,rfl,rfl,⟨_,_,_,_,_,_,_,_,_,_,_,_,rfl,⟨rfl,aF.az (aF.az (xs:=rZ _) rfl _) _⟩,⟨rfl,aF.az (aF.az (xs:=rZ _) rfl _) _⟩,fD.sort hz rfl (aF.az (aF.az (aF.az (xs:=rZ zl) rfl _) _) _),⟨rfl,aF.az (aF.az (xs:=rZ _) rfl _) _⟩,⟨rfl,aF.az (aF.az (xs:=rZ _) rfl _) _⟩,⟨rfl,aF.az (aF.az (xs:=rZ _) rfl _) _⟩⟩,cC (c:=2) hall hz (nV.all (fI (z:=bL ((2:Nat):Int) (partsOf plies)) h eD))⟩,rfl,rfl,by omega⟩|exact⟨rfl,_,[_],⟨4,by omega,by omega,rfl,rfl,⟨_,_,_,_,_,_,_,_,_,_,_,_,rfl,⟨rfl,aF.az (aF.az (xs:=rZ _) rfl _) _⟩,⟨rfl,aF.az (aF.az (xs:=rZ _) rfl _) _⟩,⟨rfl,aF.az (aF.az (xs:=rZ _) rfl _) _⟩,fD.sort hz rfl (aF.az (aF.az (aF.az (xs:=rZ zl) rfl _) _) _),⟨rfl,aF.az (aF.az (xs:=rZ _) rfl _) _⟩,⟨rfl,aF.az (aF.az (xs:=rZ _) rfl _) _⟩⟩,cC (c:=3) hall hz (nV.all (fI (z:=bL ((3:Nat):Int) (partsOf plies)) h eD))⟩,rfl,rfl,by omega⟩|exact⟨rfl,_,[_],⟨5,by omega,by omega,rfl,rfl,⟨_,_,_,_,_,_,_,_,_,_,_,_,rfl,⟨rfl,aF.az (aF.az (xs:=rZ _) rfl _) _⟩,⟨rfl,aF.az (aF.az (xs:=rZ _) rfl _) _⟩,⟨rfl,aF.az (aF.az (xs:=rZ _) rfl _) _⟩,⟨rfl,aF.az (aF.az (xs:=rZ _) rfl _) _⟩,fD.sort hz rfl (aF.az (aF.az (aF.az (xs:=rZ zl) rfl _) _) _),⟨rfl,aF.az (aF.az (xs:=rZ _) rfl _) _⟩⟩,cC (c:=4) hall hz (nV.all (fI (z:=bL ((4:Nat):Int) (partsOf plies)) h eD))⟩,rfl,rfl,by omega⟩|exact⟨rfl,_,[_],⟨6,by omega,by omega,rfl,rfl,⟨_,_,_,_,_,_,_,_,_,_,_,_,rfl,⟨rfl,aF.az (aF.az (xs:=rZ _) rfl _) _⟩,⟨rfl,aF.az (aF.az (xs:=rZ _) rfl _) _⟩,⟨rfl,aF.az (aF.az (xs:=rZ _) rfl _) _⟩,⟨rfl,aF.az (aF.az (xs:=rZ _) rfl _) _⟩,⟨rfl,aF.az (aF.az (xs:=rZ _) rfl _) _⟩,fD.sort hz rfl (aF.az (aF.az (aF.az (xs:=rZ zl) rfl _) _) _)⟩,cC (c:=5) hall hz (nV.all (fI (z:=bL ((5:Nat):Int) (partsOf plies)) h eD))⟩,rfl,rfl,by omega⟩)
  |(apply iF [6,18,19,20] [(6,0),(6,1),(6,2),(6,3),(6,4),(6,5)] [20] (PP HU6 plies) (plies.length) [iV .i64 0] (dR.trans (dR.fF 24 0 0 2 rfl rfl rfl) (dR.trans (dR.fF 24 1 0 2 rfl rfl rfl) (dR.trans (dR.fF 24 2 0 2 rfl rfl rfl) (dR.trans (dR.fF 24 3 0 2 rfl rfl rfl) (dR.trans (dR.fF 24 4 0 2 rfl rfl rfl) (dR.fF 24 5 0 2 rfl rfl rfl))))));(conv=>whnf);exact⟨rfl,rfl,rfl,rfl⟩;exact rfl;exact rfl;exact⟨0,by omega,rfl,rfl,⟨_,_,_,_,_,_,_,_,_,_,_,_,rfl,⟨rfl,rfl⟩,⟨rfl,rfl⟩,⟨rfl,rfl⟩,⟨rfl,rfl⟩,⟨rfl,rfl⟩,⟨rfl,rfl⟩⟩⟩;rintro _ _ _ ⟨i,hi,rfl,rfl,⟨k0,k1,k2,k3,k4,k5,y0,y1,y2,y3,y4,y5,rfl,p0,p1,p2,p3,p4,p5⟩⟩)
  |(have hgd:=hj;clear hgd;refine au [6,18,19,20] [(6,0),(6,1),(6,2),(6,3),(6,4),(6,5)] ?_;(conv=>whnf);exact⟨rfl,_,[_],⟨i+1,by omega,rfl,by rw[bt (by omega) (by omega)];rfl,⟨_,_,_,_,_,_,_,_,_,_,_,_,rfl,p0.qh hs (by omega) _,p1.qh hs (by omega) _,p2.qh hs (by omega) _,p3.qh hs (by omega) _,p4.qh hs (by omega) _,p5.qh hs (by omega) _⟩⟩,rfl,rfl,by omega⟩))
 all_goals (conv=>whnf)
end Go.aU.Cd
end
section
namespace Go.aU.Cd
open Go Go.Proofs
set_option maxRecDepth 100000
set_option maxHeartbeats 1000000
variable [CE]
def c16:Rc:=Sq (Rg [Bx 4 0,Mk 8 0]) (Sq (Sq (Rg [Fa 15 0 4,Lo 6 16 15,Mv 17 1,Mv 18 2,Mv 19 3,p 20 (.call 32 [t 16,t 17,t 18,t 19]),Mv 9 20]) (Sq (Rg [Mv 21 9,Bi 22 .neq 21 0]) (Cn 22 (Sq (Rg [Mv 23 9,Mv 8 23]) Rt) Sk))) (Sq (Sq (Rg [Fa 24 6 4,Ld 25 24,Le 26 25,Bi 27 .gtr 26 40]) (Cn 27 (Sq (Rg [Mk 8 5]) Rt) Sk)) (Sq (Sq (Rg [Fa 28 6 4,Ld 29 28,Le 30 29,Mk 31 0]) (Bk 0 (Lp (Sq (Rg [Bt 32 .lss 31 30]) (Sq (Cn 32 Sk (Ex 0)) (Sq (Bk 1 (Sq (Rg [Ia 33 2 29 31,Lo 2 34 33,p 11 (.alloc [zi,zn]),So 2 11 34]) (Sq (Rg [Fa 35 0 4,Lo 6 36 35,Mv 37 1,Mv 38 2,Mv 39 3,Lo 2 40 11,p 41 (.call 33 [t 36,t 37,t 38,t 39,t 40]),Mv 12 41]) (Sq (Rg [Mv 42 12,Bi 43 .neq 42 0]) (Cn 43 (Sq (Rg [Mv 44 12,Mv 8 44]) Rt) Sk))))) (Rg [Bi 45 .add 31 1,Mv 31 45]))))))) (Sq (Sq (Rg [Lo 7 47 4,Mv 48 2,p 49 (.call 34 [t 47,t 48]),Mv 46 49,Et 50 46 0,Et 51 46 1,Mv 13 50,Mv 14 51]) (Sq (Rg [Mv 52 14,Nt 53 52]) (Cn 53 (Sq (Rg [Mk 8 14]) Rt) Sk))) (Sq (Rg [Mk 8 0]) Rt)))))
theorem auS:ae Tryz.prog (Tryz.f16.body.getD .skip)=some c16:=by kernel_rfl
theorem axQ:Tryz.f16.body=some (Tryz.f16.body.getD .skip):=rfl
def c22:Rc:=Sq (Rg [Bx 4 0,Bx 5 1,Mn 8,Mk 9 0]) (Sq (Rg [Lo 7 20 4,Fa 21 0 5,Lo 6 22 21,p 23 (.call 15 [t 20,t 22]),Mv 19 23,Et 24 19 0,Et 25 19 1,Mv 10 24,Mv 11 25]) (Sq (Sq (Rg [Mv 26 11,Bi 27 .neq 26 0]) (Cn 27 (Sq (Rg [Mv 28 11,Mn 8,Mv 9 28]) Rt) Sk)) (Sq (Sq (Rg [Lo 7 29 5,Mv 30 10,Mv 31 2,Mv 32 3,p 33 (.call 16 [t 29,t 30,t 31,t 32]),Mv 12 33]) (Sq (Rg [Mv 34 12,Bi 35 .neq 34 0]) (Cn 35 (Sq (Rg [Mv 36 12,Mn 8,Mv 9 36]) Rt) Sk))) (Sq (Rg [Mn 13]) (Sq (Sq (Rg [Fa 37 6 5,Ld 38 37,Le 39 38,Mk 40 0]) (Bk 0 (Lp (Sq (Rg [Bt 41 .lss 40 39]) (Sq (Cn 41 Sk (Ex 0)) (Sq (Bk 1 (Sq (Rg [Mv 42 40,Mv 14 42]) (Sq (Rg [Mv 43 10,Le 44 43,Mk 45 0]) (Bk 2 (Lp (Sq (Rg [Bt 46 .lss 45 44]) (Sq (Cn 46 Sk (Ex 2)) (Sq (Bk 3 (Sq (Rg [Mv 47 45,Ia 48 1 43 45,Ld 49 48,Mv 15 47,Mv 16 49]) (Sq (Rg [Lo 7 51 5,Mv 52 2,Mv 53 14,Mv 54 15,Mv 55 16,p 56 (.call 42 [t 51,t 52,t 53,t 54,t 55]),Mv 50 56,Et 57 50 0,Et 58 50 1,p 17 (.alloc [zi,zi,zi,zi,zn,zb]),So 6 17 57,Mv 18 58]) (Sq (Sq (Rg [Mv 59 18,Bi 60 .neq 59 0]) (Cn 60 (Sq (Rg [Mv 61 18,Mn 8,Mv 9 61]) Rt) Sk)) (Rg [Mv 62 13,Lo 6 63 17,p 64 (.bc [zi,zi,zi,zi,zn,zb] 1 [(0,t 63)]),p 65 (.append 6 64 (t 62) (t 64)),Mv 13 65]))))) (Rg [Bi 66 .add 45 1,Mv 45 66]))))))))) (Rg [Bi 67 .add 40 1,Mv 40 67]))))))) (Sq (Rg [Mv 68 13,Mv 8 68,Mk 9 0]) Rt))))))
theorem auR:ae Tryz.prog (Tryz.f22.body.getD .skip)=some c22:=by kernel_rfl
theorem axP:Tryz.f22.body=some (Tryz.f22.body.getD .skip):=rfl
abbrev zI (plies:Lz):Prop:= ∀e,e∈plies→ ∃l q,e=[tI l, .aA 4 q]∧Bo q
theorem yh (ag:Lz) (hr:ag.length≤6) (ln wd rx ry:Int) (sizes places plies:Lz) (hy:zI plies) (kr:plies.length≤1000000) (hB: ∀e,e∈plies→(nL 1 e).length≤1000) (hT: ∀i,(partsOf (plies.take i)).length≤100000) (dK: ∀e,e∈plies→ ∀q,q∈nL 1 e→0≤nI 0 q∧nI 0 q < (ag.length:Int)):
 Tg 34 [sM ln wd rx ry sizes places plies,oL 7 ag] (M8 ag.length (partsOf plies)):=by
 match ag,hr,dK with
 | [],_,dK=>exact Ri jr ln wd rx ry sizes places plies hy kr hB hT dK
 | [e0],_,dK=>exact Rh jr e0 ln wd rx ry sizes places plies hy kr hB hT dK
 | [e0,e1],_,dK=>exact Rf jr e0 e1 ln wd rx ry sizes places plies hy kr hB hT dK
 | [e0,e1,e2],_,dK=>exact Re jr e0 e1 e2 ln wd rx ry sizes places plies hy kr hB hT dK
 | [e0,e1,e2,e3],_,dK=>exact Rb jr e0 e1 e2 e3 ln wd rx ry sizes places plies hy kr hB hT dK
 | [e0,e1,e2,e3,e4],_,dK=>exact Ra jr e0 e1 e2 e3 e4 ln wd rx ry sizes places plies hy kr hB hT dK
 | [e0,e1,e2,e3,e4,e5],_,dK=>exact Q9 jr e0 e1 e2 e3 e4 e5 ln wd rx ry sizes places plies hy kr hB hT dK
 |_::_::_::_::_::_::_::r,hr,_=>simp at hr
theorem xg {B:Nat}: ∀ {plies:Lz},(∀e,e∈plies→(nL 1 e).length≤B)→(partsOf plies).length≤plies.length * B
 | [],_=>by simp[partsOf]
 |e::r,h=>by
  have h1:=xg (plies:=r) (fun x hx=>h x (List.mem_cons_of_mem _ hx))
  have h2:=h e List.mem_cons_self
  simp only[partsOf,List.flatMap_cons,List.length_append,List.length_cons,Nat.add_mul,Nat.one_mul]at h1⊢
  omega
theorem BW {plies:Lz} (h: ∀e,e∈plies→(nL 1 e).length≤1000) (hl:plies.length≤40) (i:Nat):(partsOf (plies.take i)).length≤100000:=by
 have h1:=xg (plies:=plies.take i) (fun e he=>h e (List.mem_of_mem_take he))
 have h2:(plies.take i).length≤40:=by rw[List.length_take];omega
 have h3:(plies.take i).length * 1000≤40 * 1000:=Nat.mul_le_mul_right _ h2
 omega
def PyL (ln wd:Int) (aq ag aS:Lz) (e:List T):Prop:=zH ln wd aq ag aS (nI 0 e) (nL 1 e)
structure SpL (ln wd:Int) (aq ag aS plies:Lz):Prop where
 cl:ClF ln wd aq ag aS
 n:plies.length≤40
 all: ∀e,e∈plies→PyL ln wd aq ag aS e
 us:wU ag.length (partsOf plies)=true
theorem NQ {ln wd:Int} {aq ag aS:Lz} {e:List T} (h:PyL ln wd aq ag aS e): ∀q,q∈nL 1 e→0≤nI 0 q∧nI 0 q < (ag.length:Int):=by
 intro q hq
 obtain⟨i,hi,rfl⟩:=List.getElem_of_mem hq
 exact(h.all i _ (by simp[hi])).1.1.1
theorem yl (ln wd rx ry:Int) (sizes places plies aq ag aS:Lz) (hp:vU aq) (hR:vZ ag) (zN:ag.length≤6) (hlo:Is aS) (hy:zI plies) (kr:plies.length≤1000000) (hB: ∀e,e∈plies→(nL 1 e).length≤1000):Tg 16 [sM ln wd rx ry sizes places plies,oL 1 aq,oL 7 ag,oL 1 aS] (nN (fun n=>n=0↔SpL ln wd aq ag aS plies)):=by
 refine ah (n:=54) (rs:=[.tmp 8]) Tryz.func16 axQ auS rfl rfl (by simp) ?_
 repeat' (conv=>whnf
          first
  |(refine aD (fun h=>?_) (fun h=>?_))
  |(refine bY (fun h=>?_) (fun h=>?_))
  |(refine aI (fun h=>?_) (fun h=>?_))
  |(refine aC (xs:=plies) hy (by omega) (by omega) ?_;rintro _ ⟨l,ps,rfl,hps⟩ hs)
  |(refine ai rfl (ox ln wd rx ry sizes places aq ag aS hp hR (by simp only[maxLen];omega)) ?_;rintro _ ⟨n,rfl,hn⟩)
  |(refine ai rfl (qx ln wd rx ry sizes places aq ag aS hp hR (by simp only[maxLen];omega) hlo (hn.1 (by assumption)).rs.aS l ps hps (by have h3:ps.length≤1000:=hB _ (List.mem_of_getElem? hs);simp only[maxLen];omega)) ?_;rintro _ ⟨n2,rfl,hn2⟩)
  |(refine ai rfl (yh ag zN ln wd rx ry sizes places plies hy kr hB (BW hB (by omega)) (fun e he=>NQ (hpre.all (by omega) e he))) ?_;rintro _ ⟨z,rfl⟩)
  |exact iP rfl rfl (iff_of_false (by assumption) (fun hh=>absurd (hn.2 hh.cl) (by assumption)))
  |exact iP rfl rfl (iff_of_false (by decide) (fun hh=>by have h1:=hh.n;omega))
  |exact iP rfl rfl (iff_of_false (by assumption) (fun hh=>absurd (hn2.2 (hh.all _ (List.mem_of_getElem? hs))) (by assumption)))
  |exact iP rfl rfl (iff_of_false (by decide) (fun hh=>absurd hh.us (F0 (by assumption))))
  |exact iP rfl rfl (iff_of_true rfl ⟨hn.1 (by assumption),by omega,hpre.all (by omega),mI (by assumption)⟩)
  |(apply bH [1,2,3,4,29,30,31] [] [31] [(4,7)] (RQ2 (PyL ln wd aq ag aS) plies [[[tI ln,tI wd,tI rx,tI ry, .aA 1 sizes, .aA 7 places, .aA 2 plies]]]) (plies.length) [iV .i64 0];(conv=>whnf);exact⟨rfl,rfl,rfl,rfl⟩;exact rfl;exact rfl;exact .cons (aF.az (xs:=[[tI ln,tI wd,tI rx,tI ry, .aA 1 sizes, .aA 7 places, .aA 2 plies]]) rfl _) .nil;exact⟨0,by omega,Pre.zero,rfl,rfl,rfl⟩;rintro _ _ _ ⟨i,hi,hpre,rfl,rfl,rfl⟩)
  |(refine au [1,2,3,4,29,30,31] [] ?_;(conv=>whnf);exact⟨rfl,_,[_],_, .cons (aF.az (xs:=[[tI ln,tI wd,tI rx,tI ry, .aA 1 sizes, .aA 7 places, .aA 2 plies]]) rfl _) .nil,RQ2.next (by omega) (by simp only[maxLen];omega) hpre hs (hn2.1 (by assumption)),rfl,rfl,by omega⟩))
 all_goals (conv=>whnf)
def Hj (ag sizes places:Lz) (e:List T) (i k:Nat) (poly:Lz):List T:=
 [tI (i:Int),tI (k:Int),tI (nI 0 e),tI (nI 0 (lO sizes (nI 0 (lO places (k:Int))))), .aA 1 [[tI (nI 0 (ri (nI 0 e) (nL 1 e) poly))]],tB (Dp (nI 0 e) (nL 1 e) ag poly).1]
abbrev qi (xs:Lz) (i:Nat):List T:=(xs[i]?).getD []
def kz (ag sizes places aq:Lz) (e:List T) (i j:Nat):Lz:=(List.range j).map fun k=>Hj ag sizes places e i k (nL 0 (qi aq k))
def dF (ag sizes places aq plies:Lz) (i:Nat):Lz:=(List.range i).flatMap fun a=>kz ag sizes places aq (qi plies a) a aq.length
def M7 (ag aq:Lz) (e:List T) (k:Nat):Prop:=rA (nI 0 e) (nL 1 e) ag (nL 0 (qi aq k))
structure Bq (pe:Int) (ln wd:Int) (aq ag aS plies:Lz):Prop where
 pe:pe=0
 sp:SpL ln wd aq ag aS plies
 ht: ∀a k,a < plies.length→k < aq.length→M7 ag aq (qi plies a) k
def GPs (ag sizes places aq plies:Lz) (p:Prop) (ts:List W):Prop:= ∃bn e,ts=[oL 6 bn,oI e]∧(e=0↔p)∧(e=0→bn=dF ag sizes places aq plies plies.length)
def RPa (row:List T) (ag sizes places aq plies:Lz) (m:Nat) (vs:List V) (xss:List (Lz)):Prop:= ∃ (i:Nat) (zs:Lz),i≤plies.length∧m=plies.length - i∧vs=[bP 8 6 zs.length,iV .i64 (i:Int)]∧xss=[[row],zs]∧zs=dF ag sizes places aq plies i∧ ∀a k,a < i→k < aq.length→M7 ag aq (qi plies a) k
def RPb (row:List T) (ag sizes places aq plies:Lz) (i:Nat) (m:Nat) (vs:List V) (xss:List (Lz)):Prop:= ∃ (j:Nat) (zs:Lz),j≤aq.length∧m=aq.length - j∧vs=[bP 8 6 zs.length,iV .i64 (j:Int)]∧xss=[[row],zs]∧zs=dF ag sizes places aq plies i++kz ag sizes places aq (qi plies i) i j∧ ∀k,k < j→M7 ag aq (qi plies i) k
theorem sw (ag sizes places aq plies:Lz) (i:Nat):dF ag sizes places aq plies (i+1)=dF ag sizes places aq plies i++kz ag sizes places aq (qi plies i) i aq.length:=by
 simp[dF,List.range_succ]
theorem BN (ag sizes places aq:Lz) (e:List T) (i j:Nat):kz ag sizes places aq e i (j+1)=kz ag sizes places aq e i j++[Hj ag sizes places e i j (nL 0 (qi aq j))]:=by
 simp[kz,List.range_succ]
theorem fM (ag sizes places aq plies:Lz) (i:Nat):(dF ag sizes places aq plies i).length=i * aq.length:=by
 induction i with
 |zero=>simp[dF]
 |succ i ih=>rw[sw,List.length_append,ih,Nat.add_mul];simp[kz]
theorem IR {ag sizes places aq plies zs:Lz} {i j:Nat} (hz:zs=dF ag sizes places aq plies i++kz ag sizes places aq (qi plies i) i j) (hi:i < plies.length) (hl:plies.length≤40) (ji:aq.length≤1000000) (hj:j≤aq.length):zs.length≤50000000:=by
 have h1:i * aq.length≤40 * 1000000:=Nat.mul_le_mul (by omega) ji
 have h2:zs.length=i * aq.length+j:=by rw[hz,List.length_append,fM];simp[kz]
 omega
theorem RPa.next {row:List T} {ag sizes places aq plies zs:Lz} {i j:Nat} (hi:(i:Int) < (plies.length:Int)) (hl:plies.length≤40) (hj:j≤aq.length) (hj2:aq.length≤j) (ji:aq.length≤1000000) (hz:zs=dF ag sizes places aq plies i++kz ag sizes places aq (qi plies i) i j) (h1: ∀a k,a < i→k < aq.length→M7 ag aq (qi plies a) k) (h2: ∀k,k < j→M7 ag aq (qi plies i) k):
 RPa row ag sizes places aq plies (plies.length - (i+1)) [bP 8 6 zs.length,iV .i64 (IntKind.i64.wrap ((i:Int)+1))] [[row],zs]:=by
 have e:j=aq.length:=by omega
 subst e
 refine⟨i+1,zs,by omega,rfl,by rw[bt (by omega) (by omega)];rfl,rfl,by rw[sw];exact hz,fun a k ha hk=>?_⟩
 by_cases hai:a=i
 · subst hai;exact h2 k hk
 · exact h1 a k (by omega) hk
theorem zG {xs:Lz} {i:Nat} {e:List T} (h:xs[i]? =some e):qi xs i=e:=by simp[qi,h]
theorem RPb.next {row:List T} {ag sizes places aq plies zs poly:Lz} {i j n:Nat} {p q l s pE g sz:Int} {gr:List T} {x:T} {d:Bool} {ps:Lz} (hj:(j:Int) < (aq.length:Int)) (ji:aq.length≤1000000) (hz:zs=dF ag sizes places aq plies i++kz ag sizes places aq (qi plies i) i j) (h2: ∀k,k < j→M7 ag aq (qi plies i) k)
 (hy:plies[i]? =some [tI pE, .aA 4 ps]) (Qw:aq[((j:Int)).toNat]? =some [.aA 2 poly]) (Qx:places[((j:Int)).toNat]? =some (tI g::gr)) (hsz:sizes[g.toNat]? =some [tI sz]) (hh:rA pE ps ag poly) (hr:p=(i:Int)∧q=(j:Int)∧l=pE∧s=sz∧x= .aA 1 [[tI (nI 0 (ri pE ps poly))]]∧d=(Dp pE ps ag poly).1) (hn:n=zs.length+1):
 RPb row ag sizes places aq plies i (aq.length - (j+1)) [bP 8 6 n,iV .i64 (IntKind.i64.wrap ((j:Int)+1))] [[row],zs++[[tI p,tI q,tI l,tI s,x,tB d]]]:=by
 have e1:qi plies i=[tI pE, .aA 4 ps]:=zG hy
 have e2:qi aq j=[.aA 2 poly]:=zG (by simpa using Qw)
 have e3:lO places (j:Int)=tI g::gr:=jC Qx
 have e4:lO sizes g=[tI sz]:=jC hsz
 obtain⟨rfl,rfl,rfl,rfl,rfl,rfl⟩:=hr
 refine⟨j+1,_,by omega,rfl,by subst hn;rw[bt (by omega) (by omega)];simp,rfl,?_,fun k hk=>?_⟩
 · rw[BN,hz,List.append_assoc]
   congr 2
   simp only[Hj,e1,e2,e3]
   show [[_,_,_,_,_,_]]=[[_,_,_,tI (nI 0 (lO sizes g)),_,_]]
   rw[e4]
   rfl
 · by_cases hkj:k=j
   · subst hkj
     unfold M7
     rw[e1,e2]
     exact hh
   · exact h2 k (by omega)
theorem NT {pe ln wd:Int} {aq ag aS plies:Lz} {i j:Nat} {pE:Int} {ps poly:Lz} (hi:(i:Int) < (plies.length:Int)) (hj:(j:Int) < (aq.length:Int)) (hy:plies[i]? =some [tI pE, .aA 4 ps]) (Qw:aq[((j:Int)).toNat]? =some [.aA 2 poly]) (h:¬rA pE ps ag poly):¬Bq pe ln wd aq ag aS plies:=fun hh=>by
 have h1:=hh.ht i j (by omega) (by omega)
 unfold M7 at h1
 rw[zG hy,zG (show aq[j]? =some [.aA 2 poly] by simpa using Qw)]at h1
 exact h h1
theorem NR {plies:Lz} (hy:zI plies) {i:Nat} (hi:(i:Int) < (plies.length:Int)): ∃pE ps,plies[i]? =some [tI pE, .aA 4 ps]∧Bo ps:=by
 have hlt:i < plies.length:=by omega
 obtain⟨pE,ps,h1,h2⟩:=hy _ (List.getElem_mem hlt)
 exact⟨pE,ps,by rw[←h1];simp[hlt],h2⟩
theorem FW {places sizes:Lz} (hp:PW places) (hz:Is sizes) (hg:CI sizes.length places) {j:Nat} (hj:(j:Int) < (places.length:Int)): ∃g u k f q x y sz,places[((j:Int)).toNat]? =some [tI g,tI u,tI k,tB f,tI q,tI x,tI y]∧0≤g∧sizes[g.toNat]? =some [tI sz]:=by
 have hlt:j < places.length:=by omega
 obtain⟨g,u,k,f,q,x,y,h1⟩:=hp _ (List.getElem_mem hlt)
 have hs:places[j]? =some [tI g,tI u,tI k,tB f,tI q,tI x,tI y]:=by rw[←h1];simp[hlt]
 obtain⟨h2,h3⟩:=GH hg hs
 have QD:g.toNat < sizes.length:=by omega
 obtain⟨sz,h4⟩:=hz _ (List.getElem_mem QD)
 exact⟨g,u,k,f,q,x,y,sz,by simpa using hs,h2,by rw[←h4];simp[QD]⟩
theorem vD (sn:ByteArray) (bz ms ps us ss os:Lz) (hS:iW sn bz ms ps us ss os) (ln wd rx ry:Int) (sizes places plies ag aS:Lz) (hz:Is sizes) (jG:sizes.length≤maxLen) (ji:PW places) (SI:places.length≤1000000) (hR:vZ ag) (zN:ag.length≤6) (hlo:Is aS) (hy:zI plies) (kr:plies.length≤1000000) (hB: ∀e,e∈plies→(nL 1 e).length≤1000) (aq:Lz) (pe:Int) (Qv:Te 15 [mc sn bz ms ps us ss os,Km ln wd rx ry sizes places] [oL 1 aq,oI pe]) (Fh:pe=0→Bw sizes places bz.length aq):Tg 22 [mc sn bz ms ps us ss os,sM ln wd rx ry sizes places plies,oL 7 ag,oL 1 aS] (GPs ag sizes places aq plies (Bq pe ln wd aq ag aS plies)):=by
 refine aL ?_
 refine ah (n:=69) (rs:=[.tmp 8, .tmp 9]) Tryz.func22 axP auR rfl rfl (by simp) ?_
 repeat' (conv=>whnf
          first
  |(refine aD (fun h=>?_) (fun h=>?_))
  |(refine bY (fun h=>?_) (fun h=>?_))
  |(have h7:=(Fh (by assumption)).2.1;refine aC (xs:=aq) (Fh (by assumption)).1 (by omega) (by omega) ?_;rintro _ ⟨poly,rfl,anZ,anY⟩ Qw;obtain⟨pE,pp,hyi,hpq⟩:=NR hy (i:=i) (by omega);have anX:pp.length≤maxLen:=(by have h3:pp.length≤1000:=hB _ (List.mem_of_getElem? hyi);simp only[maxLen];omega);obtain⟨g,u,k,f,q,x,y,sz,Qx,BB,hsz⟩:=FW ji hz (Fh (by assumption)).2.2.1 (j:=j) (by omega))
  |(have h7:=(Fh (by assumption)).2.1;have h8:=(hn.1 (by assumption)).n;have h9:=IR Og (plies:=plies) (by omega) h8 (by omega) hj;refine And.intro ⟨by simp[tr],by simp[tr,aX];omega,by simp[tr,maxLen];omega⟩ ?_)
  |(refine ai rfl (Qv) ?_;rintro _ rfl)
  |(refine ai rfl (yl ln wd rx ry sizes places plies aq ag aS (Fh (by assumption)).1 hR zN hlo hy kr hB) ?_;rintro _ ⟨n,rfl,hn⟩)
  |(refine ai rfl (tc ln wd rx ry sizes places plies ag poly hR anZ anY (i:Int) (j:Int) pE g u k q x y sz f pp hpq anX (by omega) (by simpa using hyi) (by omega) Qx BB hsz) ?_;rintro _ ⟨p1,q1,l1,s1,x1,d1,e1,rfl,Oy,SY⟩)
  |exact dz rfl (bS 6 rfl) (bZ rfl) ⟨_,_,rfl,iff_of_false (by assumption) (fun hh=>absurd hh.pe (by assumption)),fun h0=>absurd h0 (by assumption)⟩
  |exact dz rfl (bS 6 rfl) (bZ rfl) ⟨_,_,rfl,iff_of_false (by assumption) (fun hh=>absurd (hn.2 hh.sp) (by assumption)),fun h0=>absurd h0 (by assumption)⟩
  |exact dz rfl (bS 6 rfl) (bZ rfl) ⟨_,_,rfl,iff_of_false (by assumption) (NT (i:=i) (j:=j) (by omega) (by omega) hyi Qw (fun hh=>absurd (Oy.2 hh) (by assumption))),fun h0=>absurd h0 (by assumption)⟩
  |exact dz rfl (fA rfl rfl (xs:=zs) rfl (by omega)) (bZ rfl) ⟨_,_,rfl,iff_of_true rfl ⟨by assumption,hn.1 (by assumption),fun a k ha hk=>hha a k (by omega) hk⟩,fun _=>by rw[gA rfl,hzs,show plies.length=i by omega]⟩
  |(apply bH [2,5,10,13,14,39,40,43,44,45] [] [13,45] [(4,7),(8,6)] (RPb (Ek ln wd rx ry sizes places plies) ag sizes places aq plies i) (aq.length) [bP 8 6 zs.length,iV .i64 0];(conv=>whnf);exact⟨rfl,rfl,rfl,rfl⟩;exact rfl;exact rfl;exact .cons (aF.az (xs:=[Ek ln wd rx ry sizes places plies]) rfl _) (.cons (aF.az (xs:=zs) rfl _) .nil);exact⟨0,zs,by omega,rfl,rfl,rfl,by simpa[kz]using hzs,fun k hk=>by omega⟩;rintro _ _ _ ⟨j,J9,hj,rfl,rfl,rfl,Og,hhb⟩)
  |(refine au [2,5,10,13,14,39,40,43,44,45] [] ?_;(conv=>whnf);exact⟨rfl,_,[_,_],_, .cons (aF.az (xs:=[Ek ln wd rx ry sizes places plies]) rfl _) (.cons (aF.az (aF.snoc (xs:=J9) rfl [tI _,tI _,tI _,tI _,_,tB _]) _) .nil),RPb.next (by omega) (by have:=(Fh (by assumption)).2.1;omega) Og hhb hyi Qw Qx hsz (Oy.1 (by assumption)) (SY (by assumption)) (by simp[tr]),rfl,rfl,by omega⟩)
  |(apply eN [2,5,10,13,39,40] [] [13,40] [(4,7),(8,6)] (RPa (Ek ln wd rx ry sizes places plies) ag sizes places aq plies) (plies.length) [bP 8 6 0,iV .i64 0] (dR.jn 13 6 rfl);(conv=>whnf);exact⟨rfl,rfl,rfl,rfl⟩;exact rfl;exact rfl;exact .cons (aF.az (xs:=[Ek ln wd rx ry sizes places plies]) rfl _) (.cons (aF.az aF.nil _) .nil);exact⟨0,[],by omega,rfl,rfl,rfl,rfl,fun a k ha=>by omega⟩;rintro _ _ _ ⟨i,zs,hi,rfl,rfl,rfl,hzs,hha⟩)
  |(refine au [2,5,10,13,39,40] [] ?_;(conv=>whnf);exact⟨rfl,_,[_,_],_, .cons (aF.az (xs:=[Ek ln wd rx ry sizes places plies]) rfl _) (.cons (aF.az (xs:=J9) rfl _) .nil),RPa.next (by omega) (hn.1 (by assumption)).n hj (by omega) (by have:=(Fh (by assumption)).2.1;omega) Og hha hhb,rfl,rfl,by omega⟩))
 all_goals (conv=>whnf)
end Go.aU.Cd
end
section
namespace Go.aU.Cd
open Go Go.Proofs
set_option maxRecDepth 100000
set_option maxHeartbeats 1000000
def c37:Rc:=Sq (Rg [Bx 2 0,Mb 4 false]) (Sq (Sq (Rg [Fa 10 3 2,Ld 11 10,Le 12 11,Bi 13 .gtr 12 4,Mv 14 13,Ga 14 (Fa 15 4 2),Ga 14 (Ld 16 15),Ga 14 (Le 17 16),Ga 14 (Bi 18 .gtr 17 4),Pt 19 14 18,Mv 20 19,Ga 20 (Fa 21 1 2),Ga 20 (Ld 22 21),Ga 20 (Le 23 22),Ga 20 (Bi 24 .gtr 23 4),Pt 25 20 24,Mv 26 25,Ga 26 (Fa 27 2 2),Ga 26 (Ld 28 27),Ga 26 (Le 29 28),Ga 26 (Bi 30 .gtr 29 4),Pt 31 26 30,Mv 32 31,Ga 32 (Fa 33 5 2),Ga 32 (Ld 34 33),Ga 32 (Le 35 34),Ga 32 (Bi 36 .gtr 35 6),Pt 37 32 36,Mv 38 37,Ga 38 (Fa 39 6 2),Ga 38 (Ld 40 39),Ga 38 (Le 41 40),Ga 38 (Bi 42 .gtr 41 8),Pt 43 38 42,Mv 44 43,Ga 44 (Mv 45 1),Ga 44 (Bi 46 .lss 45 0),Pt 47 44 46,Mv 48 47,Ga 48 (Mv 49 1),Ga 48 (Bi 50 .gtr 49 7),Pt 51 48 50]) (Cn 51 (Sq (Rg [Mb 4 false]) Rt) Sk)) (Sq (Sq (Rg [Mk 5 0]) (Bk 0 (Lp (Sq (Sq (Rg [Mv 52 5,Fa 53 3 2,Ld 54 53,Le 55 54,Bt 56 .lss 52 55]) (Cn 56 Sk (Ex 0))) (Sq (Bk 1 (Sq (Rg [Mk 6 0]) (Sq (Sq (Rg [Mk 7 0]) (Bk 2 (Lp (Sq (Sq (Rg [Mv 59 7,Fa 60 3 2,Ld 61 60,Mv 62 5,Ia 63 7 61 62,Fa 64 1 63,Ld 65 64,Le 66 65,Bt 67 .lss 59 66,Mv 68 67,Gb 68 (Mv 69 7),Gb 68 (Bi 70 .lss 69 17),Pf 71 68 70]) (Cn 71 Sk (Ex 2))) (Sq (Bk 3 (Rg [Mv 74 6,Fa 75 3 2,Ld 76 75,Mv 77 5,Ia 78 7 76 77,Fa 79 1 78,Ld 80 79,Mv 81 7,Ia 82 2 80 81,Fa 83 1 82,Ld 84 83,Le 85 84,p 86 (.mu (t 85) (k 20)),Bt 87 .add 74 86,Mv 6 87])) (Rg [Mv 72 7,Bi 73 .add 72 1,Mv 7 73])))))) (Sq (Rg [Mv 88 6,Bi 89 .gtr 88 24,Mv 90 89,Ga 90 (Fa 91 3 2),Ga 90 (Ld 92 91),Ga 90 (Mv 93 5),Ga 90 (Ia 94 7 92 93),Ga 90 (Fa 95 1 94),Ga 90 (Ld 96 95),Ga 90 (Le 97 96),Ga 90 (Bi 98 .gtr 97 16),Pt 99 90 98,Mv 100 99,Ga 100 (Fa 101 3 2),Ga 100 (Ld 102 101),Ga 100 (Mv 103 5),Ga 100 (Ia 104 7 102 103),Ga 100 (Fa 105 3 104),Ga 100 (Ld 106 105),Ga 100 (Le 107 106),Ga 100 (Bi 108 .gtr 107 16),Pt 109 100 108]) (Cn 109 (Sq (Rg [Mb 4 false]) Rt) Sk))))) (Rg [Mv 57 5,Bi 58 .add 57 1,Mv 5 58])))))) (Sq (Rg [Mk 8 0]) (Sq (Sq (Rg [Mk 9 0]) (Bk 4 (Lp (Sq (Sq (Rg [Mv 110 9,Fa 111 4 2,Ld 112 111,Le 113 112,Bt 114 .lss 110 113]) (Cn 114 Sk (Ex 4))) (Sq (Bk 5 (Rg [Mv 117 8,Fa 118 4 2,Ld 119 118,Mv 120 9,Ia 121 3 119 120,Fa 122 1 121,Ld 123 122,p 124 (.nA (t 123) (k 0)),p 125 (.mu (t 124) (k 9)),Bt 126 .add 117 125,Mv 8 126])) (Rg [Mv 115 9,Bi 116 .add 115 1,Mv 9 116])))))) (Sq (Rg [Mv 127 8,Mv 128 1,Bt 129 .mul 127 128,Bi 130 .leq 129 6,Mv 4 130]) Rt)))))
theorem auJ:ae Tryz.prog (Tryz.f37.body.getD .skip)=some c37:=by kernel_rfl
theorem axH:Tryz.f37.body=some (Tryz.f37.body.getD .skip):=rfl
def RTn (lay:List T) (N:Nat) (m:Nat) (vs:List V) (xss:List (Lz)):Prop:= ∃i:Nat,i≤N∧m=N - i∧vs=[iV .i64 (i:Int)]∧xss=[[lay]]
theorem RTn.next {lay:List T} {N i:Nat} (hi:(i:Int) < (N:Int)) (hl:N≤maxLen):RTn lay N (N - (i+1)) [iV .i64 (IntKind.i64.wrap ((i:Int)+1))] [[lay]]:=
 ⟨i+1,by omega,rfl,by simp only[maxLen]at hl;rw[bt (by omega) (by omega)];rfl,rfl⟩
theorem Ng {xs:Lz} {e:List T} {n:Int} {K:List T→Prop} (h:xs[n.toNat]? =some e) (h0:0≤n) (hk:K e):0≤n∧ ∃e,xs[n.toNat]? =some e∧K e:=⟨h0,e,h,hk⟩
def QO (row:List T) (N:Nat) (m:Nat) (vs:List V) (xss:List (Lz)):Prop:= ∃ (i:Nat) (s:Int),i≤N∧m=N - i∧vs=[iV .i64 s,iV .i64 (i:Int)]∧xss=[[row]]
theorem QO.next {row:List T} {N i:Nat} {s:Int} (hi:(i:Int) < (N:Int)) (hl:N≤maxLen):QO row N (N - (i+1)) [iV .i64 s,iV .i64 (IntKind.i64.wrap ((i:Int)+1))] [[row]]:=
 ⟨i+1,s,by omega,rfl,by simp only[maxLen]at hl;rw[bt (by omega) (by omega)];rfl,rfl⟩
theorem oQ (sn:ByteArray) (bz ms ps us ss os:Lz) (hS:iW sn bz ms ps us ss os) (g:Int):Tg 37 [mc sn bz ms ps us ss os,oI g] GB:=by
 have ji:=hS.ji
 have HY:=hS.HY
 refine ah (n:=131) (rs:=[.tmp 4]) Tryz.func37 axH auJ rfl rfl (by simp) ?_
 repeat' (conv=>whnf
          first
  |(refine aD (fun h=>?_) (fun h=>?_))
  |(refine Ng hs (by omega) ?_)
  |(refine aC (xs:=es) jF (by omega) (by omega) ?_;rintro _ ⟨ed,ln,rfl,hed,hln,aFp⟩ cg)
  |(refine aC (xs:=us) hS.fZ (by omega) (by omega) ?_;rintro _ ⟨a,b,c,rfl⟩ HZ)
  |(refine aC (xs:=ps) hS.hps (by omega) (by omega) ?_;rintro _ ⟨nm,es,g2,ns,cs,ws,mt,rfl,hnm,⟨jF,hem⟩,⟨hn,hnl⟩,⟨hcs,aFz⟩,hw,zM⟩ hs)
  |exact gB rfl rfl
  |(apply bH [1,2,8,9] [] [8,9] [(4,7)] (QO (ov sn bz ms ps us ss os) us.length) (us.length) [iV .i64 0,iV .i64 0];(conv=>whnf);exact⟨rfl,rfl,rfl,rfl⟩;exact rfl;exact rfl;exact .cons (aF.az (xs:=[ov sn bz ms ps us ss os]) rfl _) .nil;exact⟨0,0,by omega,rfl,rfl,rfl⟩;rintro _ _ _ ⟨k,sm,hk,rfl,rfl,rfl⟩)
  |(refine au [1,2,8,9] [] ?_;(conv=>whnf);exact⟨rfl,_,[_,_],_, .cons (aF.az (xs:=[ov sn bz ms ps us ss os]) rfl _) .nil,QO.next (by omega) HY,rfl,rfl,by omega⟩)
  |(apply bH [1,2,5,6,7] [] [6,7] [(4,7)] (QO (ov sn bz ms ps us ss os) 17) (17) [iV .i64 0,iV .i64 0];(conv=>whnf);exact⟨rfl,rfl,rfl,rfl⟩;exact rfl;exact rfl;exact .cons (aF.az (xs:=[ov sn bz ms ps us ss os]) rfl _) .nil;exact⟨0,0,by omega,rfl,rfl,rfl⟩;rintro _ _ _ ⟨j,sm,hj,rfl,rfl,rfl⟩)
  |(refine au [1,2,5,6,7] [] ?_;(conv=>whnf);exact⟨rfl,_,[_,_],_, .cons (aF.az (xs:=[ov sn bz ms ps us ss os]) rfl _) .nil,QO.next (by omega) (by decide),rfl,rfl,by omega⟩)
  |(apply bH [1,2,5] [] [5] [(4,7)] (RTn (ov sn bz ms ps us ss os) ps.length) (ps.length) [iV .i64 0];(conv=>whnf);exact⟨rfl,rfl,rfl,rfl⟩;exact rfl;exact rfl;exact .cons (aF.az (xs:=[ov sn bz ms ps us ss os]) rfl _) .nil;exact⟨0,by omega,rfl,rfl,rfl⟩;rintro _ _ _ ⟨i,hi,rfl,rfl,rfl⟩)
  |(refine au [1,2,5] [] ?_;(conv=>whnf);exact⟨rfl,_,[_],_, .cons (aF.az (xs:=[ov sn bz ms ps us ss os]) rfl _) .nil,RTn.next (by omega) ji,rfl,rfl,by omega⟩))
 all_goals (conv=>whnf)
end Go.aU.Cd
end
section
namespace Go.aU.Cd
open Go Go.Proofs
set_option maxRecDepth 100000
set_option maxHeartbeats 1000000
variable [CE]
def c47:Rc:=Sq (Rg [Mb 6 false]) (Sq (Sq (Rg [Mv 10 0,Le 11 10,Bi 12 .gtr 11 12,Mv 13 12,Ga 13 (Mv 14 1),Ga 13 (Le 15 14),Ga 13 (Bi 16 .gtr 15 6),Pt 17 13 16,Mv 18 17,Ga 18 (Mv 19 2),Ga 18 (Le 20 19),Ga 18 (Bi 21 .gtr 20 6),Pt 22 18 21]) (Cn 22 (Sq (Rg [Mb 6 false]) Rt) Sk)) (Sq (Sq (Rg [Mk 7 0]) (Bk 0 (Lp (Sq (Sq (Rg [Mv 23 7,Mv 24 0,Le 25 24,Bt 26 .lss 23 25]) (Cn 26 Sk (Ex 0))) (Sq (Bk 1 (Sq (Rg [Mv 29 0,Mv 30 7,Ia 31 2 29 30,Fa 32 1 31,Ld 33 32,Le 34 33,Bi 35 .gtr 34 6]) (Cn 35 (Sq (Rg [Mb 6 false]) Rt) Sk))) (Rg [Mv 27 7,Bi 28 .add 27 1,Mv 7 28])))))) (Sq (Sq (Rg [Mk 8 0]) (Bk 2 (Lp (Sq (Sq (Rg [Mv 36 8,Mv 37 1,Le 38 37,Bt 39 .lss 36 38]) (Cn 39 Sk (Ex 2))) (Sq (Bk 3 (Sq (Rg [Mv 42 1,Mv 43 8,Ia 44 7 42 43,Fa 45 6 44,Ld 46 45,Le 47 46,Bi 48 .gtr 47 6,Mv 49 48,Ga 49 (Mv 50 1),Ga 49 (Mv 51 8),Ga 49 (Ia 52 7 50 51),Ga 49 (Fa 53 0 52),Ga 49 (Ld 54 53),Ga 49 (p 55 (.nC (t 54))),Ga 49 (Bi 56 .gtr 55 50),Pt 57 49 56]) (Cn 57 (Sq (Rg [Mb 6 false]) Rt) Sk))) (Rg [Mv 40 8,Bi 41 .add 40 1,Mv 8 41])))))) (Sq (Sq (Rg [Mk 9 0]) (Bk 4 (Lp (Sq (Sq (Rg [Mv 58 9,Mv 59 2,Le 60 59,Bt 61 .lss 58 60]) (Cn 61 Sk (Ex 4))) (Sq (Bk 5 (Sq (Rg [Mv 64 2,Mv 65 9,Ia 66 1 64 65,Ld 67 66,Le 68 67,Bi 69 .gtr 68 10]) (Cn 69 (Sq (Rg [Mb 6 false]) Rt) Sk))) (Rg [Mv 62 9,Bi 63 .add 62 1,Mv 9 63])))))) (Sq (Rg [Mb 6 true]) Rt)))))
theorem auH:ae Tryz.prog (Tryz.f47.body.getD .skip)=some c47:=by kernel_rfl
theorem axF:Tryz.f47.body=some (Tryz.f47.body.getD .skip):=rfl
def c26:Rc:=Sq (Rg [Bx 4 0,Bx 5 1,Mb 8 false]) (Sq (Rg [Lo 7 9 4,Fa 10 0 5,Fa 11 4 10,Ld 12 11,Le 13 12,p 14 (.call 37 [t 9,t 13]),Mv 15 14,Gb 15 (Fa 16 0 5),Gb 15 (Fa 17 5 16),Gb 15 (Ld 18 17),Gb 15 (Le 19 18),Gb 15 (Bi 20 .leq 19 20),Pf 21 15 20,Mv 22 21,Gb 22 (Mv 23 3),Gb 22 (Le 24 23),Gb 22 (Bi 25 .leq 24 12),Pf 26 22 25,Mv 27 26,Gb 27 (Fa 28 6 5),Gb 27 (Ld 29 28),Gb 27 (Mv 30 2),Gb 27 (p 31 (.call 47 [t 29,t 30,kn])),Pf 32 27 31,Mv 8 32]) Rt)
theorem auQ:ae Tryz.prog (Tryz.f26.body.getD .skip)=some c26:=by kernel_rfl
theorem axO:Tryz.f26.body=some (Tryz.f26.body.getD .skip):=rfl
def c8:Rc:=Sq (Rg [Bx 1 0,Mb 2 false]) (Sq (Rg [Fa 3 0 1,Lo 7 4 3,Fa 5 7 1,Lo 7 6 5,Fa 7 14 1,Ld 8 7,Fa 9 15 1,Ld 10 9,p 11 (.call 26 [t 4,t 6,t 8,t 10]),Mv 2 11]) Rt)
theorem ck8:ae Tryz.prog (Tryz.f8.body.getD .skip)=some c8:=by kernel_rfl
theorem bk8:Tryz.f8.body=some (Tryz.f8.body.getD .skip):=rfl
def c10:Rc:=Sq (Rg [Bx 1 0,Mn 2,Mk 3 0]) (Sq (Rg [Fa 4 0 1,Lo 7 5 4,Fa 6 7 1,Lo 7 7 6,Fa 8 14 1,Ld 9 8,Fa 10 15 1,Ld 11 10,p 12 (.call 22 [t 5,t 7,t 9,t 11]),Et 13 12 0,Et 14 12 1,Mv 2 13,Mv 3 14]) Rt)
theorem auV:ae Tryz.prog (Tryz.f10.body.getD .skip)=some c10:=by kernel_rfl
theorem axT:Tryz.f10.body=some (Tryz.f10.body.getD .skip):=rfl
def c13:Rc:=Sq (Rg [Mk 4 0]) (Sq (Rg [Mk 5 0]) (Sq (Sq (Rg [Mv 8 0,Le 9 8,Mk 10 0]) (Bk 0 (Lp (Sq (Rg [Bt 11 .lss 10 9]) (Sq (Cn 11 Sk (Ex 0)) (Sq (Bk 1 (Sq (Rg [Ia 12 6 8 10,Lo 6 13 12,p 7 (.alloc [zi,zi,zi,zi,zn,zb]),So 6 7 13]) (Sq (Rg [Fa 14 3 7,Ld 15 14,Mv 16 1,Bt 17 .eql 15 16,Mv 18 17,Gb 18 (Fa 19 5 7),Gb 18 (Ld 20 19),Gb 18 (Nt 21 20),Pf 22 18 21]) (Cn 22 (Rg [Mv 23 5,Bi 24 .add 23 1,Mv 5 24]) Sk)))) (Rg [Bi 25 .add 10 1,Mv 10 25]))))))) (Sq (Rg [Mv 26 5,Mv 4 26]) Rt)))
def Pq6 (e:List T):Prop:=(nL 1 e).length≤6
structure FwS (np nr:Nat) (plies:Lz):Prop where
 p:np≤12
 r:nr≤6
 q: ∀e,e∈plies→Pq6 e
theorem qP (plies ag:Lz) (hy:zI plies) (kr:plies.length≤maxLen) (hR:vZ ag) (zN:ag.length≤maxLen):Tg 47 [oL 2 plies,oL 7 ag, .one (.t iu)] (GBt (FwS plies.length ag.length plies)):=by
 refine ah (n:=70) (rs:=[.tmp 6]) Tryz.func47 axF auH rfl rfl (by simp) ?_
 repeat' (conv=>whnf
          first
  |(refine aD (fun h=>?_) (fun h=>?_))
  |(refine aC (xs:=plies) hy (by omega) (by omega) ?_;rintro _ ⟨l,q,rfl,hq⟩ hs)
  |(refine aC (xs:=ag) hR (by omega) (by omega) ?_;rintro _ ⟨id,w1,l1,a2,b2,c2,fl,rfl,bN,hfl,EE⟩ qM)
  |exact QJ rfl rfl (fun hb=>absurd hb (by decide))
  |exact QJ rfl rfl (fun _=>⟨by omega,by omega,hp.all (by omega)⟩)
  |(apply aO [2,9] [] [9] (RI 0) (0) [iV .i64 0];(conv=>whnf);exact⟨rfl,rfl,rfl,rfl⟩;exact rfl;exact rfl;exact RI.zero;rintro _ _ ⟨i3,hi3,rfl,rfl⟩)
  |(apply aO [1,2,8] [] [8] (RI ag.length) (ag.length) [iV .i64 0];(conv=>whnf);exact⟨rfl,rfl,rfl,rfl⟩;exact rfl;exact rfl;exact RI.zero;rintro _ _ ⟨i2,hi2,rfl,rfl⟩)
  |(refine au [1,2,8] [] ?_;(conv=>whnf);exact⟨rfl,_,[_],RI.succ (N:=ag.length) (i:=i2) (by omega) zN,rfl,rfl,rfl,by omega⟩)
  |(apply aO [0,1,2,7] [] [7] (RQ Pq6 plies) (plies.length) [iV .i64 0];(conv=>whnf);exact⟨rfl,rfl,rfl,rfl⟩;exact rfl;exact rfl;exact RQ.zero;rintro _ _ ⟨i,hi,hp,rfl,rfl⟩)
  |(refine au [0,1,2,7] [] ?_;(conv=>whnf);exact⟨rfl,_,[_],RQ.next (by omega) kr hp hs (show q.length≤6 by omega),rfl,rfl,rfl,by omega⟩))
 all_goals (conv=>whnf)
structure QX (sizes places plies ag aS:Lz):Prop where
 q:places.length≤20
 l:aS.length≤12
 f:FwS plies.length ag.length plies
theorem qO (sn:ByteArray) (bz ms ps us ss os:Lz) (hS:iW sn bz ms ps us ss os) (ln wd rx ry:Int) (sizes places plies ag aS:Lz) (hy:zI plies) (kr:plies.length≤maxLen) (hR:vZ ag) (zN:ag.length≤maxLen):Tg 26 [mc sn bz ms ps us ss os,sM ln wd rx ry sizes places plies,oL 7 ag,oL 1 aS] (GBt (QX sizes places plies ag aS)):=by
 refine ah (n:=33) (rs:=[.tmp 8]) Tryz.func26 axO auQ rfl rfl (by simp) ?_
 repeat' (conv=>whnf
          first
  |(refine aD (fun h=>?_) (fun h=>?_))
  |(refine aI (fun h=>?_) (fun h=>?_))
  |(refine ai rfl (oQ sn bz ms ps us ss os hS _) ?_;rintro _ ⟨b1,rfl⟩)
  |(refine ai rfl (qP plies ag hy kr hR zN) ?_;rintro _ ⟨b2,rfl,kU⟩)
  |exact QJ rfl rfl (fun hb=>absurd hb (by decide))
  |exact QJ rfl rfl (fun hb=>⟨by omega,by omega,kU hb⟩))
 all_goals (conv=>whnf)
abbrev N1 (sn:ByteArray) (bz ms ps us ss os:Lz) (ln wd rx ry:Int) (sizes places plies ag aS:Lz):W:=
 .agg [.t (.val (.string sn)), .t (.aA 1 bz), .t (.aA 1 ms), .t (.aA 7 ps), .t (.aA 3 us), .t (.aA 6 ss), .t (.aA 5 os), .t (tI ln), .t (tI wd), .t (tI rx), .t (tI ry), .t (.aA 1 sizes), .t (.aA 7 places), .t (.aA 2 plies), .t (.aA 7 ag), .t (.aA 1 aS)]
abbrev ctT (sn:ByteArray) (bz ms ps us ss os:Lz) (ln wd rx ry:Int) (sizes places plies ag aS:Lz):List T:=
 [.val (.string sn), .aA 1 bz, .aA 1 ms, .aA 7 ps, .aA 3 us, .aA 6 ss, .aA 5 os,tI ln,tI wd,tI rx,tI ry, .aA 1 sizes, .aA 7 places, .aA 2 plies, .aA 7 ag, .aA 1 aS]
theorem kM (sn:ByteArray) (bz ms ps us ss os:Lz) (hS:iW sn bz ms ps us ss os) (ln wd rx ry:Int) (sizes places plies ag aS:Lz) (hy:zI plies) (kr:plies.length≤maxLen) (hR:vZ ag) (zN:ag.length≤maxLen):Tg 8 [N1 sn bz ms ps us ss os ln wd rx ry sizes places plies ag aS] (GBt (QX sizes places plies ag aS)):=by
 refine ah (n:=12) (rs:=[.tmp 2]) Tryz.func8 bk8 ck8 rfl rfl (by simp) ?_
 repeat' (conv=>whnf
          first
  |(refine ai rfl (qO sn bz ms ps us ss os hS ln wd rx ry sizes places plies ag aS hy kr hR zN) ?_;rintro _ ⟨b2,rfl,kU⟩)
  |exact QJ rfl rfl kU)
 all_goals (conv=>whnf)
structure CK (sn:ByteArray) (bz ms ps us ss os sizes places plies ag aS:Lz):Prop where
 Rp:iW sn bz ms ps us ss os
 hz:Is sizes
 jG:sizes.length≤maxLen
 hp:PW places
 ji:places.length≤maxLen
 hy:zI plies
 kr:plies.length≤maxLen
 hR:vZ ag
 zN:ag.length≤maxLen
 hlo:Is aS
theorem nG (sn:ByteArray) (bz ms ps us ss os:Lz) (ln wd rx ry:Int) (sizes places plies ag aS:Lz) (hC:CK sn bz ms ps us ss os sizes places plies ag aS) (hF:QX sizes places plies ag aS) (aq:Lz) (pe:Int) (Qv:Te 15 [mc sn bz ms ps us ss os,Km ln wd rx ry sizes places] [oL 1 aq,oI pe]) (Fh:pe=0→Bw sizes places bz.length aq):Tg 10 [N1 sn bz ms ps us ss os ln wd rx ry sizes places plies ag aS] (GPs ag sizes places aq plies (Bq pe ln wd aq ag aS plies)):=by
 refine aL ?_
 refine ah (n:=15) (rs:=[.tmp 2, .tmp 3]) Tryz.func10 axT auV rfl rfl (by simp) ?_
 repeat' (conv=>whnf
          first
  |(refine ai rfl (vD sn bz ms ps us ss os hC.Rp ln wd rx ry sizes places plies ag aS hC.hz hC.jG hC.hp (by have:=hF.q;omega) hC.hR hF.f.r hC.hlo hC.hy (by have:=hF.f.p;omega) (fun e he=>by have h3:(nL 1 e).length≤6:=hF.f.q e he;omega) aq pe Qv Fh) ?_;rintro _ ⟨bn,e,rfl,h1,h2⟩)
  |exact dz rfl (bZ rfl) (bZ rfl) ⟨_,_,rfl,h1,h2⟩)
 all_goals (conv=>whnf)
def Bb (size:Int) (c:List T):Bool:=decide (nI 3 c=size)&& !nB 5 c
def ayN (e:List T):Prop:= ∃p q l s x d,e=[tI p,tI q,tI l,tI s,x,tB d]
def RCt (size:Int) (bn:Lz) (m:Nat) (vs:List V):Prop:= ∃ (i:Nat) (n:Int),i≤bn.length∧m=bn.length - i∧vs=[iV .i64 n,iV .i64 (i:Int)]∧n=((bn.take i).countP (Bb size):Int)
theorem Ba {size:Int} {bn:Lz} {i:Nat} {e:List T} (hs:bn[((i:Int)).toNat]? =some e):(bn.take (i+1)).countP (Bb size)=(bn.take i).countP (Bb size)+if Bb size e=true then 1 else 0:=by
 have hs':bn[i]? =some e:=by simpa using hs
 rw[List.take_add_one,hs',List.countP_append]
 simp[List.countP_cons]
theorem RCt.hit {size p q l s:Int} {x:T} {d:Bool} {bn:Lz} {i:Nat} {n:Int} (hi:(i:Int) < (bn.length:Int)) (hl:bn.length≤1000000) (hn:n=((bn.take i).countP (Bb size):Int)) (hs:bn[((i:Int)).toNat]? =some [tI p,tI q,tI l,tI s,x,tB d]) (h1:s=size) (h2:(!d)=true):RCt size bn (bn.length - (i+1)) [iV .i64 (IntKind.i64.wrap (n+1)),iV .i64 (IntKind.i64.wrap ((i:Int)+1))]:=by
 have hb:(bn.take i).countP (Bb size)≤i:=Nat.le_trans List.countP_le_length (by rw[List.length_take];omega)
 refine⟨i+1,n+1,by omega,rfl,by rw[bt (by omega) (by omega),bt (by omega) (by omega)];rfl,?_⟩
 rw[Ba hs,if_pos (by subst h1;simp[Bb,nI,nB];simpa using h2),hn]
 rfl
theorem RCt.eS {size p q l s:Int} {x:T} {d:Bool} {bn:Lz} {i:Nat} {n:Int} (hi:(i:Int) < (bn.length:Int)) (hl:bn.length≤1000000) (hn:n=((bn.take i).countP (Bb size):Int)) (hs:bn[((i:Int)).toNat]? =some [tI p,tI q,tI l,tI s,x,tB d]) (h:s≠size∨(!d)=false):RCt size bn (bn.length - (i+1)) [iV .i64 n,iV .i64 (IntKind.i64.wrap ((i:Int)+1))]:=by
 refine⟨i+1,n,by omega,rfl,by rw[bt (by omega) (by omega)];rfl,?_⟩
 rw[Ba hs,if_neg (by
  rcases h with h|h
  · simp[Bb,nI,h]
  · simp[Bb,nI,nB];intro _;simpa using h),hn]
 rfl
end Go.aU.Cd
end
section
namespace Go.aU.Cd
open Go Go.Proofs
set_option maxRecDepth 100000
set_option maxHeartbeats 1000000
variable [CE]
def szP (sizes:Lz) (e:List T):Int:=nI 0 (lO sizes (nI 0 e))
def HU (sizes:Lz) (s:Int) (e:List T):Bool:=decide (szP sizes e=s)
def IV (c:List T):Bool:= !nB 5 c
def IW (s:Int) (c:List T):Bool:=decide (nI 3 c < s)&& !nB 5 c
theorem lt_succ (bn:Lz) (s:Nat):bn.countP (IW ((s:Int)+1))=bn.countP (IW (s:Int))+bn.countP (Bb (s:Int)):=by
 induction bn with
 |nil=>rfl
 |cons c r ih=>
  simp only[List.countP_cons,ih]
  have:(if IW ((s:Int)+1) c=true then 1 else 0)=(if IW (s:Int) c=true then 1 else 0)+(if Bb (s:Int) c=true then 1 else 0):=by
   cases hb:nB 5 c with
   |true=>simp[IW,Bb,hb]
   |false=>
    simp only[IW,Bb,hb,Bool.not_false,Bool.and_true,decide_eq_true_eq]
    by_cases h1:nI 3 c < (s:Int)
    · rw[if_pos (by omega),if_pos h1,if_neg (by omega)]
    · by_cases h2:nI 3 c=(s:Int)
      · rw[if_pos (by omega),if_neg h1,if_pos h2]
      · rw[if_neg (by omega),if_neg h1,if_neg h2]
  omega
def GCt (sn:ByteArray) (bz ms ps us ss os:Lz) (ln wd rx ry:Int) (sizes places plies ag aS:Lz) (ts:List W):Prop:= ∃bn e,ts=[oL 6 bn,oI e]∧(e=0↔Bq (Kl sn bz ms ps us ss os ln wd rx ry sizes places).2 ln wd (Kl sn bz ms ps us ss os ln wd rx ry sizes places).1 ag aS plies)∧
 (e=0→bn=dF ag sizes places (Kl sn bz ms ps us ss os ln wd rx ry sizes places).1 plies plies.length∧Bw sizes places bz.length (Kl sn bz ms ps us ss os ln wd rx ry sizes places).1)
theorem q9 (sn:ByteArray) (bz ms ps us ss os:Lz) (ln wd rx ry:Int) (sizes places plies ag aS:Lz) (hC:CK sn bz ms ps us ss os sizes places plies ag aS) (hF:QX sizes places plies ag aS):
 Tg 10 [N1 sn bz ms ps us ss os ln wd rx ry sizes places plies ag aS] (GCt sn bz ms ps us ss os ln wd rx ry sizes places plies ag aS):=by
 obtain⟨t1,f1,i1,e1,Fh⟩:=wB sn bz ms ps us ss os hC.Rp ln wd rx ry sizes places hC.hz hC.jG hC.hp (by have:=hF.q;omega)
 obtain⟨ts,f,i,bn,e,h1,h2,h3⟩:=nG sn bz ms ps us ss os ln wd rx ry sizes places plies ag aS hC hF _ _ ⟨t1,f1,i1,e1⟩ Fh
 exact⟨ts,f,i,bn,e,h1,h2,fun h0=>⟨h3 h0,Fh (h2.1 h0).pe⟩⟩
end Go.aU.Cd
end
section
namespace Go.aU
open Go
def TTf (R:TypeId→List T→Prop):List Field→List T→Prop
 | [],ts=>ts=[]
 |f::fs,ts=> ∃a b,ts=a++b∧R f.type a∧TTf R fs b
def TT (P:Program):Nat→TypeId→List T→Prop
 |0,_,_=>False
 |d+1,t,ts=>
  match P.underlying t with
  |some .bool=> ∃b,ts=[.val (.bool b)]
  |some (.int k)=> ∃n,ts=[.val (.int k n)]∧(Lit.int k n).wf=true
  |some .string=> ∃s,ts=[.val (.string s)]∧s.size≤maxLen
  |some (.slice e)=> ∃xs,ts=[.aA (P.cellsOf e) xs]∧xs.length≤maxLen∧ ∀x,x∈xs→TT P d e x
  |some (.struct fs)=>TTf (TT P d) fs.toList ts
  |_=>False
def rD (P:Program):Nat→List Field→Option Nat
 |off,[]=>some off
 |off,f::r=>if f.offset=off then rD P (off+P.cellsOf f.type) r else none
def gR (P:Program):Nat→TypeId→Bool
 |0,_=>false
 |d+1,t=>
  match P.underlying t with
  |some .bool|some (.int _)|some .string=>P.cellsOf t==1
  |some (.slice e)=>P.cellsOf t==1&&decide (0 < P.cellsOf e)&&gR P d e
  |some (.struct fs)=>rD P 0 fs.toList==some (P.cellsOf t)&&fs.toList.all fun f=>gR P d f.type
  |_=>false
def M5 (w:World) (ts:List T) (cs:List Value):Prop:=
 ts.length=cs.length∧ ∀ (i:Nat) (t:T) (x:Value),ts[i]? =some t→cs[i]? =some x→RT w (fun _=>False) t x
theorem M5.append {w:World} {a b:List T} {c d:List Value} (h:M5 w a c) (k:M5 w b d):M5 w (a++b) (c++d):=by
 refine⟨by simp[h.1,k.1],fun i t x ht hx=>?_⟩
 by_cases hi:i < a.length
 · rw[List.getElem?_append_left hi]at ht
   rw[List.getElem?_append_left (by rw[←h.1];exact hi)]at hx
   exact h.2 i t x ht hx
 · rw[List.getElem?_append_right (by omega)]at ht
   rw[List.getElem?_append_right (by rw[←h.1];omega), ←h.1]at hx
   exact k.2 _ t x ht hx
theorem pD {α β:Type} {f:α→Option β}: ∀ {l:List α} {r:List β},l.mapM f=some r→r.length=l.length∧ ∀ (i:Nat) (x:α),l[i]? =some x→ ∃y,r[i]? =some y∧f x=some y
 | [],r,h=>by simp at h;subst h;simp
 |x::l,r,h=>by
  simp only[List.mapM_cons,Option.bind_eq_bind,Option.bind_eq_some_iff]at h
  obtain⟨y,hy,r',dn,h⟩:=h
  simp only[pure,Option.some.injEq]at h
  subst h
  obtain⟨h1,h2⟩:=pD dn
  refine⟨by simp[h1],fun i z hz=>?_⟩
  cases i with
  |zero=>simp only[List.getElem?_cons_zero,Option.some.injEq]at hz;subst hz;exact⟨y,rfl,hy⟩
  |succ i=>simpa using h2 i z (by simpa using hz)
theorem Cu {w:World} {b off n:Nat} {cs:List Value} (h:w.cells? 0 ⟨b,off,none⟩ n=some cs):cs.length=n∧ ∀ (j:Nat) (x:Value),cs[j]? =some x→w.cell? ⟨b,off+j,none⟩=some x:=by
 unfold World.cells? at h
 simp only[Nat.zero_le,if_true]at h
 obtain⟨h1,h2⟩:=pD h
 simp only[List.length_range]at h1
 refine⟨h1,fun j x hx=>?_⟩
 have hj:j < n:=by rw[←h1];exact(List.getElem?_eq_some_iff.1 hx).1
 obtain⟨y,hy,hc⟩:=h2 j j (by simp[hj])
 rw[hx]at hy
 simp only[Option.some.injEq]at hy
 subst hy
 simpa[Addr.add_lit]using hc
theorem DU {α:Type} (cs:List α) (off n:Nat):(cs.drop off).take n++cs.drop (off+n)=cs.drop off:=by
 rw[←List.drop_drop]
 exact List.take_append_drop n (cs.drop off)
theorem wX {H:Type} {enc:TypeId×Value→H} {P:Program} {w:World}: ∀ (d:Nat) (t:TypeId),gR P d t=true→ ∀ (fuel:Nat) (sp:Nat→Bool) (hd:Bool) (cs:List Value) (x:DataW H×List MemPlace),
 DataW.trod enc P w 0 sp hd fuel t cs=some x→cs.length=P.cellsOf t→ ∃ts,M5 w ts cs∧TT P d t ts:=by
 intro d
 induction d with
 |zero=>intro t h;simp[gR]at h
 |succ d ih=>
  intro t hok fuel sp hd cs x h hlen
  cases fuel with
  |zero=>simp[DataW.trod]at h
  |succ fuel=>
   have one: ∀ {v:Value} {q:T},cs=[v]→RT w (fun _=>False) q v→M5 w [q] cs:=by
    intro v q hcs hr
    subst hcs
    refine⟨rfl,fun i t x ht hx=>?_⟩
    cases i with
    |zero=>simp only[List.getElem?_cons_zero,Option.some.injEq]at ht hx;subst ht;subst hx;exact hr
    |succ i=>simp at ht
   unfold gR at hok
   unfold TT
   cases hu:P.underlying t with
   |none=>simp[hu]at hok
   |some dsc=>
    simp only[hu]at hok
    cases dsc with
    |bool=>
     simp only[beq_iff_eq]at hok
     rw[hok]at hlen
     obtain⟨v,rfl⟩:=List.length_eq_one_iff.1 hlen
     simp only[DataW.trod,hu]at h
     cases v<;>simp at h
     exact⟨_,one rfl (.val rfl),_,rfl⟩
    |int k=>
     simp only[beq_iff_eq]at hok
     rw[hok]at hlen
     obtain⟨v,rfl⟩:=List.length_eq_one_iff.1 hlen
     simp only[DataW.trod,hu]at h
     cases v<;>simp at h
     obtain⟨⟨rfl,hwf⟩,_⟩:=h
     exact⟨_,one rfl (.val rfl),_,rfl,hwf⟩
    |string=>
     simp only[beq_iff_eq]at hok
     rw[hok]at hlen
     obtain⟨v,rfl⟩:=List.length_eq_one_iff.1 hlen
     simp only[DataW.trod,hu]at h
     cases v<;>simp at h
     exact⟨_,one rfl (.val rfl),_,rfl,h.1⟩
    |slice e=>
     simp only[Bool.and_eq_true,beq_iff_eq,decide_eq_true_eq]at hok
     obtain⟨⟨hone,hpos⟩,hde⟩:=hok
     rw[hone]at hlen
     obtain⟨v,rfl⟩:=List.length_eq_one_iff.1 hlen
     cases v with
     |slice a len cap=>
      cases a with
      |none=>
       have h0:len=0∧cap=0:=by
        cases len<;>cases cap<;>simp[DataW.trod,hu]at h<;>simp
       obtain⟨rfl,rfl⟩:=h0
       exact⟨_,one rfl (.nil (sz:=P.cellsOf e)),[],rfl,by simp,by simp⟩
      |some a=>
       simp only[DataW.trod,hu]at h
       split at h
       · rename_i hc
         obtain⟨_,hlc,hcm⟩:=hc
         simp only[Option.bind_eq_some_iff]at h
         obtain⟨elems,hel,_⟩:=h
         obtain⟨k1,k2⟩:=pD hel
         simp only[List.length_range]at k1
         by_cases hz:len=0
         · subst hz
           exact⟨_,one rfl (.nil (sz:=P.cellsOf e)),[],rfl,by simp,by simp⟩
         ·
          have S3: ∀i,i < len→ ∃ci xi,w.cells? 0 (a.add (i * P.cellsOf e)) (P.cellsOf e)=some ci∧DataW.trod enc P w 0 sp hd fuel e ci=some xi:=by
           intro i hi
           obtain⟨y,_,hy⟩:=k2 i i (by simp[hi])
           simp only[Option.bind_eq_some_iff]at hy
           obtain⟨ci,h1,h2⟩:=hy
           exact⟨ci,y,h1,h2⟩
          have Kv:a.spot=none:=by
           obtain⟨ci,_,h1,_⟩:=S3 0 (by omega)
           simp only[Nat.zero_mul,Addr.add_zero']at h1
           unfold World.cells? at h1
           simp only[Nat.zero_le,if_true]at h1
           obtain⟨_,q2⟩:=pD h1
           obtain⟨y,_,hy⟩:=q2 0 0 (by simp[hpos])
           simp only[Addr.add_zero']at hy
           unfold World.cell? at hy
           split at hy
           · split at hy
             · simp at hy
             · rename_i hs;simpa using hs
           · simp at hy
          obtain⟨b,off,spot⟩:=a
          simp only at Kv
          subst Kv
          have hch: ∀i, ∃ts:List T,i < len→ ∃ci,(ci.length=P.cellsOf e∧ ∀ (j:Nat) (x:Value),ci[j]? =some x→w.cell? ⟨b,off+i * P.cellsOf e+j,none⟩=some x)∧M5 w ts ci∧TT P d e ts:=by
           intro i
           by_cases hi:i < len
           · obtain⟨ci,xi,h1,h2⟩:=S3 i hi
             rw[Addr.add_lit]at h1
             have hg:=Cu h1
             obtain⟨ts,t1,t2⟩:=ih e hde fuel sp hd ci xi h2 hg.1
             exact⟨ts,fun _=>⟨ci,hg,t1,t2⟩⟩
           · exact⟨[],fun h=>absurd h hi⟩
          obtain⟨g,hg⟩:=Classical.axiomOfChoice hch
          have hxs: ∀ (i:Nat) (el:List T),((List.range len).map g)[i]? =some el→i < len∧el=g i:=by
           intro i el hel
           have hi:i < len:=by have:=(List.getElem?_eq_some_iff.1 hel).1;simpa using this
           simp[hi]at hel
           exact⟨hi,hel.symm⟩
          have hbs:b < w.heap.size:=by
           obtain⟨ci,⟨q1,q2⟩,_⟩:=hg 0 (by omega)
           have h0:0 < ci.length:=by rw[q1];exact hpos
           have:=q2 0 ci[0] (by simp[h0])
           rcases Nat.lt_or_ge b w.heap.size with hl|hl
           · exact hl
           · simp[World.cell?,Array.getElem?_eq_none hl]at this
          refine⟨_,one rfl (.aA (sz:=P.cellsOf e) (xs:=(List.range len).map g) (fun i j=>(w.cell? ⟨b,off+i * P.cellsOf e+j,none⟩).getD undef) (by simp) hlc hbs (fun h=>h) ?_ ?_ ?_),(List.range len).map g,rfl,by simp;omega,?_⟩
          · intro el hel
            simp only[List.mem_map,List.mem_range]at hel
            obtain⟨i,hi,rfl⟩:=hel
            obtain⟨ci,q1,q2,_⟩:=hg i hi
            rw[q2.1,q1.1]
          · intro i el j c hel hj
            obtain⟨hi,rfl⟩:=hxs i el hel
            obtain⟨ci,q1,q2,_⟩:=hg i hi
            have Bz:j < ci.length:=by rw[←q2.1];exact(List.getElem?_eq_some_iff.1 hj).1
            rw[q1.2 j ci[j] (by simp[Bz])];rfl
          · intro i el j c hel hj
            obtain⟨hi,rfl⟩:=hxs i el hel
            obtain⟨ci,q1,q2,_⟩:=hg i hi
            have Bz:j < ci.length:=by rw[←q2.1];exact(List.getElem?_eq_some_iff.1 hj).1
            rw[q1.2 j ci[j] (by simp[Bz])]
            exact q2.2 j c ci[j] hj (by simp[Bz])
          · intro el hel
            simp only[List.mem_map,List.mem_range]at hel
            obtain⟨i,hi,rfl⟩:=hel
            exact(hg i hi).choose_spec.2.2
       · simp at h
     |_=>simp[DataW.trod,hu]at h
    |struct fs=>
     simp only[Bool.and_eq_true,beq_iff_eq,List.all_eq_true]at hok
     obtain⟨htl,hall⟩:=hok
     simp only[DataW.trod,hu]at h
     rw[if_pos hlen]at h
     simp only[Option.map_eq_some_iff]at h
     obtain⟨xs,hxs,_⟩:=h
     have go: ∀ (l:List Field) (off:Nat) (ys:List (DataW H×List MemPlace)),(∀f,f∈l→gR P d f.type=true)→rD P off l=some cs.length→off≤cs.length→
      l.mapM (fun f=>DataW.trod enc P w 0 sp hd fuel f.type ((cs.drop f.offset).take (P.cellsOf f.type)))=some ys→ ∃ts,M5 w ts (cs.drop off)∧TTf (TT P d) l ts:=by
      intro l
      induction l with
      |nil=>
       intro off ys _ ht aoD _
       simp only[rD,Option.some.injEq]at ht
       subst ht
       exact⟨[],⟨by simp,by simp⟩,rfl⟩
      |cons f l ihl=>
       intro off ys hf ht aoD hm
       simp only[rD]at ht
       split at ht
       · rename_i hfo
         simp only[List.mapM_cons,Option.bind_eq_bind,Option.bind_eq_some_iff]at hm
         obtain⟨y,hy,ys',amW,_⟩:=hm
         have hend:off+P.cellsOf f.type≤cs.length:=by
          have mono: ∀ (l:List Field) (o e:Nat),rD P o l=some e→o≤e:=by
           intro l
           induction l with
           |nil=>intro o e h;simp only[rD,Option.some.injEq]at h;omega
           |cons f l ih=>intro o e h;simp only[rD]at h;split at h;exact Nat.le_trans (Nat.le_add_right _ _) (ih _ _ h);simp at h
          exact mono l _ _ ht
         obtain⟨ts2,r2,t2⟩:=ihl (off+P.cellsOf f.type) ys' (fun g hg=>hf g (by simp[hg])) ht hend amW
         rw[hfo]at hy
         obtain⟨ts1,r1,t1⟩:=ih f.type (hf f (by simp)) fuel sp hd _ y hy (by simp;omega)
         refine⟨ts1++ts2,?_,ts1,ts2,rfl,t1,t2⟩
         rw[←DU cs off (P.cellsOf f.type)]
         exact r1.append r2
       · simp at ht
     have:=go fs.toList 0 xs (fun f hf=>hall f hf) (by rw[htl,hlen]) (Nat.zero_le _) hxs
     simpa using this
    |_=>simp at hok
end Go.aU
end
section
namespace Go.aU
open Go Go.RowKit Go.ChangeShapes Go.WideShapes
variable {H:Type} {enc:TypeId×Value→H} {P:Program}
def Kp (P:Program) (t:TypeId) (ts:List T):W:=
 match iT P t with
 |some true=> .agg (ts.map .t)
 |_=>match ts with
  | [x]=> .one (.t x)
  |_=> .agg (ts.map .t)
theorem Hu {W:World} {sp:Nat→Bool} {base d:Nat} {t:TypeId} {v:Value} {x:DataW H} {p:List MemPlace} {ρ:Env} (hok:Value.okWide P W .any base t v) (hr:DataW.Trod enc P W 0 sp true t v x p) (hd:gR P (d+1) t=true):
 ∃ts,TT P (d+1) t ts∧RW W (fun _=>False) ρ (Kp P t ts) v:=by
 obtain⟨fuel,hr⟩:=hr
 unfold Value.okWide at hok
 have yY:=hd
 unfold gR at yY
 cases hu:P.underlying t with
 |none=>simp[hu]at yY
 |some dsc=>
  simp only[hu]at hok yY
  have pX:iT P t=some false→v.oneCell'=true→P.cellsOf t=1→ ∃ts,TT P (d+1) t ts∧RW W (fun _=>False) ρ (Kp P t ts) v:=by
   intro hagg hv hone
   have hvc:v.cells.toList=[v]:=by cases v<;>simp[Value.oneCell']at hv<;>rfl
   rw[hvc]at hr
   obtain⟨ts,h1,h2⟩:=wX (d+1) t hd fuel sp true [v] _ hr (by simp[hone])
   refine⟨ts,h2,?_⟩
   have hl:ts.length=1:=by simpa using h1.1
   obtain⟨q,rfl⟩:=List.length_eq_one_iff.1 hl
   simp only[Kp,hagg]
   exact⟨h1.2 0 q v rfl rfl,hv⟩
  cases dsc with
  |struct fs=>
   simp only at hok
   obtain⟨cs,rfl,hsz,_⟩:=hok
   obtain⟨ts,h1,h2⟩:=wX (d+1) t hd fuel sp true cs.toList _ hr (by simpa using hsz)
   refine⟨ts,h2,?_⟩
   have hagg:iT P t=some true:=by simp[iT,hu]
   simp only[Kp,hagg]
   refine⟨cs,rfl,by simpa using h1.1,fun k c x hk hx=>?_⟩
   simp only[List.getElem?_map,Option.map_eq_some_iff]at hk
   obtain⟨q,hq,rfl⟩:=hk
   have:=h1.2 k q x hq (by simpa using hx)
   exact⟨this,this.cell⟩
  |bool=>
   simp only[beq_iff_eq]at yY
   refine pX (by simp[iT,hu]) ?_ yY
   cases v<;>simp_all[Cell.okWide,Cell.ok,Value.oneCell']
  |int k=>
   simp only[beq_iff_eq]at yY
   refine pX (by simp[iT,hu]) ?_ yY
   cases v<;>simp_all[Cell.okWide,Cell.ok,Value.oneCell']
  |string=>
   simp only[beq_iff_eq]at yY
   refine pX (by simp[iT,hu]) ?_ yY
   cases v<;>simp_all[Cell.okWide,Cell.ok,Value.oneCell']
  |slice e=>
   simp only[Bool.and_eq_true,beq_iff_eq]at yY
   refine pX (by simp[iT,hu]) ?_ yY.1.1
   cases v<;>simp_all[Cell.okWide,Cell.ok,Value.oneCell']
  |_=>simp at yY
def Typed (P:Program) (d:Nat):List TypeId→List W→Prop
 | [],us=>us=[]
 |t::ts,us=> ∃a r,us=Kp P t a::r∧TT P d t a∧Typed P d ts r
theorem xQ {W:World} {base d:Nat} {ρ:Env}: ∀ {ts:List TypeId} {vs:List Value} {ds:List (DataW H)} {ps:List MemPlace},DataW.TrodAll enc P W 0 (fun _=>true) true ts vs ds ps→
 (∀ (j:Nat) (t:TypeId) (v:Value),ts[j]? =some t→vs[j]? =some v→Value.okWide P W .any base t v)→(∀t,t∈ts→gR P (d+1) t=true)→ ∃us,Typed P (d+1) ts us∧tE W (fun _=>False) ρ us vs
 | [],vs,ds,ps,h,_,_=>by
   obtain⟨rfl,_⟩:=trodAll_nil h
   exact⟨[],rfl,rfl,by simp⟩
 |t::ts,vs,ds,ps,h,hval,hdp=>by
  obtain⟨v,vs',x,ds',p,q,rfl,rfl,rfl,h1,h2⟩:=trodAll_cons h
  obtain⟨a,ha,hra⟩:=Hu (ρ:=ρ) (hval 0 t v rfl rfl) h1 (hdp t (by simp))
  obtain⟨us,hu,hl,hru⟩:=xQ (ρ:=ρ) h2 (fun j t' v' ht hv=>hval (j+1) t' v' (by simpa using ht) (by simpa using hv)) (fun t' ht=>hdp t' (by simp[ht]))
  refine⟨Kp P t a::us,⟨a,us,rfl,ha,hu⟩,by simp[hl],fun k u y hk hy=>?_⟩
  cases k with
  |zero=>
   simp only[List.getElem?_cons_zero,Option.some.injEq]at hk hy
   subst hk
   subst hy
   exact hra
  |succ k=>exact hru k u y (by simpa using hk) (by simpa using hy)
theorem vN (hl:laidOutB P=true) {W W':World} (hb:Below W.heap.size W W'): ∀ {ts:List TypeId} {vs:List Value} {ds:List (DataW H)} {ps:List MemPlace},DataW.TrodAll enc P W 0 (fun _=>true) true ts vs ds ps→
 (∀t,t∈ts→P.readableRec t=true∧t < P.types.size)→DataW.TrodAll enc P W' 0 (fun b=>decide (b < W.heap.size)) true ts vs ds ps
 | [],vs,ds,ps,h,_=>by
   obtain⟨rfl,rfl,rfl⟩:=trodAll_nil h
   exact trodAll_mk0
 |t::ts,vs,ds,ps,h,ht=>by
  have hlt:=h.lt
  obtain⟨v,vs',x,ds',p,q,rfl,rfl,rfl,h1,h2⟩:=trodAll_cons h
  have h3:=Below.trod hl (ht t (by simp)).1 (ht t (by simp)).2 h1 hb (fun z hz=>hlt z (by simp[hz]))
  exact trodAll_cons_mk h3 (vN hl hb h2 (fun t' h'=>ht t' (by simp[h'])))
theorem zD {W W':World} (h:df (fun b=>W.heap.size≤b) W W'):Below W.heap.size W W':=
 ⟨h.os,h.tape,h.output,h.size,fun k hk=>h.block k hk (by omega)⟩
theorem El {f:FuncId} {fn:Func} {s:ChangeSpec} {d:Nat} {W:World} {base:Nat} {args:Array Value} {ds gs:List (DataW H)} {before:List MemPlace}
 (hl:laidOutB P=true) (hvars:s.vars=[]) (hres:fn.resultTypes= #[4]) (S7:P.underlying 4=some .bool) (SB: ∀ds:List (DataW H),ds.length=fn.params.size→(s.fn H ds).results=[.lit (.bool true)]∧(s.fn H ds).args=ds∧(s.fn H ds).vars=[])
 (hdp: ∀t,t∈fn.params.toList→gR P (d+1) t=true) (hrd: ∀t,t∈fn.params.toList→P.readableRec t=true∧t < P.types.size)
 (Th: ∀us,Typed P (d+1) fn.params.toList us→Fn P f us [] (.w (.one (.t (.val (.bool true))))) [])
 (hval: ∀ (j:Nat) t v,fn.params[j]? =some t→args[j]? =some v→Value.okWide P W .any base t v)
 (S0:zJ (fun b=>W.heap.size≤b) (fun _=>False) W)
 (hW:DataW.Whole enc P fn.params.toList s.vars false W args.toList ds gs before):
 Calls P f args W fun e W'=> ∃v,e= .returned v∧s.post enc P fn false true false false W args v W':=by
 have hW':=hW
 obtain⟨p,q,hA,hV,rfl,hfz,EA⟩:=hW
 rw[hvars]at hV
 obtain⟨rfl,rfl⟩:=trodVars_none hV
 obtain⟨us,hu,hru⟩:=xQ (ρ:=fun _=>none) hA (fun j t v ht hv=>hval j t v (by simpa using ht) (by simpa using hv)) hdp
 have hH:HR (fun b=>o3 (fun _=>none) [] b∨W.heap.size≤b) (fun _=>False) (fun _=>none) (bC 4) [] W:=
  ⟨rfl,rfl,fun t v hv=>by simp[find]at hv,fun id b hb=>by simp[find]at hb,fun id id' b b' c hb=>by simp[find]at hb,fun _ _=>rfl,fun _ h=>h.elim,fun b hb=> .inr hb,S0.sub (fun b hb hm=>hm.elim (fun ho=>by obtain⟨_,_,hf,_⟩:=ho;simp[find]at hf) (fun hl=>hl)) (fun _ h=>h)⟩
 refine(Th us hu W (fun _=>False) (fun _=>none) args hH hru).mono ?_
 rintro e W' ⟨x,A',ρ',F',rfl,hv,_,dJ,_,_⟩
 have hM:(fun b=>o3 (fun _=>none) [] b∨W.heap.size≤b)=fun b=>W.heap.size≤b:=by funext b;simp[o3,find]
 rw[hM]at dJ
 have hb:=zD dJ
 have hx:x= .bool true:=V.bA (u:= .w (.one (.t (.val (.bool true))))) rfl hv
 subst hx
 have hlen:ds.length=fn.params.size:=by
  have len: ∀ {ts:List TypeId} {vs:List Value} {ds:List (DataW H)} {ps:List MemPlace},DataW.TrodAll enc P W 0 (fun _=>true) true ts vs ds ps→ds.length=ts.length:=by
   intro ts
   induction ts with
   |nil=>intro vs ds ps h;obtain⟨_,rfl,_⟩:=trodAll_nil h;rfl
   |cons t ts ih=>intro vs ds ps h;obtain⟨_,_,_,_,_,_,_,rfl,_,_,h2⟩:=trodAll_cons h;simp[ih h2]
  simpa using len hA
 obtain⟨s1,s2,s3⟩:=SB (ds++[]) (by simpa using hlen)
 refine⟨_,rfl,ds,[],_,[],p,[],hW',?_,?_,?_,hb.frame _,fun h=>by simp at h⟩
 · rw[s1,hres]
   exact trodAll_mk1 ⟨1,by simp[DataW.trod,Value.cells,S7]⟩
 · rw[s2]
   simpa using vN hl hb hA hrd
 · rw[s3,hvars]
   rfl
end Go.aU
end
section
namespace Go.aU.Cd
open Go Go.Proofs
set_option maxRecDepth 100000
set_option maxHeartbeats 1000000
def GTr (ts:List W):Prop:=ts=[oB true]
inductive Sh where
 |int
 |u8
 |bool
 |str
 |sl (cs:List Sh)
mutual
def IsT:Sh→T→Prop
 | .int,t=> ∃n,t= .val (.int .i64 n)
 | .u8,t=> ∃n:Int,t= .val (.int .u8 n)∧0≤n∧n < 256
 | .bool,t=> ∃b,t= .val (.bool b)
 | .str,t=> ∃s,t= .val (.string s)∧s.size≤maxLen
 | .sl cs,t=> ∃xs,t= .aA cs.length xs∧xs.length≤maxLen∧ ∀x,x∈xs→iN cs x
def iN:List Sh→List T→Prop
 | [],ts=>ts=[]
 |s::r,ts=> ∃t q,ts=t::q∧IsT s t∧iN r q
end
def pn (f:TypeId→Option (List Sh)):List Field→Option (List Sh)
 | []=>some []
 |x::r=>match f x.type,pn f r with
  |some a,some b=>some (a++b)
  |_,_=>none
def shapeOf (P:Program):Nat→TypeId→Option (List Sh)
 |0,_=>none
 |d+1,t=>match P.underlying t with
  |some .bool=>some [.bool]
  |some (.int .i64)=>some [.int]
  |some (.int .u8)=>some [.u8]
  |some .string=>some [.str]
  |some (.slice e)=>match shapeOf P d e with
   |some cs=>if P.cellsOf e=cs.length then some [.sl cs]else none
   |none=>none
  |some (.struct fs)=>pn (shapeOf P d) fs.toList
  |_=>none
theorem iN.append: ∀ {a b:List Sh} {x y:List T},iN a x→iN b y→iN (a++b) (x++y)
 | [],b,x,y,h,k=>by simp only[iN]at h;subst h;exact k
 |s::r,b,x,y,h,k=>by
  obtain⟨t,q,rfl,h1,h2⟩:=h
  exact⟨t,q++y,rfl,h1,h2.append k⟩
theorem ph {P:Program}: ∀ {d:Nat} {t:TypeId} {ts:List T} {eI:List Sh},TT P d t ts→shapeOf P d t=some eI→iN eI ts
 |0,t,ts,eI,h,_=>h.elim
 |d+1,t,ts,eI,h,hs=>by
  have fields: ∀ {fs:List Field} {ts:List T} {eI:List Sh},TTf (TT P d) fs ts→pn (shapeOf P d) fs=some eI→iN eI ts:=by
   intro fs
   induction fs with
   |nil=>
    intro ts eI h hs
    simp only[pn,Option.some.injEq]at hs
    subst hs
    simpa[iN,TTf]using h
   |cons f r ih=>
    intro ts eI h hs
    obtain⟨a,b,rfl,h1,h2⟩:=h
    simp only[pn]at hs
    split at hs
    · rename_i x y hx hy
      simp only[Option.some.injEq]at hs
      subst hs
      exact(ph h1 hx).append (ih h2 hy)
    · simp at hs
  simp only[TT]at h
  simp only[shapeOf]at hs
  split at h
  · rename_i hu
    simp only[hu,Option.some.injEq]at hs
    subst hs
    obtain⟨b,rfl⟩:=h
    exact⟨_,_,rfl,⟨b,rfl⟩,rfl⟩
  · rename_i k hu
    obtain⟨n,rfl,hw⟩:=h
    cases k<;>simp only[hu]at hs<;>simp at hs<;>subst hs
    all_goals first
     |exact⟨_,_,rfl,⟨n,rfl⟩,rfl⟩
     |(refine⟨_,_,rfl,⟨n,rfl,?_⟩,rfl⟩
       simp only[Lit.wf,Bool.and_eq_true,decide_eq_true_eq]at hw
       have h1:(0:Int)≤n:=hw.1
       have h2:n≤(255:Int):=hw.2
       exact⟨h1,by omega⟩)
  · rename_i hu
    simp only[hu,Option.some.injEq]at hs
    subst hs
    obtain⟨s,rfl,hs⟩:=h
    exact⟨_,_,rfl,⟨s,rfl,hs⟩,rfl⟩
  · rename_i e hu
    simp only[hu]at hs
    obtain⟨xs,rfl,h1,h2⟩:=h
    split at hs
    · rename_i cs hcs
      split at hs
      · rename_i hlen
        simp only[Option.some.injEq]at hs
        subst hs
        exact⟨_,_,rfl,⟨xs,by rw[hlen],h1,fun x hx=>ph (h2 x hx) hcs⟩,rfl⟩
      · simp at hs
    · simp at hs
  · rename_i fs hu
    simp only[hu]at hs
    exact fields h hs
  · exact h.elim
abbrev MA:List Sh:=[.str, .sl [.int, .int]]
abbrev BV:List Sh:=[.str, .sl MA, .int, .sl [.int, .int], .sl [.int, .int], .sl [.int], .bool]
abbrev opS:List Sh:=[.str, .int, .int, .sl [.int], .sl [.int]]
abbrev FK:List Sh:=[.int, .int, .int, .int, .bool, .int]
abbrev BU:List Sh:=[.int, .int, .int, .bool, .int, .int, .int]
abbrev IQ:List Sh:=[.int, .sl [.int, .int, .int, .int]]
abbrev bdS:List Sh:=[.int, .int, .int, .int, .int, .int]
abbrev ctS:List Sh:=[.int, .int, .int, .int, .sl [.int], .bool]
abbrev grS:List Sh:=[.int, .int, .int, .int, .sl [.int]]
abbrev aB1:List Sh:=[.str, .sl [.str], .sl [.int], .sl BV, .sl [.int, .int, .bool], .sl FK, .sl opS, .int, .int, .int, .int, .sl [.int], .sl BU, .sl IQ, .sl bdS, .sl ctS]
theorem amO {e:List T} (h:iN [.int] e):IsI e:=by
 obtain⟨_,_,rfl,⟨a,rfl⟩,rfl⟩:=h
 exact⟨a,rfl⟩
theorem Ep {xs:Lz} (h: ∀x,x∈xs→iN [.int] x):Is xs:=fun e he=>amO (h e he)
theorem NB {xs:Lz} (h: ∀x,x∈xs→iN [.int, .int] x):cc xs:=fun e he=>by
 obtain⟨_,_,rfl,⟨a,rfl⟩,_,_,rfl,⟨b,rfl⟩,rfl⟩:=h e he
 exact⟨a,b,rfl⟩
theorem alM {xs:Lz} (h: ∀x,x∈xs→iN [.str] x):Sts xs:=fun e he=>by
 obtain⟨_,_,rfl,⟨a,rfl,ha⟩,rfl⟩:=h e he
 exact⟨a,rfl,ha⟩
theorem OY {xs:Lz} (h: ∀x,x∈xs→iN MA x):jE xs:=fun e he=>by
 obtain⟨_,_,rfl,⟨s,rfl,hs⟩,_,_,rfl,⟨ys,rfl,hl,hy⟩,rfl⟩:=h e he
 exact⟨s,ys,rfl,hs,NB hy,hl⟩
theorem alZ {xs:Lz} (h: ∀x,x∈xs→iN BV x): ∀e,e∈xs→JZ e:=fun e he=>by
 obtain⟨_,_,rfl,⟨s,rfl,hs⟩,_,_,rfl,⟨es,rfl,hel,jF⟩,_,_,rfl,⟨g,rfl⟩,_,_,rfl,⟨ns,rfl,hnl,hns⟩,_,_,rfl,⟨cs,rfl,dK,hcs⟩,_,_,rfl,⟨ws,rfl,zM,Ew⟩,_,_,rfl,⟨m,rfl⟩,rfl⟩:=h e he
 exact⟨s,es,g,ns,cs,ws,m,rfl,hs,⟨OY jF,hel⟩,⟨NB hns,hnl⟩,⟨NB hcs,dK⟩,Ep Ew,zM⟩
theorem alK {xs:Lz} (h: ∀x,x∈xs→iN [.int, .int, .bool] x): ∀e,e∈xs→agL e:=fun e he=>by
 obtain⟨_,_,rfl,⟨a,rfl⟩,_,_,rfl,⟨b,rfl⟩,_,_,rfl,⟨c,rfl⟩,rfl⟩:=h e he
 exact⟨a,b,c,rfl⟩
theorem alS {xs:Lz} (h: ∀x,x∈xs→iN FK x): ∀e,e∈xs→agN e:=fun e he=>by
 obtain⟨_,_,rfl,⟨a,rfl⟩,_,_,rfl,⟨b,rfl⟩,_,_,rfl,⟨c,rfl⟩,_,_,rfl,⟨d,rfl⟩,_,_,rfl,⟨q,rfl⟩,_,_,rfl,⟨f,rfl⟩,rfl⟩:=h e he
 exact⟨a,b,c,d,q,f,rfl⟩
theorem amE {xs:Lz} (h: ∀x,x∈xs→iN opS x): ∀e,e∈xs→agP e:=fun e he=>by
 obtain⟨_,_,rfl,⟨s,rfl,hs⟩,_,_,rfl,⟨a,rfl⟩,_,_,rfl,⟨b,rfl⟩,_,_,rfl,⟨af,rfl,Ji,haf⟩,_,_,rfl,⟨us,rfl,HY,fZ⟩,rfl⟩:=h e he
 exact⟨s,a,b,af,us,rfl,hs,⟨Ep haf,Ji⟩,Ep fZ,HY⟩
theorem alY {xs:Lz} (h: ∀x,x∈xs→iN BU x):PW xs:=fun e he=>by
 obtain⟨_,_,rfl,⟨a,rfl⟩,_,_,rfl,⟨b,rfl⟩,_,_,rfl,⟨c,rfl⟩,_,_,rfl,⟨d,rfl⟩,_,_,rfl,⟨q,rfl⟩,_,_,rfl,⟨f,rfl⟩,_,_,rfl,⟨g,rfl⟩,rfl⟩:=h e he
 exact⟨a,b,c,d,q,f,g,rfl⟩
theorem aED {xs:Lz} (h: ∀x,x∈xs→iN IQ x):Pys xs:=fun e he=>by
 obtain⟨_,_,rfl,⟨a,rfl⟩,_,_,rfl,⟨q,rfl,_⟩,rfl⟩:=h e he
 exact⟨a,q,rfl⟩
end Go.aU.Cd
end
section
namespace Go.aU.Cd
open Go Go.Proofs
set_option maxRecDepth 100000
set_option maxHeartbeats 1000000
abbrev Ki:List Sh:=[.str, .int, .int, .int, .int, .int, .sl [.int, .int, .int, .int]]
abbrev O3:List Sh:=[.str, .sl [.str], .sl [.int], .sl BV, .sl [.int, .int, .bool], .sl FK, .sl opS, .int, .int, .int, .int, .sl [.int], .sl BU, .sl IQ, .sl Ki, .sl [.int]]
theorem RD {xs:Lz} (h: ∀x,x∈xs→iN [.int, .int, .int, .int] x):Bo xs:=fun e he=>by
 obtain⟨_,_,rfl,⟨a,rfl⟩,_,_,rfl,⟨b,rfl⟩,_,_,rfl,⟨c,rfl⟩,_,_,rfl,⟨d,rfl⟩,rfl⟩:=h e he
 exact⟨a,b,c,d,rfl⟩
theorem alX {xs:Lz} (h: ∀x,x∈xs→iN IQ x):zI xs:=fun e he=>by
 obtain⟨_,_,rfl,⟨a,rfl⟩,_,_,rfl,⟨q,rfl,_,hq⟩,rfl⟩:=h e he
 exact⟨a,q,rfl,RD hq⟩
theorem alU {xs:Lz} (h: ∀x,x∈xs→iN Ki x):vZ xs:=fun e he=>by
 obtain⟨_,_,rfl,⟨s,rfl,hs⟩,_,_,rfl,⟨a,rfl⟩,_,_,rfl,⟨b,rfl⟩,_,_,rfl,⟨c,rfl⟩,_,_,rfl,⟨d,rfl⟩,_,_,rfl,⟨g,rfl⟩,_,_,rfl,⟨fl,rfl,hl,hf⟩,rfl⟩:=h e he
 exact⟨s,a,b,c,d,g,fl,rfl,hs,RD hf,hl⟩
theorem WA {x:List T} (h:iN O3 x): ∃ (sn:ByteArray) (bz ms ps us ss os:Lz) (ln wd rx ry:Int) (sizes places plies ag aS:Lz),x=ctT sn bz ms ps us ss os ln wd rx ry sizes places plies ag aS∧CK sn bz ms ps us ss os sizes places plies ag aS∧bz.length≤maxLen:=by
 obtain⟨_,_,rfl,⟨sn,rfl,Gn⟩,_,_,rfl,⟨bz,rfl,l1,m1⟩,_,_,rfl,⟨ms,rfl,l2,m2⟩,_,_,rfl,⟨ps,rfl,l3,m3⟩,_,_,rfl,⟨us,rfl,l4,m4⟩,_,_,rfl,⟨ss,rfl,l5,m5⟩,_,_,rfl,⟨os,rfl,l6,m6⟩,
  _,_,rfl,⟨ln,rfl⟩,_,_,rfl,⟨wd,rfl⟩,_,_,rfl,⟨rx,rfl⟩,_,_,rfl,⟨ry,rfl⟩,_,_,rfl,⟨sizes,rfl,l7,m7⟩,_,_,rfl,⟨places,rfl,l8,m8⟩,_,_,rfl,⟨plies,rfl,l9,m9⟩,_,_,rfl,⟨ag,rfl,Fc,m10⟩,_,_,rfl,⟨aS,rfl,l11,m11⟩,rfl⟩:=h
 exact⟨sn,bz,ms,ps,us,ss,os,ln,wd,rx,ry,sizes,places,plies,ag,aS,rfl,⟨⟨Gn,alM m1,l1,Ep m2,l2,alZ m3,l3,alK m4,l4,alS m5,l5,amE m6,l6⟩,Ep m7,l7,alY m8,l8,alX m9,l9,alU m10,Fc,Ep m11⟩,l1⟩
abbrev zL:Prop:=Te 9 [] [oB true]
end Go.aU.Cd
end
section
namespace Go.aU
open Go
variable {P:Program} {w:World} {A:Nat→Prop} {ρ:Env}
def PY (a b:T):Prop:=a=b∨(a=iu∧ ∃s,b= .aA s [])
def LeE (e e':List T):Prop:=e.length=e'.length∧ ∀ (k:Nat) (a b:T),e[k]? =some a→e'[k]? =some b→PY a b
def LeL (xs ys:Lz):Prop:=xs.length=ys.length∧ ∀ (i:Nat) (e e':List T),xs[i]? =some e→ys[i]? =some e'→LeE e e'
theorem RT.le1 {a b:T} {v:Value} (h:PY a b) (hr:RT w A a v):RT w A b v:=by
 rcases h with rfl|⟨rfl,s,rfl⟩
 · exact hr
 · cases hr
   exact RT.nil
theorem RT.deep {sz:Nat} {xs ys:Lz} {v:Value} (hle:LeL xs ys) (h:RT w A (.aA sz xs) v):RT w A (.aA sz ys) v:=by
 obtain⟨hl,he⟩:=hle
 have back: ∀ {i:Nat} {e':List T},ys[i]? =some e'→ ∃e,xs[i]? =some e∧LeE e e':=by
  intro i e' hi
  have hlt:i < xs.length:=by have:=(List.getElem?_eq_some_iff.1 hi).1;omega
  exact⟨xs[i],by simp[hlt],he i _ _ (by simp[hlt]) hi⟩
 cases h with
 |nil=>
  have:ys=[]:=by cases ys with|nil=>rfl|cons=>simp at hl
  subst this
  exact RT.nil
 |aA f h1 h2 h3 h4 h5 h6 h7=>
  refine .aA f (by omega) h2 h3 h4 (fun e' he'=>?_) (fun i e' j c' hi hj=>?_) (fun i e' j c' hi hj=>?_)
  · obtain⟨i,hi,rfl⟩:=List.getElem_of_mem he'
    obtain⟨e,g1,g2,_⟩:=back (i:=i) (e':=ys[i]) (by simp[hi])
    rw[←g2]
    exact h5 e (List.mem_of_getElem? g1)
  · obtain⟨e,g1,g2,g3⟩:=back hi
    have hlt:j < e.length:=by have:=(List.getElem?_eq_some_iff.1 hj).1;omega
    exact h6 i e j e[j] g1 (by simp[hlt])
  · obtain⟨e,g1,g2,g3⟩:=back hi
    have hlt:j < e.length:=by have:=(List.getElem?_eq_some_iff.1 hj).1;omega
    exact RT.le1 (g3 j e[j] c' (by simp[hlt]) hj) (h7 i e j e[j] g1 (by simp[hlt]))
theorem Fn.PF {f:FuncId} {args args':List W} {hin hout:List (Nat×bD)} {res:V} (hle: ∀ (w:World) (A:Nat→Prop) (ρ:Env) (xs:List Value),tE w A ρ args' xs→tE w A ρ args xs) (h:Fn P f args hin res hout):Fn P f args' hin res hout:=
 fun w A ρ xs hH hx=>h w A ρ xs hH (hle w A ρ xs.toList hx)
theorem FL {cs:List C} {k sz:Nat} {xs ys:Lz} (hle:LeL xs ys) (hk:cs[k]? =some (.t (.aA sz xs))) (w:World) (A:Nat→Prop) (ρ:Env) (vs:List Value) (h:tE w A ρ [.agg cs] vs):tE w A ρ [.agg (cs.set k (.t (.aA sz ys)))] vs:=by
 refine⟨h.1,fun q u x hu hx=>?_⟩
 cases q with
 |succ q=>simp at hu
 |zero=>
  simp only[List.getElem?_cons_zero,Option.some.injEq]at hu
  subst hu
  obtain⟨aZ_,h1,h2,h3⟩:=h.2 0 _ x rfl hx
  refine⟨aZ_,h1,by rw[List.length_set];exact h2,fun j c y hc hy=>?_⟩
  by_cases hkj:k=j
  · subst hkj
    have hlt:=(List.getElem?_eq_some_iff.1 hk).1
    rw[List.getElem?_set_self hlt,Option.some.injEq]at hc
    subst hc
    obtain⟨r1,r2⟩:=h3 k _ y hk hy
    exact⟨RT.deep hle r1,r2⟩
  · rw[List.getElem?_set_ne hkj]at hc
    exact h3 j c y hc hy
end Go.aU
end
section
namespace Go.aU.Cd
open Go Go.Proofs
set_option maxRecDepth 100000
set_option maxHeartbeats 1000000
variable [CE]
def F2 (e:List T):List T:=e.set 6 (.val (.slice none 0 0))
def clE (e:List T):List T:=e.set 6 (.aA 4 [])
def eO (f:Nat→Bool) (i:Nat) (ag:Lz):Lz:=ag.mapIdx fun k e=>if k < i∧f k=true then F2 e else e
def jf (f:Nat→Bool) (ag:Lz):Lz:=ag.mapIdx fun k e=>if f k=true then clE e else e
theorem iY (f:Nat→Bool) (i:Nat) (ag:Lz):(eO f i ag).length=ag.length:=by simp[eO]
theorem iE (f:Nat→Bool) (ag:Lz):(jf f ag).length=ag.length:=by simp[jf]
theorem po (f:Nat→Bool) (ag:Lz):eO f 0 ag=ag:=by
 apply List.ext_getElem?
 intro k
 simp[eO]
theorem jO (f:Nat→Bool) (i k:Nat) (ag:Lz):(eO f i ag)[k]? =(ag[k]?).map fun e=>if k < i∧f k=true then F2 e else e:=by simp[eO]
theorem zx (f:Nat→Bool) (k:Nat) (ag:Lz):(jf f ag)[k]? =(ag[k]?).map fun e=>if f k=true then clE e else e:=by simp[jf]
theorem IF {f:Nat→Bool} {i:Nat} {ag:Lz} {e:List T} (he:ag[i]? =some e) (h:f i=true):eO f (i+1) ag=(eO f i ag).set i (F2 e):=by
 have hlt:=(List.getElem?_eq_some_iff.1 he).1
 apply List.ext_getElem?
 intro k
 by_cases hk:i=k
 · subst hk
   rw[List.getElem?_set_self (by rw[iY];exact hlt),jO,he]
   simp[h]
 · rw[List.getElem?_set_ne hk,jO,jO]
   have:(k < i+1∧f k=true)↔(k < i∧f k=true):=⟨fun⟨a,b⟩=>⟨by omega,b⟩,fun⟨a,b⟩=>⟨by omega,b⟩⟩
   simp only[this]
theorem IE {f:Nat→Bool} {i:Nat} {ag:Lz} (h:f i=false):eO f (i+1) ag=eO f i ag:=by
 apply List.ext_getElem?
 intro k
 rw[jO,jO]
 have:(k < i+1∧f k=true)↔(k < i∧f k=true):=⟨fun⟨a,b⟩=>⟨by rcases Nat.lt_or_ge k i with h1|h1;exact h1;exfalso;have:k=i:=(by omega);subst this;rw[h]at b;simp at b,b⟩,fun⟨a,b⟩=>⟨by omega,b⟩⟩
 simp only[this]
theorem ND (f:Nat→Bool) (ag:Lz):LeL (eO f ag.length ag) (jf f ag):=by
 refine⟨by rw[iY,iE],fun i e e' h1 h2=>?_⟩
 rw[jO]at h1
 rw[zx]at h2
 simp only[Option.map_eq_some_iff]at h1 h2
 obtain⟨a,ha,rfl⟩:=h1
 obtain⟨b,hb,rfl⟩:=h2
 rw[ha]at hb
 cases hb
 have hlt:=(List.getElem?_eq_some_iff.1 ha).1
 cases hf:f i with
 |false=>simp[LeE,PY];intro k x y h1 h2;rw[h1]at h2;cases h2;exact .inl rfl
 |true=>
  simp only[hlt,true_and,if_true,F2,clE]
  refine⟨by simp,fun k x y h1 h2=>?_⟩
  by_cases hk:6=k
  · subst hk
    have h6:6 < a.length:=by have:=(List.getElem?_eq_some_iff.1 h1).1;simpa using this
    rw[List.getElem?_set_self h6]at h1 h2
    cases h1
    cases h2
    exact .inr ⟨rfl,4,rfl⟩
  · rw[List.getElem?_set_ne hk]at h1 h2
    rw[h1]at h2
    cases h2
    exact .inl rfl
theorem O7 {e:List T} (h:P3 e):P3 (clE e):=by
 obtain⟨id,w,l,a,b,c,fl,rfl,h1,h2,h3⟩:=h
 exact⟨id,w,l,a,b,c,[],rfl,h1,fun e he=>by simp at he,by simp⟩
theorem O6 (f:Nat→Bool) {ag:Lz} (h:vZ ag):vZ (jf f ag):=fun e he=>by
 obtain⟨i,hi,rfl⟩:=List.getElem_of_mem he
 have hlt:i < ag.length:=by rw[iE]at hi;exact hi
 have:=zx f i ag
 rw[List.getElem?_eq_getElem hi,List.getElem?_eq_getElem hlt]at this
 simp only[Option.map_some,Option.some.injEq]at this
 rw[this]
 split
 · exact O7 (h _ (List.getElem_mem hlt))
 · exact h _ (List.getElem_mem hlt)
theorem Cs (f:Nat→Bool) {ag:Lz} (hR:vZ ag) {r:Int} (h0:0≤r) (h1:r < (ag.length:Int)):
 nI 1 (lO (jf f ag) r)=nI 1 (lO ag r)∧nI 2 (lO (jf f ag) r)=nI 2 (lO ag r)∧(tj (lO ag r)→tj (lO (jf f ag) r))∧nL 6 (lO (jf f ag) r)=(if f r.toNat=true then []else nL 6 (lO ag r)):=by
 have hlt:r.toNat < ag.length:=by omega
 obtain⟨id,w,l,a,b,c,fl,he,_⟩:=hR _ (List.getElem_mem hlt)
 have hg:ag[r.toNat]? =some [.val (.string id),tI w,tI l,tI a,tI b,tI c, .aA 4 fl]:=by rw[←he];simp[hlt]
 have hc:=zx f r.toNat ag
 rw[hg]at hc
 simp only[Option.map_some]at hc
 rw[jC hg,jC hc]
 cases hf:f r.toNat with
 |false=>exact⟨rfl,rfl,fun h=>h,rfl⟩
 |true=>
  refine⟨rfl,rfl,fun h=>?_,rfl⟩
  have h:=tj.of h
  exact⟨id,w,l,a,b,c,[],rfl,⟨h.id,h.rl,h.rw_,h.Rk,by simp,fun e he=>by simp at he⟩⟩
theorem O5 (f:Nat→Bool) {ln wd:Int} {aq ag aS plies:Lz} (hR:vZ ag) (h:SpL ln wd aq ag aS plies):SpL ln wd aq (jf f ag) aS plies:=by
 refine⟨⟨h.cl.back,⟨by rw[iE];exact h.cl.rs.n,fun e he=>?_,by rw[iE];exact h.cl.rs.aS⟩,h.cl.wd⟩,h.n,fun e he=>?_,by rw[iE];exact h.us⟩
 · obtain⟨i,hi,rfl⟩:=List.getElem_of_mem he
   have hlt:i < ag.length:=by rw[iE]at hi;exact hi
   have h1:=(Cs f hR (r:=(i:Int)) (by omega) (by omega)).2.2.1
   have e1:lO ag (i:Int)=ag[i]:=by simp[lO,hlt]
   have e2:lO (jf f ag) (i:Int)=(jf f ag)[i]:=by simp[lO,hi]
   rw[e1,e2]at h1
   exact h1 (h.cl.rs.all _ (List.getElem_mem hlt))
 · have hp:=h.all e he
   refine⟨hp.ne,fun i p hpi=>?_,hp.en⟩
   obtain⟨⟨⟨⟨h1,h2⟩,h3,h4,h5⟩,h6,h7,h8⟩,h9⟩:=hp.all i p hpi
   obtain⟨g1,g2,_,_⟩:=Cs f hR h1 h2
   exact⟨⟨⟨⟨h1,by rw[iE];exact h2⟩,h3,h4,by rw[g2];exact h5⟩,h6,h7,by rw[g1];exact h8⟩,h9⟩
theorem Hr (f:Nat→Bool) {l:Int} {ps ag poly:Lz} (hR:vZ ag) (h:rA l ps ag poly):
 rA l ps (jf f ag) poly∧(Dp l ps (jf f ag) poly).1=(if f (nI 0 (ri l ps poly)).toNat=true then false else(Dp l ps ag poly).1):=by
 obtain⟨_,_,g3,g4⟩:=Cs f hR h.Qm.1 h.Qm.2
 have hv:Dp l ps (jf f ag) poly=(if f (nI 0 (ri l ps poly)).toNat=true then(false,0)else Dp l ps ag poly):=by
  unfold Dp
  rw[g4]
  split
  · rfl
  · rfl
 refine⟨⟨h.car,⟨h.Qm.1,by rw[iE];exact h.Qm.2⟩,g3 h.Ry,?_⟩,?_⟩
 · rw[hv]
   split
   · rfl
   · exact h.fl
 · rw[hv]
   split<;>rfl
theorem zw (f:Nat→Bool) {pe ln wd:Int} {aq ag aS plies:Lz} (hR:vZ ag) (h:Bq pe ln wd aq ag aS plies):Bq pe ln wd aq (jf f ag) aS plies:=
 ⟨h.pe,O5 f hR h.sp,fun a k ha hk=>(Hr f hR (h.ht a k ha hk)).1⟩
def Ev (n m:Nat):List (Nat×Nat):=(List.range n).flatMap fun a=>(List.range m).map fun k=>(a,k)
theorem A7 (ag sizes places aq plies:Lz) (n:Nat):dF ag sizes places aq plies n=(Ev n aq.length).map fun p=>Hj ag sizes places (qi plies p.1) p.1 p.2 (nL 0 (qi aq p.2)):=by
 simp[dF,kz,Ev,List.map_flatMap,Function.comp_def]
theorem I5 {n m:Nat} {p:Nat×Nat} (h:p∈Ev n m):p.1 < n∧p.2 < m:=by
 simp only[Ev,List.mem_flatMap,List.mem_range,List.mem_map]at h
 obtain⟨a,ha,k,hk,rfl⟩:=h
 exact⟨ha,hk⟩
theorem A8 (f:Nat→Bool) {pe ln wd:Int} {sizes places aq ag aS plies:Lz} (hR:vZ ag) (h:Bq pe ln wd aq ag aS plies) {i:Nat} (hi:i < (dF ag sizes places aq plies plies.length).length):
 ∃p q l s r d,(dF ag sizes places aq plies plies.length)[i]? =some [tI p,tI q,tI l,tI s, .aA 1 [[tI r]],tB d]∧
  (dF (jf f ag) sizes places aq plies plies.length)[i]? =some [tI p,tI q,tI l,tI s, .aA 1 [[tI r]],tB (if f r.toNat=true then false else d)]∧0≤r:=by
 rw[A7]at hi⊢
 rw[A7]
 have hi':i < (Ev plies.length aq.length).length:=by simpa using hi
 obtain⟨h1,h2⟩:=I5 (List.getElem_mem hi')
 have hh:rA _ _ _ _:=h.ht _ _ h1 h2
 have e0:=List.getElem?_eq_getElem hi'
 generalize (Ev plies.length aq.length)[i]=ak at h1 h2 hh e0
 obtain⟨a,k⟩:=ak
 refine⟨(a:Int),(k:Int),nI 0 (qi plies a),nI 0 (lO sizes (nI 0 (lO places (k:Int)))),nI 0 (ri (nI 0 (qi plies a)) (nL 1 (qi plies a)) (nL 0 (qi aq k))),(Dp (nI 0 (qi plies a)) (nL 1 (qi plies a)) ag (nL 0 (qi aq k))).1,?_,?_,hh.Qm.1⟩
 · rw[List.getElem?_map,e0]
   rfl
 · rw[List.getElem?_map,e0]
   simp only[Option.map_some,Hj]
   rw[(Hr f hR hh).2]
theorem pW (f:Nat→Bool) (sn:ByteArray) (bz ms ps us ss os:Lz) (ln wd rx ry:Int) (sizes places plies ag aS:Lz) (hC:CK sn bz ms ps us ss os sizes places plies ag aS) (hF:QX sizes places plies ag aS):
 Tg 10 [N1 sn bz ms ps us ss os ln wd rx ry sizes places plies (eO f ag.length ag) aS] (GCt sn bz ms ps us ss os ln wd rx ry sizes places plies (jf f ag) aS):=by
 have hC2:CK sn bz ms ps us ss os sizes places plies (jf f ag) aS:=⟨hC.Rp,hC.hz,hC.jG,hC.hp,hC.ji,hC.hy,hC.kr,O6 f hC.hR,by rw[iE];exact hC.zN,hC.hlo⟩
 have hF2:QX sizes places plies (jf f ag) aS:=⟨hF.q,hF.l,⟨hF.f.p,by rw[iE];exact hF.f.r,hF.f.q⟩⟩
 obtain⟨ts,h1,h2,h3⟩:=q9 sn bz ms ps us ss os ln wd rx ry sizes places plies (jf f ag) aS hC2 hF2
 refine⟨ts,h1.PF (fun w A ρ xs hx=>?_),h2,h3⟩
 exact FL (cs:=[.t (.val (.string sn)), .t (.aA 1 bz), .t (.aA 1 ms), .t (.aA 7 ps), .t (.aA 3 us), .t (.aA 6 ss), .t (.aA 5 os), .t (tI ln), .t (tI wd), .t (tI rx), .t (tI ry), .t (.aA 1 sizes), .t (.aA 7 places), .t (.aA 2 plies), .t (.aA 7 (eO f ag.length ag)), .t (.aA 1 aS)]) (k:=14) (ND f ag) rfl w A ρ xs hx
abbrev WB (sn:ByteArray) (bz ms ps us ss os:Lz) (ln wd rx ry:Int) (sizes places plies:Lz) (c:C) (aS:Lz):List C:=
 [.t (.val (.string sn)), .t (.aA 1 bz), .t (.aA 1 ms), .t (.aA 7 ps), .t (.aA 3 us), .t (.aA 6 ss), .t (.aA 5 os), .t (tI ln), .t (tI wd), .t (tI rx), .t (tI ry), .t (.aA 1 sizes), .t (.aA 7 places), .t (.aA 2 plies),c, .t (.aA 1 aS)]
theorem EL {hp:HS} {d id sz len:Nat} {rows:List (List C)} {xs:Lz} (hf:find hp id=some (.row sz rows)) (hR:aF rows xs) (hl:len=xs.length):cV (d+1) hp (.own id sz 0 len)=some (.aA sz xs):=by
 have hl':0+len≤rows.length:=by rw[hR.len];omega
 simp only[cV,hf,true_and,hl',if_true]
 rw[hR,tP,qQ,hl]
 simp
theorem za {sn:ByteArray} {bz ms ps us ss os:Lz} {ln wd rx ry:Int} {sizes places plies ag aS:Lz} {rows:List (List C)} {id len:Nat} (hR:aF rows ag) (hl:len=ag.length):
 bK (bM [(id,bD.row 7 rows)]) [.agg (WB sn bz ms ps us ss os ln wd rx ry sizes places plies (.own id 7 0 len) aS)]=some [N1 sn bz ms ps us ss os ln wd rx ry sizes places plies ag aS]:=by
 have h2:cV 6 [(id,bD.row 7 rows)] (.own id 7 0 len)=some (.aA 7 ag):=EL (d:=5) (by simp only[find,if_true]) hR hl
 have h3: ∀t,cV 6 [(id,bD.row 7 rows)] (.t t)=some t:=fun t=>rfl
 simp only[bK,bM,h2,h3,Option.map_some]
 rfl
end Go.aU.Cd
end
