import Derived.Test.YtcaeamnhfodfoaaGreatLE
import Derived.Test.YtcaeamnhfodfoaaGreatRows
import Derived.ProofKit
set_option linter.all false
section
namespace Go.aU.Cd
open Go Go.Proofs
set_option maxRecDepth 100000
set_option maxHeartbeats 4000000
variable [CE]
def c14:Rc:=Sq (Rg [Bx 2 0,Bx 3 1,Mb 4 false]) (Sq (Sq (Rg [Fa 6 0 2,Ld 7 6,Fa 8 0 3,Ld 9 8,Bt 10 .neq 7 9,Mv 11 10,Ga 11 (Fa 12 1 2),Ga 11 (Ld 13 12),Ga 11 (Fa 14 1 3),Ga 11 (Ld 15 14),Ga 11 (Bt 16 .neq 13 15),Pt 17 11 16,Mv 18 17,Ga 18 (Fa 19 2 2),Ga 18 (Ld 20 19),Ga 18 (Fa 21 2 3),Ga 18 (Ld 22 21),Ga 18 (Bt 23 .neq 20 22),Pt 24 18 23,Mv 25 24,Ga 25 (Fa 26 3 2),Ga 25 (Ld 27 26),Ga 25 (Fa 28 3 3),Ga 25 (Ld 29 28),Ga 25 (Bt 30 .neq 27 29),Pt 31 25 30,Mv 32 31,Ga 32 (Fa 33 5 2),Ga 32 (Ld 34 33),Ga 32 (Fa 35 5 3),Ga 32 (Ld 36 35),Ga 32 (p 37 (.oT .neq (t 34) (t 36))),Pt 38 32 37,Mv 39 38,Ga 39 (Fa 40 4 2),Ga 39 (Ld 41 40),Ga 39 (Le 42 41),Ga 39 (Fa 43 4 3),Ga 39 (Ld 44 43),Ga 39 (Le 45 44),Ga 39 (Bt 46 .neq 42 45),Pt 47 39 46]) (Cn 47 (Sq (Rg [Mb 4 false]) Rt) Sk)) (Sq (Sq (Rg [Mk 5 0]) (Bk 0 (Lp (Sq (Sq (Rg [Mv 48 5,Fa 49 4 2,Ld 50 49,Le 51 50,Bt 52 .lss 48 51]) (Cn 52 Sk (Ex 0))) (Sq (Bk 1 (Sq (Dr [Fa 55 4 2,Ld 56 55,Mv 57 5,Ia 58 1 56 57,Ld 59 58,Fa 60 4 3,Ld 61 60,Mv 62 5,Ia 63 1 61 62,Ld 64 63,Bt 65 .neq 59 64] [[],[0],[],[1,2],[3],[],[5],[],[6,7],[8],[4,9]]) (Cn 65 (Sq (Rg [Mb 4 false]) Rt) Sk))) (Rg [Mv 53 5,Bi 54 .add 53 1,Mv 5 54])))))) (Sq (Rg [Mb 4 true]) Rt)))
theorem auU:ae Tryz.prog (Tryz.f14.body.getD .skip)=some c14:=by kernel_rfl
theorem axS:Tryz.f14.body=some (Tryz.f14.body.getD .skip):=rfl
def c5:Rc:=Sq (Rg [Bx 2 0,Mb 4 false]) (Sq (Sq (Rg [Lo 16 17 2,p 18 (.call 8 [t 17]),Nt 19 18]) (Cn 19 (Sq (Rg [p 20 (.call 9 []),Mv 4 20]) Rt) Sk)) (Sq (Rg [Lo 16 22 2,p 23 (.call 10 [t 22]),Mv 21 23,Et 24 21 0,Et 25 21 1,Mv 5 24,Mv 6 25]) (Sq (Sq (Rg [Mv 26 6,Bi 27 .neq 26 0]) (Cn 27 (Sq (Rg [p 28 (.call 9 []),Mv 4 28]) Rt) Sk)) (Sq (Dr [Lo 16 29 2,Lo 16 30 2,p 7 (.alloc [.t (.val (.string ⟨#[]⟩)),zn,zn,zn,zn,zn,zn,zi,zi,zi,zi,zn,zn,zn,zn,zn]),p 8 (.alloc [.t (.val (.string ⟨#[]⟩)),zn,zn,zn,zn,zn,zn,zi,zi,zi,zi,zn,zn,zn,zn,zn]),So 16 7 29,So 16 8 30] [[],[],[],[],[2,0,0,2,3],[3,1,4,0,1,2,3,4]]) (Sq (Rg [p 31 (.bc [.t (.val (.string ⟨#[]⟩)),zi,zi,zi,zi,zi,zn] 0 []),Fa 32 14 2,Ld 33 32,p 34 (.append 7 80 (t 31) (t 33)),Fa 35 14 7,So 1 35 34]) (Sq (Rg [p 36 (.bc [.t (.val (.string ⟨#[]⟩)),zi,zi,zi,zi,zi,zn] 0 []),Fa 37 14 2,Ld 38 37,p 39 (.append 7 80 (t 36) (t 38)),Fa 40 14 8,So 1 40 39]) (Sq (Sq (Rg [Mk 9 0]) (Bk 0 (Lp (Sq (Sq (Rg [Mv 41 9,Fa 42 14 2,Ld 43 42,Le 44 43,Bt 45 .lss 41 44]) (Cn 45 Sk (Ex 0))) (Sq (Bk 1 (Sq (Rg [Fa 48 14 7,Ld 49 48,Mv 50 9,Ia 51 7 49 50,Fa 52 6 51,q (.store 1 (t 52) kn)]) (Sq (Rg [Mv 53 9,Mv 54 1,p 55 (.conv .i64 (t 54)),Bt 56 .eql 53 55]) (Cn 56 (Rg [Fa 57 14 8,Ld 58 57,Mv 59 9,Ia 60 7 58 59,Fa 61 6 60,q (.store 1 (t 61) kn)]) Sk)))) (Rg [Mv 46 9,Bi 47 .add 46 1,Mv 9 47])))))) (Sq (Rg [Lo 16 63 7,p 64 (.call 10 [t 63]),Mv 62 64,Et 65 62 0,Et 66 62 1,Mv 10 65,Mv 11 66]) (Sq (Rg [Lo 16 68 8,p 69 (.call 10 [t 68]),Mv 67 69,Et 70 67 0,Et 71 67 1,Mv 12 70,Mv 13 71]) (Sq (Sq (Rg [Mv 72 11,Bi 73 .neq 72 0,Mv 74 73,Ga 74 (Mv 75 13),Ga 74 (Bi 76 .neq 75 0),Pt 77 74 76,Mv 78 77,Ga 78 (Mv 79 10),Ga 78 (Le 80 79),Ga 78 (Mv 81 5),Ga 78 (Le 82 81),Ga 78 (Bt 83 .neq 80 82),Pt 84 78 83,Mv 85 84,Ga 85 (Mv 86 12),Ga 85 (Le 87 86),Ga 85 (Mv 88 5),Ga 85 (Le 89 88),Ga 85 (Bt 90 .neq 87 89),Pt 91 85 90]) (Cn 91 (Sq (Rg [Mb 4 false]) Rt) Sk)) (Sq (Sq (Rg [Mk 14 0]) (Bk 2 (Lp (Sq (Sq (Rg [Mv 92 14,Mv 93 5,Le 94 93,Bt 95 .lss 92 94]) (Cn 95 Sk (Ex 2))) (Sq (Bk 3 (Sq (Dr [Mv 98 5,Mv 99 14,Ia 100 6 98 99,Lo 6 101 100,Mv 102 5,Mv 103 14,Ia 104 6 102 103,Lo 6 105 104,p 15 (.alloc [zi,zi,zi,zi,zn,zb]),p 16 (.alloc [zi,zi,zi,zi,zn,zb]),So 6 15 101,So 6 16 105] [[],[],[0,1],[2],[],[],[4,5],[6],[],[],[8,3,0,1,2,3,8,9],[9,7,10,0,1,2,3,4,5,6,7,8,9,10]]) (Sq (Rg [Fa 106 5 15,q (.store 1 (t 106) (kb false))]) (Sq (Sq (Rg [Mv 107 5,Mv 108 14,Ia 109 6 107 108,Fa 110 4 109,Ld 111 110,Le 112 111,Bi 113 .neq 112 1]) (Cn 113 (Sq (Rg [Mb 4 false]) Rt) Sk)) (Sq (Sq (Rg [Mv 114 5,Mv 115 14,Ia 116 6 114 115,Fa 117 4 116,Ld 118 117,p 119 (.fJ 1 (t 118) (k 0)),Ld 120 119,Mv 121 1,p 122 (.conv .i64 (t 121)),Bt 123 .eql 120 122]) (Cn 123 (Rg [Fa 124 5 16,q (.store 1 (t 124) (kb false))]) Sk)) (Sq (Dr [Mv 125 10,Mv 126 14,Ia 127 6 125 126,Lo 6 128 127,Lo 6 129 15,p 130 (.call 14 [t 128,t 129]),Nt 131 130,Mv 132 131,Ga 132 (Mv 133 12),Ga 132 (Mv 134 14),Ga 132 (Ia 135 6 133 134),Ga 132 (Lo 6 136 135),Ga 132 (Lo 6 137 16),Ga 132 (p 138 (.call 14 [t 136,t 137])),Ga 132 (Nt 139 138),Pt 140 132 139] [[],[],[0,1],[2],[],[3,4],[5],[6,5],[7],[7],[8,9,7],[10,7],[7],[11,12,7,7],[13,7],[7,14]]) (Cn 140 (Sq (Rg [Mb 4 false]) Rt) Sk))))))) (Rg [Mv 96 14,Bi 97 .add 96 1,Mv 14 97])))))) (Sq (Rg [p 141 (.call 9 []),Mv 4 141]) Rt))))))))))))
theorem ck5:ae Tryz.prog (Tryz.f5.body.getD .skip)=some c5:=by kernel_rfl
theorem bk5:Tryz.f5.body=some (Tryz.f5.body.getD .skip):=rfl
def RE2 (r1 r2:List T) (m:Nat) (vs:List V) (xss:List (Lz)):Prop:= ∃i:Nat,i≤1∧m=1 - i∧vs=[iV .i64 (i:Int)]∧xss=[[r1],[r2]]
def GEq (h:Prop) (ts:List W):Prop:= ∃b,ts=[oB b]∧(h→b=true)
theorem R7 {a b:Bool} (h:(a !=b)=true):¬a=b:=by simpa using h
theorem jx (p q l s r p2 q2 l2 s2 r2:Int) (d d2:Bool):Tg 14 [N2 p q l s (.aA 1 [[tI r]]) d,N2 p2 q2 l2 s2 (.aA 1 [[tI r2]]) d2] (GEq (p=p2∧q=q2∧l=l2∧s=s2∧d=d2∧r=r2)):=by
 refine ah (n:=66) (rs:=[.tmp 4]) Tryz.func14 axS auU rfl rfl (by simp) ?_
 repeat' (conv=>whnf
          first
  |(refine aD (fun h=>?_) (fun h=>?_))
  |(refine bY (fun h=>?_) (fun h=>?_))
  |(refine aI (fun h=>?_) (fun h=>?_))
  |(refine aC (xs:=[[tI r]]) (Pd:=fun e=>e=[tI r]) (by simp) (by omega) (by simp;omega) ?_;rintro _ rfl lC;have H9:i < 1:=(by simp at h;omega))
  |(refine aC (xs:=[[tI r2]]) (Pd:=fun e=>e=[tI r2]) (by simp) (by omega) (by simp;omega) ?_;rintro _ rfl kJ)
  |(refine And.intro (by kernel_rfl) ?_)
  |exact g1 rfl rfl ⟨_,rfl,fun _=>rfl⟩
  |exact g1 rfl rfl ⟨_,rfl,fun hh=>absurd hh.1 (by assumption)⟩
  |exact g1 rfl rfl ⟨_,rfl,fun hh=>absurd hh.2.1 (by assumption)⟩
  |exact g1 rfl rfl ⟨_,rfl,fun hh=>absurd hh.2.2.1 (by assumption)⟩
  |exact g1 rfl rfl ⟨_,rfl,fun hh=>absurd hh.2.2.2.1 (by assumption)⟩
  |exact g1 rfl rfl ⟨_,rfl,fun hh=>absurd hh.2.2.2.2.1 (R7 (by assumption))⟩
  |exact g1 rfl rfl ⟨_,rfl,fun hh=>absurd hh.2.2.2.2.2 (by assumption)⟩
  |(apply bH [2,3,5] [] [5] [(4,6),(8,6)] (RE2 [tI p,tI q,tI l,tI s, .aA 1 [[tI r]],tB d] [tI p2,tI q2,tI l2,tI s2, .aA 1 [[tI r2]],tB d2]) (1) [iV .i64 0];(conv=>whnf);exact⟨rfl,rfl,rfl,rfl⟩;exact rfl;exact rfl;exact .cons (aF.az (xs:=[[tI p,tI q,tI l,tI s, .aA 1 [[tI r]],tB d]]) rfl _) (.cons (aF.az (xs:=[[tI p2,tI q2,tI l2,tI s2, .aA 1 [[tI r2]],tB d2]]) rfl _) .nil);exact⟨0,by omega,rfl,rfl,rfl⟩;rintro _ _ _ ⟨i,hi,rfl,rfl,rfl⟩)
  |(refine au [2,3,5] [] ?_;(conv=>whnf);exact⟨rfl,_,[_],_, .cons (aF.az (xs:=[[tI p,tI q,tI l,tI s, .aA 1 [[tI r]],tB d]]) rfl _) (.cons (aF.az (xs:=[[tI p2,tI q2,tI l2,tI s2, .aA 1 [[tI r2]],tB d2]]) rfl _) .nil),⟨i+1,by omega,rfl,by rw[bt (by omega) (by omega)];rfl,rfl⟩,rfl,rfl,by omega⟩))
 all_goals (conv=>whnf)
def ayJ (e:List T):Prop:= ∃id w l a b c x,e=[.val (.string id),tI w,tI l,tI a,tI b,tI c,x]
theorem FH (f:Nat→Bool) (i:Nat) {RL:Lz} (hR:vZ RL): ∀e,e∈eO f i RL→ayJ e:=fun e he=>by
 obtain⟨k,hk,rfl⟩:=List.getElem_of_mem he
 have hlt:k < RL.length:=by rw[iY]at hk;exact hk
 have:=jO f i k RL
 rw[List.getElem?_eq_getElem hk,List.getElem?_eq_getElem hlt]at this
 simp only[Option.map_some,Option.some.injEq]at this
 rw[this]
 obtain⟨id,w,l,a,b,c,fl,h1,_⟩:=hR _ (List.getElem_mem hlt)
 rw[h1]
 split
 · exact⟨id,w,l,a,b,c,_,rfl⟩
 · exact⟨id,w,l,a,b,c,_,rfl⟩
theorem NE {f:Nat→Bool} {i:Nat} {RL:Lz} {e:List T} (hs:(eO f i RL)[0+((i:Int)).toNat]? =some e):RL[i]? =some e:=by
 rw[Nat.zero_add,Int.toNat_natCast,jO]at hs
 simp only[Nat.lt_irrefl,false_and,if_false,Option.map_id']at hs
 simpa using hs
theorem qB {f:Nat→Bool} {i:Nat} {RL:Lz} {y:List (List C)} {id:ByteArray} {w l a b c:Int} {x:T} (hs:(eO f i RL)[0+((i:Int)).toNat]? =some [.val (.string id),tI w,tI l,tI a,tI b,tI c,x]) (hf:f i=true) (h:aF y ((eO f i RL).set (0+((i:Int)).toNat) [.val (.string id),tI w,tI l,tI a,tI b,tI c, .val (.slice none 0 0)])):aF y (eO f (i+1) RL):=by
 rw[IF (NE hs) hf]
 simpa[F2]using h
theorem DY {f:Nat→Bool} {i:Nat} {RL:Lz} {y:List (List C)} (hf:f i=false) (h:aF y (eO f i RL)):aF y (eO f (i+1) RL):=by
 rw[IE hf]
 exact h
abbrev Ks (rl:Int):Nat→Bool:=fun k=>decide ((k:Int)=rl)
def RFl (row:List C) (bx:C→List C) (RL:Lz) (rl:Int) (m:Nat) (vs:List V) (hq:HS):Prop:= ∃ (i k1 k2:Nat) (y1 y2:List (List C)),i≤RL.length∧m=RL.length - i∧vs=[iV .i64 (i:Int)]∧(k1=RL.length∧aF y1 (eO (fun _=>true) i RL))∧(k2=RL.length∧aF y2 (eO (Ks rl) i RL))∧hq=[(4, .row 16 [row]),(8, .row 16 [bx (.own 16 7 0 k1)]),(12, .row 16 [bx (.own 20 7 0 k2)]),(16, .row 7 y1),(20, .row 7 y2)]
theorem Dx {M:Nat} {ag sizes places aq plies bn:Lz} (h:bn=dF ag sizes places aq plies plies.length) (hA:Bw sizes places M aq) (hq:places.length≤20) (hp:plies.length≤12):bn.length≤maxLen:=by
 subst h
 rw[fM]
 have:plies.length * aq.length≤12 * 20:=Nat.mul_le_mul hp (by have:=hA.2.1;omega)
 simp only[maxLen]
 omega
theorem vE {rl:Int} {pe ln wd:Int} {sizes places aq ag aS plies bn ca cb:Lz} (hR:vZ ag) (h:Bq pe ln wd aq ag aS plies) (h1:bn=dF ag sizes places aq plies plies.length) (h2:ca=dF (jf (fun _=>true) ag) sizes places aq plies plies.length) (h3:cb=dF (jf (Ks rl) ag) sizes places aq plies plies.length) {i:Nat} (hi:(i:Int) < (bn.length:Int)):
 ∃p q l s r d d2,bn[((i:Int)).toNat]? =some [tI p,tI q,tI l,tI s, .aA 1 [[tI r]],tB d]∧ca[((i:Int)).toNat]? =some [tI p,tI q,tI l,tI s, .aA 1 [[tI r]],tB false]∧cb[((i:Int)).toNat]? =some [tI p,tI q,tI l,tI s, .aA 1 [[tI r]],tB d2]∧(r=rl→d2=false)∧(¬r=rl→d2=d):=by
 subst h1 h2 h3
 have hlt:i < (dF ag sizes places aq plies plies.length).length:=by omega
 obtain⟨p,q,l,s,r,d,g1,g2,g3⟩:=A8 (fun _=>true) hR h (i:=i) hlt
 obtain⟨p',q',l',s',r',d',k1,k2,k3⟩:=A8 (Ks rl) hR h (i:=i) hlt
 rw[g1]at k1
 simp only[Option.some.injEq,List.cons.injEq,T.val.injEq,Value.int.injEq,T.aA.injEq,Value.bool.injEq,true_and,and_true]at k1
 obtain⟨rfl,rfl,rfl,rfl,rfl,rfl⟩:=k1
 refine⟨p,q,l,s,r,d,_,by simpa using g1,by simpa using g2,by simpa using k2,fun hr=>?_,fun hr=>?_⟩
 · rw[Int.max_eq_left g3,hr];simp
 · rw[Int.max_eq_left g3];simp[hr]
theorem auX (sn:ByteArray) (bz ms ps us ss os:Lz) (ln wd rx ry:Int) (sizes places plies:Lz) (r0:List T) (rt:Lz) (aS:Lz) (hC:CK sn bz ms ps us ss os sizes places plies (r0::rt) aS) (n:Int) (ha:zL):Tg 5 [N1 sn bz ms ps us ss os ln wd rx ry sizes places plies (r0::rt) aS, .one (.t (.val (.int .u8 n)))] GTr:=by
 refine ah (n:=142) (rs:=[.tmp 4]) Tryz.func5 bk5 ck5 rfl rfl (by simp) ?_
 repeat' (conv=>whnf
          first
  |(refine aD (fun h=>?_) (fun h=>?_))
  |(refine bY (fun h=>?_) (fun h=>?_))
  |(refine aI (fun h=>?_) (fun h=>?_))
  |(have hF:=hb (mI (by assumption));have hrl:rt.length+1≤6:=hF.f.r;have aFd:(r0::rt).length≤6:=hF.f.r;refine And.intro ⟨rfl,by simp only[List.length_nil,List.length_map,aX];omega,by simp only[List.length_nil,List.length_map,maxLen];omega⟩ ?_)
  |(refine Exists.intro [tI r] (And.intro (show [[tI r]][Int.toNat 0]? =some [tI r]from rfl) ?_))
  |(refine And.intro (by omega) (Exists.intro _ (And.intro g1 ?_)))
  |(refine And.intro (by omega) (Exists.intro _ (And.intro g2 ?_)))
  |(refine And.intro (by omega) (Exists.intro _ (And.intro g3 ?_)))
  |(obtain⟨p,q,l,s,r,d,d2,g1,g2,g3,gd1,gd2⟩:=vE hC.hR OE dK hca hcb (i:=j) (by omega);refine And.intro (by omega) (Exists.intro _ (And.intro g1 ?_)))
  |(refine And.intro (by kernel_rfl) ?_)
  |(refine And.intro (by omega) ?_)
  |(refine ai rfl (kM sn bz ms ps us ss os hC.Rp ln wd rx ry sizes places plies (r0::rt) aS hC.hy hC.kr hC.hR hC.zN) ?_;rintro _ ⟨b,rfl,hb⟩)
  |(refine ai rfl (ha) ?_;rintro _ rfl)
  |(have hg:=hee;refine xX 20 rfl (by rfl) (za Qr (by rw[iY])) (pW (Ks (IntKind.i64.wrap n)) sn bz ms ps us ss os ln wd rx ry sizes places plies (r0::rt) aS hC hF) ?_;rintro _ ⟨cb,eb,rfl,jc,kU⟩;obtain rfl:eb=0:=jc.2 (zw _ hC.hR OE);have hcb:=(kU rfl).1;have hlb:cb.length=bn.length:=(by rw[hcb,dK,fM,fM]);clear jc kU)
  |(have hie:i=((r0::rt):Lz).length:=(by simp at *;omega);subst hie;have hF:=hb (mI (by assumption));refine xX 16 rfl (by rfl) (za qK (by rw[iY])) (pW (fun _=>true) sn bz ms ps us ss os ln wd rx ry sizes places plies (r0::rt) aS hC hF) ?_;rintro _ ⟨ca,ea,rfl,ha1,ha2⟩;have OE:=he1.1 (by assumption);obtain rfl:ea=0:=ha1.2 (zw _ hC.hR OE);have hca:=(ha2 rfl).1;have dK:=(Df (by assumption)).1;have hla:ca.length=bn.length:=(by rw[hca,dK,fM,fM]);have hcm:=Dx dK (Df (by assumption)).2 hF.q hF.f.p;have hee:True:=trivial;clear ha1 ha2)
  |(refine ai rfl (q9 sn bz ms ps us ss os ln wd rx ry sizes places plies (r0::rt) aS hC (hb (mI (by assumption)))) ?_;rintro _ ⟨bn,e,rfl,he1,Df⟩)
  |(refine aB rfl (jx _ _ _ _ _ _ _ _ _ _ _ _) ?_;rintro _ ⟨bq,rfl,hq⟩)
  |(refine cj (xs:=eO (fun _=>true) i (r0::rt)) qK (FH _ _ hC.hR) (by rw[iY];omega) ?_;rintro _ ⟨id1,w1,l1,a1,b1,c1,x1,rfl⟩ hs1)
  |(refine cj (xs:=eO (Ks (IntKind.i64.wrap n)) i (r0::rt)) Qr (FH _ _ hC.hR) (by rw[iY];omega) ?_;rintro _ ⟨HW,w2,l2,a2,b2,c2,x2,rfl⟩ cg)
  |exact g1 rfl rfl rfl
  |(exfalso;have jc:=hq ⟨rfl,rfl,rfl,rfl,rfl,rfl⟩;simp[jc]at h;done)
  |(exfalso;have jc:=hq ⟨rfl,rfl,rfl,rfl,gd1 (by assumption),rfl⟩;simp[jc]at h;done)
  |(exfalso;have jc:=hq ⟨rfl,rfl,rfl,rfl,gd2 (by assumption),rfl⟩;simp[jc]at h;done)
  |(exfalso;omega)
  |(apply aO [1,5,10,12,14] [] [14] (RI bn.length) (bn.length) [iV .i64 0];(conv=>whnf);exact⟨rfl,rfl,rfl,rfl⟩;exact rfl;exact rfl;exact RI.zero;rintro _ _ ⟨j,hj,rfl,rfl⟩)
  |(refine au [1,5,10,12,14] [] ?_;(conv=>whnf);exact⟨rfl,_,[_],RI.succ (N:=bn.length) (i:=j) (by omega) hcm,rfl,rfl,rfl,by omega⟩)
  |(apply ct [1,2,5,7,8,9] [(7,14),(8,14)] [9] (RFl (WB sn bz ms ps us ss os ln wd rx ry sizes places plies (.t (.aA 7 (r0::rt))) aS) (fun c=>WB sn bz ms ps us ss os ln wd rx ry sizes places plies c aS) (r0::rt) (IntKind.i64.wrap n)) ((r0::rt).length) [iV .i64 0];(conv=>whnf);exact⟨rfl,rfl,rfl,rfl⟩;exact rfl;exact rfl;exact⟨0,_,_,_,_,by omega,rfl,rfl,⟨by simp,by rw[po];exact aF.az (xs:=(r0::rt)) rfl _⟩,⟨by simp,by rw[po];exact aF.az (xs:=(r0::rt)) rfl _⟩,rfl⟩;rintro _ _ _ ⟨i,_,_,y1,y2,hi,rfl,rfl,⟨rfl,qK⟩,⟨rfl,Qr⟩,rfl⟩)
  |(refine au [1,2,5,7,8,9] [(7,14),(8,14)] ?_;(conv=>whnf);first|exact⟨rfl,_,[_],⟨i+1,_,_,_,_,by omega,rfl,by rw[bt (by omega) (by omega)];rfl,⟨rfl,qB hs1 rfl ((aF.set qK _ [_,tI _,tI _,tI _,tI _,tI _,_]).az _)⟩,⟨rfl,qB cg (by simp only[Ks,decide_eq_true_eq];omega) ((aF.set Qr _ [_,tI _,tI _,tI _,tI _,tI _,_]).az _)⟩,rfl⟩,rfl,rfl,by omega⟩|exact⟨rfl,_,[_],⟨i+1,_,_,_,_,by omega,rfl,by rw[bt (by omega) (by omega)];rfl,⟨rfl,qB hs1 rfl ((aF.set qK _ [_,tI _,tI _,tI _,tI _,tI _,_]).az _)⟩,⟨rfl,DY (by simp only[Ks,decide_eq_false_iff_not];omega) (Qr.az _)⟩,rfl⟩,rfl,rfl,by omega⟩))
 all_goals (conv=>whnf)
theorem auW (sn:ByteArray) (bz ms ps us ss os:Lz) (ln wd rx ry:Int) (sizes places plies:Lz) (aS:Lz) (hC:CK sn bz ms ps us ss os sizes places plies ([]:Lz) aS) (n:Int) (ha:zL):Tg 5 [N1 sn bz ms ps us ss os ln wd rx ry sizes places plies ([]:Lz) aS, .one (.t (.val (.int .u8 n)))] GTr:=by
 refine ah (n:=142) (rs:=[.tmp 4]) Tryz.func5 bk5 ck5 rfl rfl (by simp) ?_
 repeat' (conv=>whnf
          first
  |(refine aD (fun h=>?_) (fun h=>?_))
  |(refine bY (fun h=>?_) (fun h=>?_))
  |(refine aI (fun h=>?_) (fun h=>?_))
  |(refine Exists.intro [tI r] (And.intro (show [[tI r]][Int.toNat 0]? =some [tI r]from rfl) ?_))
  |(refine And.intro (by omega) (Exists.intro _ (And.intro g1 ?_)))
  |(refine And.intro (by omega) (Exists.intro _ (And.intro g2 ?_)))
  |(refine And.intro (by omega) (Exists.intro _ (And.intro g3 ?_)))
  |(obtain⟨p,q,l,s,r,d,d2,g1,g2,g3,gd1,gd2⟩:=vE hC.hR OE dK hca hcb (i:=j) (by omega);refine And.intro (by omega) (Exists.intro _ (And.intro g1 ?_)))
  |(refine And.intro (by kernel_rfl) ?_)
  |(refine And.intro (by omega) ?_)
  |(refine ai rfl (kM sn bz ms ps us ss os hC.Rp ln wd rx ry sizes places plies ([]:Lz) aS hC.hy hC.kr hC.hR hC.zN) ?_;rintro _ ⟨b,rfl,hb⟩)
  |(refine ai rfl (ha) ?_;rintro _ rfl)
  |(have hg:=hee;refine xX 20 rfl (by rfl) (za Qr (by rw[iY])) (pW (Ks (IntKind.i64.wrap n)) sn bz ms ps us ss os ln wd rx ry sizes places plies ([]:Lz) aS hC hF) ?_;rintro _ ⟨cb,eb,rfl,jc,kU⟩;obtain rfl:eb=0:=jc.2 (zw _ hC.hR OE);have hcb:=(kU rfl).1;have hlb:cb.length=bn.length:=(by rw[hcb,dK,fM,fM]);clear jc kU)
  |(have hie:i=(([]:Lz):Lz).length:=(Nat.le_antisymm hi (Nat.zero_le _));subst hie;have hF:=hb (mI (by assumption));refine xX 16 rfl (by rfl) (za qK (by rw[iY])) (pW (fun _=>true) sn bz ms ps us ss os ln wd rx ry sizes places plies ([]:Lz) aS hC hF) ?_;rintro _ ⟨ca,ea,rfl,ha1,ha2⟩;have OE:=he1.1 (by assumption);obtain rfl:ea=0:=ha1.2 (zw _ hC.hR OE);have hca:=(ha2 rfl).1;have dK:=(Df (by assumption)).1;have hla:ca.length=bn.length:=(by rw[hca,dK,fM,fM]);have hcm:=Dx dK (Df (by assumption)).2 hF.q hF.f.p;have hee:True:=trivial;clear ha1 ha2)
  |(refine ai rfl (q9 sn bz ms ps us ss os ln wd rx ry sizes places plies ([]:Lz) aS hC (hb (mI (by assumption)))) ?_;rintro _ ⟨bn,e,rfl,he1,Df⟩)
  |(refine aB rfl (jx _ _ _ _ _ _ _ _ _ _ _ _) ?_;rintro _ ⟨bq,rfl,hq⟩)
  |exact g1 rfl rfl rfl
  |(exfalso;have jc:=hq ⟨rfl,rfl,rfl,rfl,rfl,rfl⟩;simp[jc]at h;done)
  |(exfalso;have jc:=hq ⟨rfl,rfl,rfl,rfl,gd1 (by assumption),rfl⟩;simp[jc]at h;done)
  |(exfalso;have jc:=hq ⟨rfl,rfl,rfl,rfl,gd2 (by assumption),rfl⟩;simp[jc]at h;done)
  |(exfalso;omega)
  |(apply aO [1,5,10,12,14] [] [14] (RI bn.length) (bn.length) [iV .i64 0];(conv=>whnf);exact⟨rfl,rfl,rfl,rfl⟩;exact rfl;exact rfl;exact RI.zero;rintro _ _ ⟨j,hj,rfl,rfl⟩)
  |(refine au [1,5,10,12,14] [] ?_;(conv=>whnf);exact⟨rfl,_,[_],RI.succ (N:=bn.length) (i:=j) (by omega) hcm,rfl,rfl,rfl,by omega⟩)
  |(apply ct [1,2,5,7,8,9] [(7,14),(8,14)] [9] (RFl (WB sn bz ms ps us ss os ln wd rx ry sizes places plies (.t (.aA 7 ([]:Lz))) aS) (fun c=>WB sn bz ms ps us ss os ln wd rx ry sizes places plies c aS) ([]:Lz) (IntKind.i64.wrap n)) (([]:Lz).length) [iV .i64 0];(conv=>whnf);exact⟨rfl,rfl,rfl,rfl⟩;exact rfl;exact rfl;exact⟨0,_,_,_,_,by omega,rfl,rfl,⟨by simp,by rw[po];exact aF.az (xs:=([]:Lz)) rfl _⟩,⟨by simp,by rw[po];exact aF.az (xs:=([]:Lz)) rfl _⟩,rfl⟩;rintro _ _ _ ⟨i,_,_,y1,y2,hi,rfl,rfl,⟨rfl,qK⟩,⟨rfl,Qr⟩,rfl⟩))
 all_goals (conv=>whnf)
theorem qJ (hw:zL) {x:List T} (h:iN O3 x) {n:Int} (_h1:0≤n) (_h2:n < 256):Fn Tryz.prog 5 [.agg (x.map .t), .one (.t (.val (.int .u8 n)))] [] (bV true) []:=by
 obtain⟨sn,bz,ms,ps,us,ss,os,ln,wd,rx,ry,sizes,places,plies,ag,aS,rfl,hC,Sx⟩:=WA h
 cases ag with
 |nil=>
  obtain⟨ts,f,_,rfl⟩:=auW sn bz ms ps us ss os ln wd rx ry sizes places plies aS hC n hw
  exact f
 |cons r0 rt=>
  obtain⟨ts,f,_,rfl⟩:=auX sn bz ms ps us ss os ln wd rx ry sizes places plies r0 rt aS hC n hw
  exact f
end Go.aU.Cd
end
section
namespace Go.aU.Cd
open Go Go.Proofs
set_option maxRecDepth 100000
set_option maxHeartbeats 2000000
variable [CE]
def c4:Rc:=Sq (Rg [Bx 1 0,Mb 2 false]) (Sq (Sq (Rg [Lo 16 13 1,p 14 (.call 8 [t 13]),Nt 15 14]) (Cn 15 (Sq (Rg [p 16 (.call 9 []),Mv 2 16]) Rt) Sk)) (Sq (Rg [Lo 16 18 1,p 19 (.call 10 [t 18]),Mv 17 19,Et 20 17 0,Et 21 17 1,Mv 3 20,Mv 4 21]) (Sq (Sq (Rg [Mv 22 4,Bi 23 .neq 22 0]) (Cn 23 (Sq (Rg [p 24 (.call 9 []),Mv 2 24]) Rt) Sk)) (Sq (Rg [Mk 5 0]) (Sq (Sq (Rg [Mk 6 0]) (Bk 0 (Lp (Sq (Sq (Rg [Mv 25 6,Mv 26 3,Le 27 26,Bt 28 .lss 25 27]) (Cn 28 Sk (Ex 0))) (Sq (Bk 1 (Sq (Rg [Mv 31 3,Mv 32 6,Ia 33 6 31 32,Fa 34 5 33,Ld 35 34,Nt 36 35]) (Cn 36 (Rg [Mv 37 5,Bi 38 .add 37 1,Mv 5 38]) Sk))) (Rg [Mv 29 6,Bi 30 .add 29 1,Mv 6 30])))))) (Sq (Rg [Mk 7 0]) (Sq (Sq (Rg [Mk 8 0]) (Bk 2 (Lp (Sq (Sq (Rg [Mv 39 8,Fa 40 0 1,Fa 41 1 40,Ld 42 41,Le 43 42,Bt 44 .lss 39 43]) (Cn 44 Sk (Ex 2))) (Sq (Bk 3 (Sq (Rg [Mk 9 0]) (Sq (Sq (Rg [Mk 10 0]) (Bk 4 (Lp (Sq (Sq (Rg [Mv 47 10,Fa 48 7 1,Fa 49 0 48,Fa 50 5 49,Ld 51 50,Le 52 51,Bt 53 .lss 47 52]) (Cn 53 Sk (Ex 4))) (Sq (Bk 5 (Sq (Rg [Fa 56 7 1,Fa 57 0 56,Fa 58 5 57,Ld 59 58,Mv 60 10,Ia 61 7 59 60,Fa 62 0 61,Ld 63 62,Mv 11 63]) (Sq (Sq (Rg [Mv 64 11,Bi 65 .lss 64 0,Mv 66 65,Ga 66 (Mv 67 11),Ga 66 (Fa 68 7 1),Ga 66 (Fa 69 0 68),Ga 66 (Fa 70 4 69),Ga 66 (Ld 71 70),Ga 66 (Le 72 71),Ga 66 (Bt 73 .geq 67 72),Pt 74 66 73]) (Cn 74 (Sq (Rg [Mb 2 false]) Rt) Sk)) (Sq (Rg [Fa 75 7 1,Fa 76 0 75,Fa 77 4 76,Ld 78 77,Mv 79 11,Ia 80 1 78 79,Ld 81 80,Mv 82 8,Bt 83 .eql 81 82]) (Cn 83 (Rg [Mv 84 9,Bi 85 .add 84 1,Mv 9 85]) Sk))))) (Rg [Mv 54 10,Bi 55 .add 54 1,Mv 10 55])))))) (Sq (Rg [Mv 86 3,Mv 87 8,p 88 (.call 13 [t 86,t 87]),Mv 12 88]) (Sq (Sq (Rg [Mv 89 12,Bi 90 .lss 89 0,Mv 91 90,Ga 91 (Mv 92 12),Ga 91 (Mv 93 9),Ga 91 (Fa 94 7 1),Ga 91 (Fa 95 6 94),Ga 91 (Ld 96 95),Ga 91 (Le 97 96),Ga 91 (Bt 98 .mul 93 97),Ga 91 (Bt 99 .gtr 92 98),Pt 100 91 99]) (Cn 100 (Sq (Rg [Mb 2 false]) Rt) Sk)) (Rg [Mv 101 7,Mv 102 12,Bt 103 .add 101 102,Mv 7 103])))))) (Rg [Mv 45 8,Bi 46 .add 45 1,Mv 8 46])))))) (Sq (Rg [Mv 104 7,Mv 105 5,Bt 106 .eql 104 105,Mv 107 106,Gb 107 (Mv 108 3),Gb 107 (p 109 (.call 13 [t 108,(k (-1))])),Gb 107 (Bi 110 .eql 109 0),Pf 111 107 110,Mv 112 111,Gb 112 (p 113 (.call 9 [])),Pf 114 112 113,Mv 2 114]) Rt))))))))
def RCw (row:List T) (bn:Lz) (m:Nat) (vs:List V) (xss:List (Lz)):Prop:= ∃ (i:Nat) (n:Int),i≤bn.length∧m=bn.length - i∧vs=[iV .i64 n,iV .i64 (i:Int)]∧n=((bn.take i).countP IV:Int)∧xss=[[row]]
theorem C7 {bn:Lz} {i:Nat} {e:List T} (hs:bn[((i:Int)).toNat]? =some e):(bn.take (i+1)).countP IV=(bn.take i).countP IV+if IV e=true then 1 else 0:=by
 have hs':bn[i]? =some e:=by simpa using hs
 rw[List.take_add_one,hs',List.countP_append]
 simp[List.countP_cons]
theorem RCw.hit {row:List T} {p q l s:Int} {x:T} {d:Bool} {bn:Lz} {i:Nat} {n:Int} (hi:(i:Int) < (bn.length:Int)) (hl:bn.length≤1000000) (hn:n=((bn.take i).countP IV:Int)) (hs:bn[((i:Int)).toNat]? =some [tI p,tI q,tI l,tI s,x,tB d]) (h2:(!d)=true):RCw row bn (bn.length - (i+1)) [iV .i64 (IntKind.i64.wrap (n+1)),iV .i64 (IntKind.i64.wrap ((i:Int)+1))] [[row]]:=by
 have hb:(bn.take i).countP IV≤i:=Nat.le_trans List.countP_le_length (by rw[List.length_take];omega)
 refine⟨i+1,n+1,by omega,rfl,by rw[bt (by omega) (by omega),bt (by omega) (by omega)];rfl,?_,rfl⟩
 rw[C7 hs,if_pos (show IV [tI p,tI q,tI l,tI s,x,tB d]=true from h2),hn]
 rfl
theorem RCw.eS {row:List T} {p q l s:Int} {x:T} {d:Bool} {bn:Lz} {i:Nat} {n:Int} (hi:(i:Int) < (bn.length:Int)) (hl:bn.length≤1000000) (hn:n=((bn.take i).countP IV:Int)) (hs:bn[((i:Int)).toNat]? =some [tI p,tI q,tI l,tI s,x,tB d]) (h2:(!d)=false):RCw row bn (bn.length - (i+1)) [iV .i64 n,iV .i64 (IntKind.i64.wrap ((i:Int)+1))] [[row]]:=by
 refine⟨i+1,n,by omega,rfl,by rw[bt (by omega) (by omega)];rfl,?_,rfl⟩
 rw[C7 hs,if_neg (show ¬IV [tI p,tI q,tI l,tI s,x,tB d]=true by show ¬ (!d)=true;rw[h2];simp),hn]
 rfl
def tq (row:List T) (bn:Lz) (N:Nat) (m:Nat) (vs:List V) (xss:List (Lz)):Prop:= ∃ (s:Nat) (n:Int),s≤N∧m=N - s∧vs=[iV .i64 n,iV .i64 (s:Int)]∧n=(bn.countP (IW (s:Int)):Int)∧xss=[[row]]
theorem tq.next {row:List T} {bn:Lz} {N s:Nat} {n:Int} (hs:(s:Int) < (N:Int)) (hN:N≤maxLen) (hl:bn.length≤1000000) (hn:n=(bn.countP (IW (s:Int)):Int)):tq row bn N (N - (s+1)) [iV .i64 (IntKind.i64.wrap (n+(bn.countP (Bb (s:Int)):Int))),iV .i64 (IntKind.i64.wrap ((s:Int)+1))] [[row]]:=by
 simp only[maxLen]at hN
 have h1:=List.countP_le_length (p:=IW ((s:Int)+1)) (l:=bn)
 have h2:=lt_succ bn s
 refine⟨s+1,n+(bn.countP (Bb (s:Int)):Int),by omega,rfl,by rw[bt (by omega) (by omega),bt (by omega) (by omega)];rfl,?_,rfl⟩
 rw[show(((s+1:Nat):Int))=(s:Int)+1 from rfl,h2,hn]
 rfl
def RCp (row:List T) (sizes places:Lz) (s:Int) (m:Nat) (vs:List V) (xss:List (Lz)):Prop:= ∃ (k:Nat) (n:Int),k≤places.length∧m=places.length - k∧vs=[iV .i64 n,iV .i64 (k:Int)]∧n=((places.take k).countP (HU sizes s):Int)∧xss=[[row]]
theorem CV {sizes places:Lz} {s:Int} {k:Nat} {e:List T} (hs:places[((k:Int)).toNat]? =some e):(places.take (k+1)).countP (HU sizes s)=(places.take k).countP (HU sizes s)+if HU sizes s e=true then 1 else 0:=by
 have hs':places[k]? =some e:=by simpa using hs
 rw[List.take_add_one,hs',List.countP_append]
 simp[List.countP_cons]
theorem RCp.hit {row r:List T} {sizes places:Lz} {s n g a:Int} {k:Nat} (hk:(k:Int) < (places.length:Int)) (hl:places.length≤1000000) (hn:n=((places.take k).countP (HU sizes s):Int)) (hs:places[((k:Int)).toNat]? =some (tI g::r)) (h1:sizes[g.toNat]? =some [tI a]) (h2:a=s):RCp row sizes places s (places.length - (k+1)) [iV .i64 (IntKind.i64.wrap (n+1)),iV .i64 (IntKind.i64.wrap ((k:Int)+1))] [[row]]:=by
 have hb:(places.take k).countP (HU sizes s)≤k:=Nat.le_trans List.countP_le_length (by rw[List.length_take];omega)
 refine⟨k+1,n+1,by omega,rfl,by rw[bt (by omega) (by omega),bt (by omega) (by omega)];rfl,?_,rfl⟩
 rw[CV hs,if_pos (by
  simp only[HU,decide_eq_true_eq]
  show nI 0 (lO sizes g)=s
  rw[jC h1]
  exact h2),hn]
 rfl
theorem RCp.eS {row r:List T} {sizes places:Lz} {s n g a:Int} {k:Nat} (hk:(k:Int) < (places.length:Int)) (hl:places.length≤1000000) (hn:n=((places.take k).countP (HU sizes s):Int)) (hs:places[((k:Int)).toNat]? =some (tI g::r)) (h1:sizes[g.toNat]? =some [tI a]) (h2:¬a=s):RCp row sizes places s (places.length - (k+1)) [iV .i64 n,iV .i64 (IntKind.i64.wrap ((k:Int)+1))] [[row]]:=by
 refine⟨k+1,n,by omega,rfl,by rw[bt (by omega) (by omega)];rfl,?_,rfl⟩
 rw[CV hs,if_neg (by
  simp only[HU,decide_eq_true_eq]
  show ¬nI 0 (lO sizes g)=s
  rw[jC h1]
  exact h2),hn]
 rfl
structure CtK (M:Nat) (sizes places aq plies bn:Lz):Prop where
 cx: ∀e,e∈bn→ayN e
 len:bn.length≤1000000
 lo: ∀c,c∈bn→0≤nI 3 c
 hi: ∀c,c∈bn→nI 3 c < (M:Int)
 ga:CI sizes.length places
 le: ∀s:Int,(bn.countP (Bb s):Int)≤((plies.length * places.countP (HU sizes s):Nat):Int)
end Go.aU.Cd
end
section
namespace Go.aU.Cd
open Go Go.Proofs
set_option maxRecDepth 100000
theorem bG {n:Nat} {fr:bp} {fn:Func} {c:Code} (h:Tryz.prog.funcs[n]? =some fn) (h1:fn.body=some c:=by rfl) (h2:ae Tryz.prog c=some fr.code:=by kernel_rfl) (h3:fn.ntmps=fr.n:=by rfl) (h4:fa Tryz.prog fn.results.toList=some fr.res:=by kernel_rfl) (h5:gf fr.n fr.code=true:=by kernel_rfl):aN Tryz.prog n fr:=⟨fn,c,h,h1,h2,h3,h4,h5⟩
def fr9:bp:=⟨134,(Sq (Rg [Mb 0 false]) (Sq (Rg [p 12 (.call 27 []),p 1 (.alloc [.t (.val (.string ⟨#[]⟩)),zn,zn,zn,zn,zn,zn,zi,zi,zi,zi,zn,zn,zn,zn,zn]),So 16 1 12]) (Sq (Rg [Fa 14 0 1,Lo 7 15 14,Fa 16 7 1,Lo 7 17 16,Fa 18 14 1,Ld 19 18,Fa 20 15 1,Ld 21 20,p 22 (.call 22 [t 15,t 17,t 19,t 21]),Mv 13 22,Et 23 13 0,Et 24 13 1,Mv 2 23,Mv 3 24]) (Sq (Rg [p 25 (.bc [zi] 1 [(0,(k 2))]),p 26 (.build [zi,zi,zi,zi,zn,zb] [(2,1,(k 1)),(3,1,(k 1)),(4,1,t 25)]),p 27 (.bc [zi] 1 [(0,(k 2))]),p 28 (.build [zi,zi,zi,zi,zn,zb] [(1,1,(k 1)),(2,1,(k 1)),(3,1,(k 1)),(4,1,t 27),(5,1,(kb true))]),p 4 (.alloc [zi,zi,zi,zi,zn,zb]),p 5 (.alloc [zi,zi,zi,zi,zn,zb]),So 6 4 26,So 6 5 28]) (Sq (Rg [Lo 6 29 5,p 6 (.alloc [zi,zi,zi,zi,zn,zb]),So 6 6 29]) (Sq (Rg [Fa 30 2 6,q (.store 1 (t 30) (k 0))]) (Sq (Sq (Rg [Mv 31 3,Bi 32 .neq 31 0,Mv 33 32,Ga 33 (Mv 34 2),Ga 33 (Lo 6 35 4),Ga 33 (Lo 6 36 5),Ga 33 (p 37 (.bc [zi,zi,zi,zi,zn,zb] 2 [(0,t 35),(1,t 36)])),Ga 33 (p 38 (.call 28 [t 34,t 37])),Ga 33 (Nt 39 38),Pt 40 33 39,Mv 41 40,Ga 41 (Mv 42 2),Ga 41 (p 43 (.call 13 [t 42,(k 1)])),Ga 41 (Bi 44 .neq 43 1),Pt 45 41 44,Mv 46 45,Ga 46 (Mv 47 2),Ga 46 (p 48 (.call 13 [t 47,(k 0)])),Ga 46 (Bi 49 .neq 48 0),Pt 50 46 49]) (Cn 50 (Sq (Rg [Mb 0 false]) Rt) Sk)) (Sq (Rg [Fa 51 0 1,Lo 7 52 51,Fa 53 7 1,Lo 7 54 53,Fa 55 14 1,Ld 56 55,Fa 57 15 1,Ld 58 57,Lo 6 59 4,p 60 (.bc [zi,zi,zi,zi,zn,zb] 1 [(0,t 59)]),p 61 (.call 12 [t 52,t 54,t 56,t 58,t 60]),Mv 7 61]) (Sq (Rg [Fa 62 0 1,Lo 7 63 62,Fa 64 7 1,Lo 7 65 64,Fa 66 14 1,Ld 67 66,Fa 68 15 1,Ld 69 68,Lo 6 70 4,Lo 6 71 4,p 72 (.bc [zi,zi,zi,zi,zn,zb] 2 [(0,t 70),(1,t 71)]),p 73 (.call 12 [t 63,t 65,t 67,t 69,t 72]),Mv 8 73]) (Sq (Rg [Fa 74 0 1,Lo 7 75 74,Fa 76 7 1,Lo 7 77 76,Fa 78 14 1,Ld 79 78,Fa 80 15 1,Ld 81 80,Lo 6 82 4,Lo 6 83 6,p 84 (.bc [zi,zi,zi,zi,zn,zb] 2 [(0,t 82),(1,t 83)]),p 85 (.call 12 [t 75,t 77,t 79,t 81,t 84]),Mv 9 85]) (Sq (Rg [p 86 (.build [.t (.val (.string ⟨#[]⟩)),zn,zn,zn,zn,zn,zn] []),Fa 87 7 1,Lo 7 88 87,Fa 89 14 1,Ld 90 89,Fa 91 15 1,Ld 92 91,p 93 (.call 12 [t 86,t 88,t 90,t 92,kn]),Mv 10 93]) (Sq (Rg [Fa 94 0 1,Lo 7 95 94,Fa 96 7 1,Lo 7 97 96,Fa 98 14 1,Ld 99 98,Fa 100 15 1,Ld 101 100,Lo 6 102 5,Lo 6 103 4,p 104 (.bc [zi,zi,zi,zi,zn,zb] 2 [(0,t 102),(1,t 103)]),p 105 (.call 12 [t 95,t 97,t 99,t 101,t 104]),Mv 11 105]) (Sq (Rg [Mv 106 7,p 107 (.build [zi,zi,zi] [(0,1,(k 2)),(2,1,(k 1))]),p 108 (.bc [zi,zi,zi] 1 [(0,t 107)]),p 109 (.call 11 [t 106,t 108]),Mv 110 109,Gb 110 (Mv 111 8),Gb 110 (p 112 (.build [zi,zi,zi] [(0,1,(k 2)),(2,1,(k 1))])),Gb 110 (p 113 (.build [zi,zi,zi] [(0,1,(k 3)),(1,1,(k 1))])),Gb 110 (p 114 (.bc [zi,zi,zi] 2 [(0,t 112),(1,t 113)])),Gb 110 (p 115 (.call 11 [t 111,t 114])),Pf 116 110 115,Mv 117 116,Gb 117 (Mv 118 9),Gb 117 (p 119 (.build [zi,zi,zi] [(0,1,(k 1)),(1,1,(k 1)),(2,1,(k 1))])),Gb 117 (p 120 (.bc [zi,zi,zi] 1 [(0,t 119)])),Gb 117 (p 121 (.call 11 [t 118,t 120])),Pf 122 117 121,Mv 123 122,Gb 123 (Mv 124 10),Gb 123 (p 125 (.build [zi,zi,zi] [(0,1,(k 9)),(1,1,(k 1))])),Gb 123 (p 126 (.bc [zi,zi,zi] 1 [(0,t 125)])),Gb 123 (p 127 (.call 11 [t 124,t 126])),Pf 128 123 127,Mv 129 128,Gb 129 (Mv 130 11),Gb 129 (Le 131 130),Gb 129 (Bi 132 .eql 131 0),Pf 133 129 132,Mv 0 133]) Rt))))))))))))),[.tmp 0],true,false⟩
theorem fk9:aN Tryz.prog 9 fr9:=bG Tryz.func9
def Up:bp:=⟨26,(Sq (Rg [Mb 4 false]) (Sq (Sq (Rg [Mv 6 0,Le 7 6,Mv 8 1,Le 9 8,Bt 10 .neq 7 9]) (Cn 10 (Sq (Rg [Mb 4 false]) Rt) Sk)) (Sq (Sq (Rg [Mk 5 0]) (Bk 0 (Lp (Sq (Sq (Rg [Mv 11 5,Mv 12 0,Le 13 12,Bt 14 .lss 11 13]) (Cn 14 Sk (Ex 0))) (Sq (Bk 1 (Sq (Dr [Mv 17 0,Mv 18 5,Ia 19 3 17 18,Lo 3 20 19,Mv 21 1,Mv 22 5,Ia 23 3 21 22,Lo 3 24 23,p 25 (.A3 true [0,0,0] (t 20) (t 24))] [[],[],[0,1],[2],[],[],[4,5],[6],[3,7]]) (Cn 25 (Sq (Rg [Mb 4 false]) Rt) Sk))) (Rg [Mv 15 5,Bi 16 .add 15 1,Mv 5 16])))))) (Sq (Rg [Mb 4 true]) Rt)))),[.tmp 4],true,false⟩
theorem asP:aN Tryz.prog 11 Up:=bG Tryz.func11
def Uo:bp:=⟨155,(Sq (Rg [Bx 5 0,Bx 6 1,Mn 10]) (Sq (Rg [Lo 7 32 5,Lo 7 33 6,Mv 34 2,Mv 35 3,p 36 (.call 22 [t 32,t 33,t 34,t 35]),Mv 31 36,Et 37 31 0,Et 38 31 1,Mv 11 37,Mv 12 38]) (Sq (Sq (Rg [Mv 39 12,Bi 40 .neq 39 0]) (Cn 40 (Sq (Rg [Mv 41 12,p 42 (.build [zi,zi,zi] [(0,1,(k 9)),(1,1,t 41)]),p 43 (.bc [zi,zi,zi] 1 [(0,t 42)]),Mv 10 43]) Rt) Sk)) (Sq (Rg [p 44 (.raw (.makeMap 96 none) 96),Mv 13 44]) (Sq (Sq (Rg [Mv 45 11,Le 46 45,Mk 47 0]) (Bk 0 (Lp (Sq (Rg [Bt 48 .lss 47 46]) (Sq (Cn 48 Sk (Ex 0)) (Sq (Bk 1 (Sq (Rg [Ia 49 6 45 47,Lo 6 50 49,p 15 (.alloc [zi,zi,zi,zi,zn,zb]),So 6 15 50]) (Rg [Mv 51 13,Fa 52 0 15,Ld 53 52,Fa 54 1 15,Ld 55 54,p 56 (.build [zi,zi] [(0,1,t 53),(1,1,t 55)]),Lo 6 57 15,q (.raw (.mapUpdate 96 (.tmp 51) (.tmp 56) (.tmp 57)) 0)]))) (Rg [Bi 58 .add 47 1,Mv 47 58]))))))) (Sq (Rg [p 59 (.raw (.makeMap 99 none) 99),Mv 16 59]) (Sq (Rg [Mn 17]) (Sq (Sq (Rg [Mv 60 4,Le 61 60,Mk 62 0]) (Bk 2 (Lp (Sq (Rg [Bt 63 .lss 62 61]) (Sq (Cn 63 Sk (Ex 2)) (Sq (Bk 3 (Sq (Rg [Mv 64 62,Ia 65 6 60 62,Lo 6 66 65,p 19 (.alloc [zi,zi,zi,zi,zn,zb]),Mv 18 64,So 6 19 66]) (Sq (Rg [Fa 67 0 19,Ld 68 67,Fa 69 1 19,Ld 70 69,p 71 (.build [zi,zi] [(0,1,t 68),(1,1,t 70)]),p 20 (.alloc [zi,zi]),So 2 20 71]) (Sq (Sq (Rg [Mv 73 13,Lo 2 74 20,p 75 (.raw (.lookup 96 (.tmp 73) (.tmp 74) true) 100),Mv 72 75,Et 76 72 0,Et 77 72 1,p 21 (.alloc [zi,zi,zi,zi,zn,zb]),So 6 21 76,Mv 22 77]) (Sq (Rg [Mv 78 22,Nt 79 78,Mv 80 79,Ga 80 (Lo 6 81 19),Ga 80 (Lo 6 82 21),Ga 80 (p 83 (.call 29 [t 81,t 82])),Ga 80 (Nt 84 83),Pt 85 80 84]) (Cn 85 (Rg [Mv 86 17,Mv 87 18,Fa 88 1 19,Ld 89 88,p 90 (.build [zi,zi,zi] [(0,1,(k 1)),(1,1,t 87),(2,1,t 89)]),p 91 (.bc [zi,zi,zi] 1 [(0,t 90)]),p 92 (.append 3 24 (t 86) (t 91)),Mv 17 92]) Sk))) (Sq (Rg [Mv 94 16,Lo 2 95 20,p 96 (.raw (.lookup 99 (.tmp 94) (.tmp 95) true) 101),Mv 93 96,Et 97 93 0,Et 98 93 1,Mv 23 97,Mv 24 98]) (Sq (Rg [Mv 99 24,Nt 100 99]) (Cn 100 (Rg [Mv 101 16,Lo 2 102 20,Mv 103 18,q (.raw (.mapUpdate 99 (.tmp 101) (.tmp 102) (.tmp 103)) 0)]) Sk))))))) (Rg [Bi 104 .add 62 1,Mv 62 104]))))))) (Sq (Sq (Rg [Mv 105 11,Le 106 105,Mk 107 0]) (Bk 4 (Lp (Sq (Rg [Bt 108 .lss 107 106]) (Sq (Cn 108 Sk (Ex 4)) (Sq (Bk 5 (Sq (Rg [Ia 109 6 105 107,Lo 6 110 109,p 26 (.alloc [zi,zi,zi,zi,zn,zb]),So 6 26 110]) (Sq (Rg [Mv 112 16,Fa 113 0 26,Ld 114 113,Fa 115 1 26,Ld 116 115,p 117 (.build [zi,zi] [(0,1,t 114),(1,1,t 116)]),p 118 (.raw (.lookup 99 (.tmp 112) (.tmp 117) true) 101),Mv 111 118,Et 119 111 0,Et 120 111 1,Mv 27 119,Mv 28 120]) (Sq (Rg [Mv 121 28,Nt 122 121]) (Cn 122 (Rg [Mv 123 17,Fa 124 0 26,Ld 125 124,Fa 126 1 26,Ld 127 126,p 128 (.build [zi,zi,zi] [(0,1,(k 2)),(1,1,t 125),(2,1,t 127)]),p 129 (.bc [zi,zi,zi] 1 [(0,t 128)]),p 130 (.append 3 24 (t 123) (t 129)),Mv 17 130]) Sk))))) (Rg [Bi 131 .add 107 1,Mv 107 131]))))))) (Sq (Sq (Rg [Mv 132 4,Le 133 132,Mk 134 0]) (Bk 6 (Lp (Sq (Rg [Bt 135 .lss 134 133]) (Sq (Cn 135 Sk (Ex 6)) (Sq (Bk 7 (Sq (Rg [Mv 136 134,Ia 137 6 132 134,Lo 6 138 137,p 30 (.alloc [zi,zi,zi,zi,zn,zb]),Mv 29 136,So 6 30 138]) (Sq (Rg [Mv 139 16,Fa 140 0 30,Ld 141 140,Fa 142 1 30,Ld 143 142,p 144 (.build [zi,zi] [(0,1,t 141),(1,1,t 143)]),p 145 (.raw (.lookup 99 (.tmp 139) (.tmp 144) false) 3),Mv 146 29,Bt 147 .neq 145 146]) (Cn 147 (Rg [Mv 148 17,Mv 149 29,p 150 (.build [zi,zi,zi] [(0,1,(k 3)),(1,1,t 149)]),p 151 (.bc [zi,zi,zi] 1 [(0,t 150)]),p 152 (.append 3 24 (t 148) (t 151)),Mv 17 152]) Sk)))) (Rg [Bi 153 .add 134 1,Mv 134 153]))))))) (Sq (Rg [Mv 154 17,Mv 10 154]) Rt))))))))))),[.tmp 10],false,false⟩
theorem asO:aN Tryz.prog 12 Uo:=bG Tryz.func12
def Un:bp:=⟨27,c13,[.tmp 4],true,false⟩
theorem asN:aN Tryz.prog 13 Un:=bG Tryz.func13
def Um:bp:=⟨66,(Sq (Rg [Bx 2 0,Bx 3 1,Mb 4 false]) (Sq (Sq (Rg [Fa 6 0 2,Ld 7 6,Fa 8 0 3,Ld 9 8,Bt 10 .neq 7 9,Mv 11 10,Ga 11 (Fa 12 1 2),Ga 11 (Ld 13 12),Ga 11 (Fa 14 1 3),Ga 11 (Ld 15 14),Ga 11 (Bt 16 .neq 13 15),Pt 17 11 16,Mv 18 17,Ga 18 (Fa 19 2 2),Ga 18 (Ld 20 19),Ga 18 (Fa 21 2 3),Ga 18 (Ld 22 21),Ga 18 (Bt 23 .neq 20 22),Pt 24 18 23,Mv 25 24,Ga 25 (Fa 26 3 2),Ga 25 (Ld 27 26),Ga 25 (Fa 28 3 3),Ga 25 (Ld 29 28),Ga 25 (Bt 30 .neq 27 29),Pt 31 25 30,Mv 32 31,Ga 32 (Fa 33 5 2),Ga 32 (Ld 34 33),Ga 32 (Fa 35 5 3),Ga 32 (Ld 36 35),Ga 32 (p 37 (.oT .neq (t 34) (t 36))),Pt 38 32 37,Mv 39 38,Ga 39 (Fa 40 4 2),Ga 39 (Ld 41 40),Ga 39 (Le 42 41),Ga 39 (Fa 43 4 3),Ga 39 (Ld 44 43),Ga 39 (Le 45 44),Ga 39 (Bt 46 .neq 42 45),Pt 47 39 46]) (Cn 47 (Sq (Rg [Mb 4 false]) Rt) Sk)) (Sq (Sq (Rg [Mk 5 0]) (Bk 0 (Lp (Sq (Sq (Rg [Mv 48 5,Fa 49 4 2,Ld 50 49,Le 51 50,Bt 52 .lss 48 51]) (Cn 52 Sk (Ex 0))) (Sq (Bk 1 (Sq (Dr [Fa 55 4 2,Ld 56 55,Mv 57 5,Ia 58 1 56 57,Ld 59 58,Fa 60 4 3,Ld 61 60,Mv 62 5,Ia 63 1 61 62,Ld 64 63,Bt 65 .neq 59 64] [[],[0],[],[1,2],[3],[],[5],[],[6,7],[8],[4,9]]) (Cn 65 (Sq (Rg [Mb 4 false]) Rt) Sk))) (Rg [Mv 53 5,Bi 54 .add 53 1,Mv 5 54])))))) (Sq (Rg [Mb 4 true]) Rt)))),[.tmp 4],true,false⟩
theorem asM:aN Tryz.prog 14 Um:=bG Tryz.func14
def Ul:bp:=⟨45,c15,[.tmp 4, .tmp 5],true,false⟩
theorem asL:aN Tryz.prog 15 Ul:=bG Tryz.func15
def Uk:bp:=⟨54,c16,[.tmp 8],true,false⟩
theorem asK:aN Tryz.prog 16 Uk:=bG Tryz.func16
def OL:bp:=⟨69,c22,[.tmp 8, .tmp 9],true,false⟩
theorem asJ:aN Tryz.prog 22 OL:=bG Tryz.func22
def Uj:bp:=⟨58,(Sq (Rg [p 0 (.alloc [.t (.val (.string ⟨#[]⟩)),zn,zn,zn,zn,zn,zn,zi,zi,zi,zi,zn,zn,zn,zn,zn])]) (Sq (Rg [p 9 (.build [zi,zi] []),p 10 (.build [zi,zi] [(0,1,(k 10))]),p 11 (.build [zi,zi] [(0,1,(k 10)),(1,1,(k 10))]),p 12 (.build [zi,zi] [(1,1,(k 10))]),p 1 (.alloc [zi,zi]),p 2 (.alloc [zi,zi]),p 3 (.alloc [zi,zi]),p 4 (.alloc [zi,zi]),So 2 1 9,So 2 2 10,So 2 3 11,So 2 4 12]) (Sq (Dr [Lo 2 13 1,Lo 2 14 2,p 15 (.call 48 [(.c (.w (.one (.t (.val (.string ⟨#[108,111,119]⟩)))))),t 13,t 14]),Lo 2 16 2,Lo 2 17 3,p 18 (.call 48 [(.c (.w (.one (.t (.val (.string ⟨#[114,105,103,104,116]⟩)))))),t 16,t 17]),Lo 2 19 3,Lo 2 20 4,p 21 (.call 48 [(.c (.w (.one (.t (.val (.string ⟨#[104,105,103,104]⟩)))))),t 19,t 20]),Lo 2 22 4,Lo 2 23 1,p 24 (.call 48 [(.c (.w (.one (.t (.val (.string ⟨#[108,101,102,116]⟩)))))),t 22,t 23]),p 25 (.bc [.t (.val (.string ⟨#[]⟩)),zn] 4 [(0,t 15),(1,t 18),(2,t 21),(3,t 24)]),p 26 (.make [zi,zi] 16 (k 4) (k 4)),p 27 (.make [zi] 8 (k 4) (k 4)),p 28 (.build [.t (.val (.string ⟨#[]⟩)),zn,zi,zn,zn,zn,zb] [(0,1,(.c (.w (.one (.t (.val (.string ⟨#[102,114,111,110,116]⟩))))))),(2,1,(k 1)),(1,1,t 25),(4,1,t 26),(5,1,t 27)]),p 5 (.alloc [.t (.val (.string ⟨#[]⟩)),zn,zi,zn,zn,zn,zb]),So 7 5 28] [[],[],[0,1],[],[],[3,4,2],[],[],[6,7,5],[],[],[9,10,8],[2,5,8,11],[],[],[12,13,14],[],[16,15,11,0,1,2,3,4,5,6,7,8,9,10,11,12,13,14,15,16]]) (Sq (Rg [p 29 (.bc [.t (.val (.string ⟨#[]⟩))] 2 [(0,(.c (.w (.one (.t (.val (.string ⟨#[83]⟩))))))),(1,(.c (.w (.one (.t (.val (.string ⟨#[77]⟩)))))))]),p 30 (.bc [zi] 2 [(0,(k 0)),(1,(k 0))]),Lo 7 31 5,p 32 (.bc [.t (.val (.string ⟨#[]⟩)),zn,zi,zn,zn,zn,zb] 1 [(0,t 31)]),p 33 (.build [zi,zi,zb] [(1,1,(k 2))]),p 34 (.bc [zi,zi,zb] 1 [(0,t 33)]),p 35 (.build [.t (.val (.string ⟨#[]⟩)),zn,zn,zn,zn,zn,zn] [(0,1,(.c (.w (.one (.t (.val (.string ⟨#[115,104,105,114,116]⟩))))))),(1,1,t 29),(2,1,t 30),(3,1,t 32),(4,1,t 34)]),p 6 (.alloc [.t (.val (.string ⟨#[]⟩)),zn,zn,zn,zn,zn,zn]),So 7 6 35]) (Sq (Rg [p 36 (.bc [zi] 1 [(0,(k 1))]),p 37 (.build [zi,zi,zi,zb,zi,zi,zi] []),p 38 (.build [zi,zi] [(0,1,(k 10))]),p 39 (.build [zi,zi,zi,zb,zi,zi,zi] [(2,1,(k 1)),(5,2,t 38)]),p 40 (.bc [zi,zi,zi,zb,zi,zi,zi] 2 [(0,t 37),(1,t 39)]),p 41 (.build [zi,zi,zi,zi,zn,zn] [(0,1,(k 20)),(1,1,(k 10)),(4,1,t 36),(5,1,t 40)]),p 7 (.alloc [zi,zi,zi,zi,zn,zn]),So 6 7 41]) (Sq (Rg [p 42 (.build [.t (.val (.string ⟨#[]⟩)),zi,zi,zi,zi,zi,zn] [(0,1,(.c (.w (.one (.t (.val (.string ⟨#[65]⟩))))))),(1,1,(k 9)),(2,1,(k 50))]),p 43 (.build [.t (.val (.string ⟨#[]⟩)),zi,zi,zi,zi,zi,zn] [(0,1,(.c (.w (.one (.t (.val (.string ⟨#[66]⟩))))))),(1,1,(k 10)),(2,1,(k 50))]),p 44 (.build [zi,zi,zi,zi] [(0,1,(k 20)),(1,1,(k 2)),(2,1,(k 1)),(3,1,(k 1))]),p 45 (.bc [zi,zi,zi,zi] 1 [(0,t 44)]),p 46 (.build [.t (.val (.string ⟨#[]⟩)),zi,zi,zi,zi,zi,zn] [(0,1,(.c (.w (.one (.t (.val (.string ⟨#[67]⟩))))))),(1,1,(k 10)),(2,1,(k 50)),(6,1,t 45)]),p 47 (.bc [.t (.val (.string ⟨#[]⟩)),zi,zi,zi,zi,zi,zn] 3 [(0,t 42),(1,t 43),(2,t 46)]),Mv 8 47]) (Sq (Rg [Lo 7 48 6,Lo 6 49 7,p 50 (.build [zi,zi,zi,zi] [(0,1,(k 2)),(1,1,(k 5)),(2,1,(k 25))]),p 51 (.bc [zi,zi,zi,zi] 1 [(0,t 50)]),p 52 (.build [zi,zn] [(0,1,(k 1)),(1,1,t 51)]),p 53 (.bc [zi,zn] 1 [(0,t 52)]),p 54 (.build [zi,zi,zi,zi,zn,zn,zn] [(0,6,t 49),(6,1,t 53)]),Mv 55 8,p 56 (.bc [zi] 3 [(0,(k 0)),(1,(k 0)),(2,(k 1))]),p 57 (.build [.t (.val (.string ⟨#[]⟩)),zn,zn,zn,zn,zn,zn,zi,zi,zi,zi,zn,zn,zn,zn,zn] [(0,7,t 48),(7,7,t 54),(14,1,t 55),(15,1,t 56)]),So 16 0 57]) Rt))))))),[.cell 0 (some 16)],true,false⟩
theorem asI:aN Tryz.prog 27 Uj:=bG Tryz.func27
def Ui:bp:=⟨27,(Sq (Rg [Mb 4 false]) (Sq (Sq (Rg [Mv 6 0,Le 7 6,Mv 8 1,Le 9 8,Bt 10 .neq 7 9]) (Cn 10 (Sq (Rg [Mb 4 false]) Rt) Sk)) (Sq (Sq (Rg [Mk 5 0]) (Bk 0 (Lp (Sq (Sq (Rg [Mv 11 5,Mv 12 0,Le 13 12,Bt 14 .lss 11 13]) (Cn 14 Sk (Ex 0))) (Sq (Bk 1 (Sq (Dr [Mv 17 0,Mv 18 5,Ia 19 6 17 18,Lo 6 20 19,Mv 21 1,Mv 22 5,Ia 23 6 21 22,Lo 6 24 23,p 25 (.call 14 [t 20,t 24]),Nt 26 25] [[],[],[0,1],[2],[],[],[4,5],[6],[3,7],[8]]) (Cn 26 (Sq (Rg [Mb 4 false]) Rt) Sk))) (Rg [Mv 15 5,Bi 16 .add 15 1,Mv 5 16])))))) (Sq (Rg [Mb 4 true]) Rt)))),[.tmp 4],true,false⟩
theorem asH:aN Tryz.prog 28 Ui:=bG Tryz.func28
def Uh:bp:=⟨45,(Sq (Rg [Bx 2 0,Bx 3 1,Mb 4 false]) (Sq (Rg [Fa 5 0 2,Ld 6 5,Fa 7 0 3,Ld 8 7,Bt 9 .eql 6 8,Mv 10 9,Gb 10 (Fa 11 1 2),Gb 10 (Ld 12 11),Gb 10 (Fa 13 1 3),Gb 10 (Ld 14 13),Gb 10 (Bt 15 .eql 12 14),Pf 16 10 15,Mv 17 16,Gb 17 (Fa 18 2 2),Gb 17 (Ld 19 18),Gb 17 (Fa 20 2 3),Gb 17 (Ld 21 20),Gb 17 (Bt 22 .eql 19 21),Pf 23 17 22,Mv 24 23,Gb 24 (Fa 25 3 2),Gb 24 (Ld 26 25),Gb 24 (Fa 27 3 3),Gb 24 (Ld 28 27),Gb 24 (Bt 29 .eql 26 28),Pf 30 24 29,Mv 31 30,Gb 31 (Fa 32 5 2),Gb 31 (Ld 33 32),Gb 31 (Fa 34 5 3),Gb 31 (Ld 35 34),Gb 31 (p 36 (.oT .eql (t 33) (t 35))),Pf 37 31 36,Mv 38 37,Gb 38 (Fa 39 4 2),Gb 38 (Ld 40 39),Gb 38 (Fa 41 4 3),Gb 38 (Ld 42 41),Gb 38 (p 43 (.call 49 [t 40,t 42])),Pf 44 38 43,Mv 4 44]) Rt)),[.tmp 4],true,false⟩
theorem asG:aN Tryz.prog 29 Uh:=bG Tryz.func29
def Ug:bp:=⟨126,c30,[.tmp 4, .tmp 5, .tmp 6],true,false⟩
theorem asF:aN Tryz.prog 30 Ug:=bG Tryz.func30
def Uf:bp:=⟨49,c31,[.tmp 4, .tmp 5],true,false⟩
theorem asE:aN Tryz.prog 31 Uf:=bG Tryz.func31
def Ue:bp:=⟨36,c32,[.tmp 8],true,false⟩
theorem asD:aN Tryz.prog 32 Ue:=bG Tryz.func32
def T9:bp:=⟨96,c33,[.tmp 10],true,false⟩
theorem asC:aN Tryz.prog 33 T9:=bG Tryz.func33
def T8:bp:=⟨77,c34,[.tmp 4, .tmp 5],true,false⟩
theorem asB:aN Tryz.prog 34 T8:=bG Tryz.func34
def T7:bp:=⟨80,c35,[.tmp 6, .tmp 7],true,false⟩
theorem asA:aN Tryz.prog 35 T7:=bG Tryz.func35
def T6:bp:=⟨31,c36,[.tmp 4, .tmp 5],true,false⟩
theorem arZ:aN Tryz.prog 36 T6:=bG Tryz.func36
def T5:bp:=⟨67,c42,[.cell 10 (some 6), .tmp 11],true,false⟩
theorem arY:aN Tryz.prog 42 T5:=bG Tryz.func42
def T4:bp:=⟨12,(Sq (Rg [Bx 4 1,Bx 5 2,p 6 (.alloc [.t (.val (.string ⟨#[]⟩)),zn])]) (Sq (Rg [Mv 7 0,Lo 2 8 4,Lo 2 9 5,p 10 (.bc [zi,zi] 2 [(0,t 8),(1,t 9)]),p 11 (.build [.t (.val (.string ⟨#[]⟩)),zn] [(0,1,t 7),(1,1,t 10)]),So 2 6 11]) Rt)),[.cell 6 (some 2)],true,false⟩
theorem arX:aN Tryz.prog 48 T4:=bG Tryz.func48
def T3:bp:=⟨26,(Sq (Rg [Mb 4 false]) (Sq (Sq (Rg [Mv 6 0,Le 7 6,Mv 8 1,Le 9 8,Bt 10 .neq 7 9]) (Cn 10 (Sq (Rg [Mb 4 false]) Rt) Sk)) (Sq (Sq (Rg [Mv 11 0,Le 12 11,Mk 13 0]) (Bk 0 (Lp (Sq (Rg [Bt 14 .lss 13 12]) (Sq (Cn 14 Sk (Ex 0)) (Sq (Bk 1 (Sq (Rg [Mv 15 13,Mv 5 15]) (Sq (Dr [Mv 16 0,Mv 17 5,Ia 18 1 16 17,Ld 19 18,Mv 20 1,Mv 21 5,Ia 22 1 20 21,Ld 23 22,Bt 24 .neq 19 23] [[],[],[0,1],[2],[],[],[4,5],[6],[3,7]]) (Cn 24 (Sq (Rg [Mb 4 false]) Rt) Sk)))) (Rg [Bi 25 .add 13 1,Mv 13 25]))))))) (Sq (Rg [Mb 4 true]) Rt)))),[.tmp 4],true,false⟩
theorem arW:aN Tryz.prog 49 T3:=bG Tryz.func49
def T2:bp:=⟨93,c50,[.tmp 4, .tmp 5, .tmp 6],true,false⟩
theorem arV:aN Tryz.prog 50 T2:=bG Tryz.func50
def T1:bp:=⟨10,c51,[.cell 2 (some 3)],true,false⟩
theorem arU:aN Tryz.prog 51 T1:=bG Tryz.func51
def T0:bp:=⟨9,c52,[.tmp 4],true,false⟩
theorem arT:aN Tryz.prog 52 T0:=bG Tryz.func52
def TZ:bp:=⟨31,c53,[.tmp 6],true,false⟩
theorem arS:aN Tryz.prog 53 TZ:=bG Tryz.func53
def TY:bp:=⟨21,c54,[.tmp 2],true,false⟩
theorem arR:aN Tryz.prog 54 TY:=bG Tryz.func54
def Jn:bp:=⟨14,c55,[.tmp 2],true,false⟩
theorem arQ:aN Tryz.prog 55 Jn:=bG Tryz.func55
def TX:bp:=⟨8,c56,[.tmp 4],true,false⟩
theorem arP:aN Tryz.prog 56 TX:=bG Tryz.func56
def TW:bp:=⟨33,c57,[.tmp 4],true,false⟩
theorem arO:aN Tryz.prog 57 TW:=bG Tryz.func57
def TV:bp:=⟨29,c58,[.tmp 6, .tmp 7],true,false⟩
theorem arN:aN Tryz.prog 58 TV:=bG Tryz.func58
def TU:bp:=⟨28,c59,[.tmp 4],true,false⟩
theorem arM:aN Tryz.prog 59 TU:=bG Tryz.func59
def TR:bp:=⟨38,c60,[.tmp 4],true,false⟩
theorem arL:aN Tryz.prog 60 TR:=bG Tryz.func60
def TQ:bp:=⟨11,c62,[.tmp 2],true,false⟩
theorem arK:aN Tryz.prog 62 TQ:=bG Tryz.func62
def TP:bp:=⟨14,(Sq (Rg [Mv 5 0,Le 6 5,Mv 4 6]) (Rg [Mv 7 0,Mv 8 4,Mv 9 4,p 10 (.conv .u64 (t 9)),p 11 (.call 87 [t 10]),Mv 12 1,p 13 (.call 86 [t 7,(k 0),t 8,t 11,t 12])])),[],true,true⟩
theorem arJ:aN Tryz.prog 63 TP:=bG Tryz.func63
def TO:bp:=⟨20,c65,[.tmp 4],true,false⟩
theorem arI:aN Tryz.prog 65 TO:=bG Tryz.func65
def TN:bp:=⟨101,c66,[.tmp 2],true,false⟩
theorem arH:aN Tryz.prog 66 TN:=bG Tryz.func66
def TM:bp:=⟨81,c67,[.tmp 4, .tmp 5],true,false⟩
theorem arG:aN Tryz.prog 67 TM:=bG Tryz.func67
def TL:bp:=⟨65,c68,[.cell 2 (some 4), .tmp 3],true,false⟩
theorem arF:aN Tryz.prog 68 TL:=bG Tryz.func68
def TK:bp:=⟨41,c69,[.tmp 4],true,false⟩
theorem arE:aN Tryz.prog 69 TK:=bG Tryz.func69
def OJ:bp:=⟨90,c74,[.tmp 2],true,false⟩
theorem arD:aN Tryz.prog 74 OJ:=bG Tryz.func74
def TJ:bp:=⟨42,c75,[.tmp 2],true,false⟩
theorem arC:aN Tryz.prog 75 TJ:=bG Tryz.func75
def TI:bp:=⟨65,c76,[.cell 6 (some 5), .tmp 7],true,false⟩
theorem arB:aN Tryz.prog 76 TI:=bG Tryz.func76
def TH:bp:=⟨19,c77,[.tmp 4],true,false⟩
theorem arA:aN Tryz.prog 77 TH:=bG Tryz.func77
def TG:bp:=⟨123,c78,[.tmp 8],true,false⟩
theorem aqZ:aN Tryz.prog 78 TG:=bG Tryz.func78
def TF:bp:=⟨9,c79,[.tmp 4],true,false⟩
theorem aqY:aN Tryz.prog 79 TF:=bG Tryz.func79
def TE:bp:=⟨21,c80,[.tmp 2],true,false⟩
theorem aqX:aN Tryz.prog 80 TE:=bG Tryz.func80
def TD:bp:=⟨79,c81,[.tmp 2],true,false⟩
theorem aqW:aN Tryz.prog 81 TD:=bG Tryz.func81
def TC:bp:=⟨34,c82,[.tmp 4],true,false⟩
theorem aqV:aN Tryz.prog 82 TC:=bG Tryz.func82
def TB:bp:=⟨24,c83,[.cell 4 (some 2)],true,false⟩
theorem aqU:aN Tryz.prog 83 TB:=bG Tryz.func83
def TA:bp:=⟨59,c84,[.tmp 4, .tmp 5],true,false⟩
theorem aqT:aN Tryz.prog 84 TA:=bG Tryz.func84
def Tz:bp:=⟨25,c85,[.tmp 4],true,false⟩
theorem aqS:aN Tryz.prog 85 Tz:=bG Tryz.func85
def Ty:bp:=⟨148,(Sq (Rg [Mb 10 true]) (Sq (Rg [Mb 11 true]) (Bk 0 (Lp (Bk 1 (Sq (Rg [Mv 21 2,Mv 22 1,Bt 23 .sub 21 22,Mv 12 23]) (Sq (Sq (Rg [Mv 24 12,Bi 25 .leq 24 12]) (Cn 25 (Sq (Rg [Mv 26 0,Mv 27 1,Mv 28 2,Mv 29 4,p 30 (.call 109 [t 26,t 27,t 28,t 29])]) Rt) Sk)) (Sq (Sq (Rg [Mv 31 3,Bi 32 .eql 31 0]) (Cn 32 (Sq (Rg [Mv 33 0,Mv 34 1,Mv 35 2,Mv 36 4,p 37 (.call 110 [t 33,t 34,t 35,t 36])]) Rt) Sk)) (Sq (Sq (Rg [Mv 38 10,Nt 39 38]) (Cn 39 (Sq (Rg [Mv 40 0,Mv 41 1,Mv 42 2,Mv 43 4,p 44 (.call 111 [t 40,t 41,t 42,t 43])]) (Rg [Mv 45 3,Bi 46 .sub 45 1,Mv 3 46])) Sk)) (Sq (Rg [Mv 48 0,Mv 49 1,Mv 50 2,Mv 51 4,p 52 (.call 112 [t 48,t 49,t 50,t 51]),Mv 47 52,Et 53 47 0,Et 54 47 1,Mv 13 53,Mv 14 54]) (Sq (Sq (Rg [Mv 55 14,Bi 56 .eql 55 2]) (Cn 56 (Sq (Rg [Mv 57 0,Mv 58 1,Mv 59 2,Mv 60 4,p 61 (.call 113 [t 57,t 58,t 59,t 60])]) (Sq (Rg [Mv 62 2,Bi 63 .sub 62 1,Mv 64 13,Mv 65 1,Bt 66 .sub 64 65,Bt 67 .sub 63 66,Mv 13 67]) (Rg [Mk 14 1]))) Sk)) (Sq (Sq (Rg [Mv 68 10,Mv 69 68,Gb 69 (Mv 70 11),Pf 71 69 70,Mv 72 71,Gb 72 (Mv 73 14),Gb 72 (Bi 74 .eql 73 1),Pf 75 72 74]) (Cn 75 (Sq (Rg [Mv 76 0,Mv 77 1,Mv 78 2,Mv 79 4,p 80 (.call 114 [t 76,t 77,t 78,t 79])]) (Cn 80 Rt Sk)) Sk)) (Sq (Sq (Dr [Mv 81 1,Bi 82 .gtr 81 0,Mv 83 82,Gb 83 (Mv 84 4),Gb 83 (Mv 85 0),Gb 83 (Mv 86 1),Gb 83 (Bi 87 .sub 86 1),Gb 83 (Ia 88 2 85 87),Gb 83 (Lo 2 89 88),Gb 83 (Mv 90 0),Gb 83 (Mv 91 13),Gb 83 (Ia 92 2 90 91),Gb 83 (Lo 2 93 92),Gb 83 (p 94 (.fg (t 84) [t 89,t 93])),Gb 83 (Bi 95 .lss 94 0),Gb 83 (Nt 96 95),Pf 97 83 96] [[],[0],[1],[2],[2],[2],[5,2],[4,6,2],[7,2],[2],[2],[9,10,2],[11,2],[3,8,12,2,2],[13,2],[14,2],[2,15]]) (Cn 97 (Sq (Rg [Mv 98 0,Mv 99 1,Mv 100 2,Mv 101 13,Mv 102 4,p 103 (.call 115 [t 98,t 99,t 100,t 101,t 102]),Mv 15 103]) (Sq (Rg [Mv 104 15,Mv 1 104]) (Ex 1))) Sk)) (Sq (Rg [Mv 106 0,Mv 107 1,Mv 108 2,Mv 109 13,Mv 110 4,p 111 (.call 116 [t 106,t 107,t 108,t 109,t 110]),Mv 105 111,Et 112 105 0,Et 113 105 1,Mv 16 112,Mv 17 113]) (Sq (Rg [Mv 114 17,Mv 11 114]) (Sq (Rg [Mv 115 16,Mv 116 1,Bt 117 .sub 115 116,Mv 118 2,Mv 119 16,Bt 120 .sub 118 119,Mv 18 117,Mv 19 120]) (Sq (Rg [Mv 121 12,Bi 122 .quo 121 8,Mv 20 122]) (Sq (Rg [Mv 123 18,Mv 124 19,Bt 125 .lss 123 124]) (Cn 125 (Sq (Rg [Mv 126 18,Mv 127 20,Bt 128 .geq 126 127,Mv 10 128]) (Sq (Rg [Mv 129 0,Mv 130 1,Mv 131 16,Mv 132 3,Mv 133 4,p 134 (.call 86 [t 129,t 130,t 131,t 132,t 133])]) (Rg [Mv 135 16,Bi 136 .add 135 1,Mv 1 136]))) (Sq (Rg [Mv 137 19,Mv 138 20,Bt 139 .geq 137 138,Mv 10 139]) (Sq (Rg [Mv 140 0,Mv 141 16,Bi 142 .add 141 1,Mv 143 2,Mv 144 3,Mv 145 4,p 146 (.call 86 [t 140,t 142,t 143,t 144,t 145])]) (Rg [Mv 147 16,Mv 2 147])))))))))))))))))))))),[],true,true⟩
theorem aqR:aN Tryz.prog 86 Ty:=bG Tryz.func86
def Tx:bp:=⟨8,c87,[.tmp 2],true,false⟩
theorem aqQ:aN Tryz.prog 87 Tx:=bG Tryz.func87
def Tw:bp:=⟨6,c88,[.tmp 2],true,false⟩
theorem aqP:aN Tryz.prog 88 Tw:=bG Tryz.func88
def Tv:bp:=⟨54,c89,[.tmp 2],true,false⟩
theorem aqO:aN Tryz.prog 89 Tv:=bG Tryz.func89
def Jm:bp:=⟨78,c90,[.tmp 2, .tmp 3],true,false⟩
theorem aqN:aN Tryz.prog 90 Jm:=bG Tryz.func90
def Tu:bp:=⟨23,c91,[.tmp 4, .tmp 5, .tmp 6],true,false⟩
theorem aqM:aN Tryz.prog 91 Tu:=bG Tryz.func91
def Ts:bp:=⟨12,c92,[.tmp 4],true,false⟩
theorem aqL:aN Tryz.prog 92 Ts:=bG Tryz.func92
def Tq:bp:=⟨9,c93,[.tmp 2],true,false⟩
theorem aqK:aN Tryz.prog 93 Tq:=bG Tryz.func93
def Tp:bp:=⟨98,c97,[.tmp 2],true,false⟩
theorem aqJ:aN Tryz.prog 97 Tp:=bG Tryz.func97
def To:bp:=⟨79,c98,[.tmp 4],true,false⟩
theorem aqI:aN Tryz.prog 98 To:=bG Tryz.func98
def GX:bp:=⟨28,abD,[.tmp 6, .tmp 7],true,false⟩
theorem Wv:aN Tryz.prog 100 GX:=bG Tryz.func100
def Mw:bp:=⟨29,abC,[.cell 6 (some 2), .tmp 7],true,false⟩
theorem Wu:aN Tryz.prog 101 Mw:=bG Tryz.func101
def Mu:bp:=⟨31,abB,[.tmp 6],true,false⟩
theorem Wt:aN Tryz.prog 102 Mu:=bG Tryz.func102
def Mt:bp:=⟨21,abA,[.tmp 4, .tmp 5],true,false⟩
theorem Ws:aN Tryz.prog 104 Mt:=bG Tryz.func104
def Mr:bp:=⟨19,aaZ,[.tmp 4],true,false⟩
theorem Wr:aN Tryz.prog 105 Mr:=bG Tryz.func105
def Mq:bp:=⟨9,aaY,[.tmp 4],true,false⟩
theorem Wq:aN Tryz.prog 106 Mq:=bG Tryz.func106
def Mp:bp:=⟨38,aaX,[.tmp 6],true,false⟩
theorem Wo:aN Tryz.prog 107 Mp:=bG Tryz.func107
def Mo:bp:=⟨45,aaW,[.tmp 8],true,false⟩
theorem Wn:aN Tryz.prog 108 Mo:=bG Tryz.func108
def Mm:bp:=⟨53,(Sq (Rg [Mv 10 1,Bi 11 .add 10 1,Mv 8 11]) (Bk 0 (Lp (Sq (Sq (Rg [Mv 12 8,Mv 13 2,Bt 14 .lss 12 13]) (Cn 14 Sk (Ex 0))) (Sq (Bk 1 (Sq (Rg [Mv 17 8,Mv 9 17]) (Bk 2 (Lp (Sq (Sq (Dr [Mv 18 9,Mv 19 1,Bt 20 .gtr 18 19,Mv 21 20,Gb 21 (Mv 22 3),Gb 21 (Mv 23 0),Gb 21 (Mv 24 9),Gb 21 (Ia 25 2 23 24),Gb 21 (Lo 2 26 25),Gb 21 (Mv 27 0),Gb 21 (Mv 28 9),Gb 21 (Bi 29 .sub 28 1),Gb 21 (Ia 30 2 27 29),Gb 21 (Lo 2 31 30),Gb 21 (p 32 (.fg (t 22) [t 26,t 31])),Gb 21 (Bi 33 .lss 32 0),Pf 34 21 33] [[],[],[0,1],[2],[3],[3],[3],[5,6,3],[7,3],[3],[3],[10,3],[9,11,3],[12,3],[4,8,13,3,3],[14,3],[3,15]]) (Cn 34 Sk (Ex 2))) (Sq (Bk 3 (Dr [Mv 37 0,Mv 38 9,Mv 39 0,Mv 40 9,Bi 41 .sub 40 1,Mv 42 0,Mv 43 9,Bi 44 .sub 43 1,Ia 45 2 42 44,Lo 2 46 45,Mv 47 0,Mv 48 9,Ia 49 2 47 48,Lo 2 50 49,Ia 51 2 37 38,So 2 51 46,Ia 52 2 39 41,So 2 52 50] [[],[],[],[],[3],[],[],[6],[5,7],[8],[],[],[10,11],[12],[0,1,0,1,5,6,7,8,9,13],[14,9,0,1,5,6,7,8,9,13],[2,4,0,1,2,3,4,5,6,7,8,9,10,11,12,13,14,15],[16,13,15,0,1,2,3,4,5,6,7,8,9,10,11,12,13,14,15]])) (Rg [Mv 35 9,Bi 36 .sub 35 1,Mv 9 36]))))))) (Rg [Mv 15 8,Bi 16 .add 15 1,Mv 8 16])))))),[],true,true⟩
theorem Wm:aN Tryz.prog 109 Mm:=bG Tryz.func109
def Ml:bp:=⟨25,aaV,[.tmp 2],true,false⟩
theorem Wl:aN Tryz.prog 118 Ml:=bG Tryz.func118
def Mj:bp:=⟨78,aaU,[.tmp 2, .tmp 3],true,false⟩
theorem Wj:aN Tryz.prog 119 Mj:=bG Tryz.func119
def Mi:bp:=⟨29,aaT,[.cell 3 (some 2), .cell 4 (some 2), .cell 5 (some 2)],true,false⟩
theorem Wh:aN Tryz.prog 120 Mi:=bG Tryz.func120
def Mh:bp:=⟨12,aaS,[.tmp 3],true,false⟩
theorem Wg:aN Tryz.prog 121 Mh:=bG Tryz.func121
def Mg:bp:=⟨30,aaR,[.tmp 6],true,false⟩
theorem V9:aN Tryz.prog 122 Mg:=bG Tryz.func122
def Mf:bp:=⟨51,aaQ,[.tmp 4],true,false⟩
theorem V8:aN Tryz.prog 123 Mf:=bG Tryz.func123
def Me:bp:=⟨73,aaP,[.tmp 4],true,false⟩
theorem V7:aN Tryz.prog 124 Me:=bG Tryz.func124
def Md:bp:=⟨15,aaO,[.tmp 4],true,false⟩
theorem V6:aN Tryz.prog 125 Md:=bG Tryz.func125
def Mc:bp:=⟨67,aaN,[.tmp 4],true,false⟩
theorem V5:aN Tryz.prog 126 Mc:=bG Tryz.func126
def Ma:bp:=⟨7,aaM,[.tmp 2],true,false⟩
theorem V4:aN Tryz.prog 129 Ma:=bG Tryz.func129
def L9:bp:=⟨8,aaL,[.tmp 2],true,false⟩
theorem V3:aN Tryz.prog 130 L9:=bG Tryz.func130
def L8:bp:=⟨9,aaK,[.tmp 4],true,false⟩
theorem V2:aN Tryz.prog 131 L8:=bG Tryz.func131
def GW:bp:=⟨84,aaJ,[.tmp 4, .tmp 5],true,false⟩
theorem V1:aN Tryz.prog 132 GW:=bG Tryz.func132
def L7:bp:=⟨18,aaI,[.tmp 4, .tmp 5],true,false⟩
theorem V0:aN Tryz.prog 133 L7:=bG Tryz.func133
def L6:bp:=⟨63,aaH,[.tmp 6, .cell 7 (some 7), .tmp 8],true,false⟩
theorem VZ:aN Tryz.prog 134 L6:=bG Tryz.func134
def L5:bp:=⟨164,aaG,[.tmp 4, .tmp 5],true,false⟩
theorem VY:aN Tryz.prog 135 L5:=bG Tryz.func135
def L4:bp:=⟨9,aaF,[.cell 2 (some 2)],true,false⟩
theorem VX:aN Tryz.prog 136 L4:=bG Tryz.func136
def L3:bp:=⟨50,aaE,[.tmp 4, .tmp 5],true,false⟩
theorem VW:aN Tryz.prog 138 L3:=bG Tryz.func138
def LZ:bp:=⟨19,aaD,[.tmp 4],true,false⟩
theorem VV:aN Tryz.prog 139 LZ:=bG Tryz.func139
def LY:bp:=⟨30,aaC,[.tmp 6],true,false⟩
theorem VU:aN Tryz.prog 140 LY:=bG Tryz.func140
def LX:bp:=⟨52,aaB,[.tmp 6],true,false⟩
theorem VT:aN Tryz.prog 141 LX:=bG Tryz.func141
def LW:bp:=⟨21,aaA,[.tmp 8],true,false⟩
theorem VS:aN Tryz.prog 142 LW:=bG Tryz.func142
def LV:bp:=⟨29,Z9,[.tmp 4],true,false⟩
theorem VR:aN Tryz.prog 148 LV:=bG Tryz.func148
def LU:bp:=⟨37,Z8,[.tmp 2],true,false⟩
theorem VQ:aN Tryz.prog 149 LU:=bG Tryz.func149
def LS:bp:=⟨36,Z7,[.tmp 2],false,false⟩
theorem VP:aN Tryz.prog 151 LS:=bG Tryz.func151
def LR:bp:=⟨21,Z6,[.tmp 2],true,false⟩
theorem VO:aN Tryz.prog 152 LR:=bG Tryz.func152
def LQ:bp:=⟨5,Z5,[.tmp 2],true,false⟩
theorem VN:aN Tryz.prog 156 LQ:=bG Tryz.func156
def LP:bp:=⟨103,Z4,[.tmp 2],true,false⟩
theorem VM:aN Tryz.prog 157 LP:=bG Tryz.func157
def LO:bp:=⟨19,Z3,[.tmp 4],true,false⟩
theorem VL:aN Tryz.prog 158 LO:=bG Tryz.func158
def LN:bp:=⟨14,Z2,[.tmp 4],true,false⟩
theorem VK:aN Tryz.prog 159 LN:=bG Tryz.func159
def GV:bp:=⟨81,Z1,[.tmp 2],true,false⟩
theorem VJ:aN Tryz.prog 160 GV:=bG Tryz.func160
def LM:bp:=⟨26,Z0,[.cell 4 (some 2)],true,false⟩
theorem VI:aN Tryz.prog 161 LM:=bG Tryz.func161
def LL:bp:=⟨62,ZZ,[.tmp 6],true,false⟩
theorem VH:aN Tryz.prog 162 LL:=bG Tryz.func162
def LK:bp:=⟨92,ZY,[.tmp 4, .tmp 5, .tmp 6],true,false⟩
theorem VG:aN Tryz.prog 163 LK:=bG Tryz.func163
def LJ:bp:=⟨110,ZX,[.tmp 4, .tmp 5],true,false⟩
theorem VF:aN Tryz.prog 164 LJ:=bG Tryz.func164
def LI:bp:=⟨12,ZW,[.tmp 2, .tmp 3],true,false⟩
theorem VE:aN Tryz.prog 165 LI:=bG Tryz.func165
def LH:bp:=⟨31,ZV,[.tmp 4],true,false⟩
theorem VD:aN Tryz.prog 166 LH:=bG Tryz.func166
def LG:bp:=⟨16,ZU,[.cell 4 (some 2)],true,false⟩
theorem VC:aN Tryz.prog 167 LG:=bG Tryz.func167
def LF:bp:=⟨59,ZT,[.tmp 6],true,false⟩
theorem VB:aN Tryz.prog 168 LF:=bG Tryz.func168
def LD:bp:=⟨29,ZS,[.tmp 4],true,false⟩
theorem VA:aN Tryz.prog 169 LD:=bG Tryz.func169
def LC:bp:=⟨6,ZR,[.tmp 2],true,false⟩
theorem Vz:aN Tryz.prog 170 LC:=bG Tryz.func170
def LB:bp:=⟨27,ZQ,[.tmp 4],true,true⟩
theorem Vy:aN Tryz.prog 173 LB:=bG Tryz.func173
def LA:bp:=⟨28,ZP,[.tmp 4],true,false⟩
theorem Vx:aN Tryz.prog 174 LA:=bG Tryz.func174
def Ly:bp:=⟨46,ZO,[.tmp 2],true,false⟩
theorem Vw:aN Tryz.prog 175 Ly:=bG Tryz.func175
def GU:bp:=⟨22,ZN,[.tmp 4],true,false⟩
theorem Vv:aN Tryz.prog 177 GU:=bG Tryz.func177
def Lx:bp:=⟨9,ZM,[.tmp 4],true,false⟩
theorem Vu:aN Tryz.prog 178 Lx:=bG Tryz.func178
def Lw:bp:=⟨14,ZL,[.tmp 4],true,false⟩
theorem Vt:aN Tryz.prog 180 Lw:=bG Tryz.func180
def Lv:bp:=⟨7,ZK,[.tmp 2],true,false⟩
theorem Vs:aN Tryz.prog 181 Lv:=bG Tryz.func181
def Lu:bp:=⟨29,ZJ,[.tmp 2],true,false⟩
theorem Vr:aN Tryz.prog 182 Lu:=bG Tryz.func182
def Lt:bp:=⟨23,ZI,[.tmp 2],true,false⟩
theorem Vq:aN Tryz.prog 183 Lt:=bG Tryz.func183
def Lr:bp:=⟨19,ZH,[.tmp 4],true,false⟩
theorem Vp:aN Tryz.prog 184 Lr:=bG Tryz.func184
def Lq:bp:=⟨25,ZG,[.tmp 2],true,false⟩
theorem Vo:aN Tryz.prog 187 Lq:=bG Tryz.func187
def Ln:bp:=⟨19,ZF,[.tmp 4],true,false⟩
theorem Vm:aN Tryz.prog 188 Ln:=bG Tryz.func188
def Lm:bp:=⟨37,ZE,[.cell 8 (some 6), .tmp 9],true,false⟩
theorem Vl:aN Tryz.prog 189 Lm:=bG Tryz.func189
def xF:bp:=⟨8,ZD,[.cell 2 (some 6)],true,false⟩
theorem Vd:aN Tryz.prog 190 xF:=bG Tryz.func190
def GS:bp:=⟨30,ZC,[.cell 2 (some 2), .tmp 3],true,false⟩
theorem Vc:aN Tryz.prog 191 GS:=bG Tryz.func191
def xE:bp:=⟨16,ZB,[.cell 4 (some 6)],true,false⟩
theorem Vb:aN Tryz.prog 192 xE:=bG Tryz.func192
def Ll:bp:=⟨8,ZA,[.tmp 2],true,false⟩
theorem Va:aN Tryz.prog 193 Ll:=bG Tryz.func193
def Lk:bp:=⟨50,Zz,[.tmp 2],true,false⟩
theorem U9:aN Tryz.prog 197 Lk:=bG Tryz.func197
def Dl:bp:=⟨9,Zy,[.cell 2 (some 3)],true,false⟩
theorem U8:aN Tryz.prog 198 Dl:=bG Tryz.func198
def Lj:bp:=⟨38,Zx,[.tmp 4],true,false⟩
theorem U7:aN Tryz.prog 199 Lj:=bG Tryz.func199
def GR:bp:=⟨16,Zw,[.cell 4 (some 2)],true,false⟩
theorem U6:aN Tryz.prog 200 GR:=bG Tryz.func200
def Li:bp:=⟨5,Zv,[.cell 2 (some 2)],true,false⟩
theorem U5:aN Tryz.prog 201 Li:=bG Tryz.func201
def Lh:bp:=⟨19,Zu,[.tmp 4],true,false⟩
theorem U4:aN Tryz.prog 202 Lh:=bG Tryz.func202
def Lc:bp:=⟨21,Zt,[.tmp 2],true,false⟩
theorem U3:aN Tryz.prog 205 Lc:=bG Tryz.func205
def Lb:bp:=⟨5,Zs,[.tmp 2],true,false⟩
theorem U2:aN Tryz.prog 209 Lb:=bG Tryz.func209
def GQ:bp:=⟨38,Zr,[.cell 4 (some 3), .tmp 5],true,false⟩
theorem U1:aN Tryz.prog 210 GQ:=bG Tryz.func210
def La:bp:=⟨16,Zq,[.cell 4 (some 3)],true,false⟩
theorem U0:aN Tryz.prog 211 La:=bG Tryz.func211
def K9:bp:=⟨14,Zp,[.cell 6 (some 6)],true,false⟩
theorem UZ:aN Tryz.prog 212 K9:=bG Tryz.func212
def K8:bp:=⟨22,Zo,[.cell 4 (some 6)],true,false⟩
theorem UY:aN Tryz.prog 213 K8:=bG Tryz.func213
def K7:bp:=⟨22,Zm,[.tmp 2, .tmp 3],true,false⟩
theorem UX:aN Tryz.prog 214 K7:=bG Tryz.func214
def vc:bp:=⟨9,Zl,[.cell 4 (some 3)],true,false⟩
theorem UW:aN Tryz.prog 215 vc:=bG Tryz.func215
def K6:bp:=⟨18,Zk,[.tmp 2, .tmp 3],true,false⟩
theorem UU:aN Tryz.prog 217 K6:=bG Tryz.func217
def K5:bp:=⟨52,Zj,[.tmp 2],true,false⟩
theorem UT:aN Tryz.prog 218 K5:=bG Tryz.func218
def K4:bp:=⟨6,Zi,[.tmp 2],true,false⟩
theorem US:aN Tryz.prog 220 K4:=bG Tryz.func220
def K3:bp:=⟨10,Zh,[.tmp 2],true,false⟩
theorem UR:aN Tryz.prog 221 K3:=bG Tryz.func221
def K0:bp:=⟨8,Zg,[.cell 2 (some 2)],true,false⟩
theorem UQ:aN Tryz.prog 222 K0:=bG Tryz.func222
def KZ:bp:=⟨39,Zf,[.tmp 4],true,false⟩
theorem UP:aN Tryz.prog 223 KZ:=bG Tryz.func223
def KY:bp:=⟨15,Ze,[.cell 4 (some 2)],true,false⟩
theorem UO:aN Tryz.prog 224 KY:=bG Tryz.func224
def Dk:bp:=⟨71,Zd,[.tmp 4],true,false⟩
theorem UN:aN Tryz.prog 225 Dk:=bG Tryz.func225
def uZ:bp:=⟨38,Zc,[.cell 4 (some 3)],true,false⟩
theorem UM:aN Tryz.prog 229 uZ:=bG Tryz.func229
def GP:bp:=⟨20,Zb,[.cell 4 (some 3)],true,false⟩
theorem UL:aN Tryz.prog 230 GP:=bG Tryz.func230
def KX:bp:=⟨16,Za,[.cell 4 (some 6)],true,false⟩
theorem UK:aN Tryz.prog 231 KX:=bG Tryz.func231
def KW:bp:=⟨14,Y9,[.cell 4 (some 6)],true,false⟩
theorem UJ:aN Tryz.prog 232 KW:=bG Tryz.func232
def GO:bp:=⟨25,Y8,[.cell 4 (some 3), .tmp 5],true,false⟩
theorem UI:aN Tryz.prog 233 GO:=bG Tryz.func233
def KV:bp:=⟨49,Y7,[.tmp 2, .tmp 3],true,false⟩
theorem UH:aN Tryz.prog 234 KV:=bG Tryz.func234
def KU:bp:=⟨36,Y6,[.cell 2 (some 2)],true,false⟩
theorem UG:aN Tryz.prog 235 KU:=bG Tryz.func235
def AS:bp:=⟨30,Y5,[.cell 4 (some 3)],true,false⟩
theorem UF:aN Tryz.prog 236 AS:=bG Tryz.func236
def KT:bp:=⟨11,Y4,[.cell 2 (some 3)],true,false⟩
theorem UE:aN Tryz.prog 237 KT:=bG Tryz.func237
def KS:bp:=⟨21,Y3,[.tmp 2],true,true⟩
theorem UD:aN Tryz.prog 239 KS:=bG Tryz.func239
def KR:bp:=⟨20,Y2,[.tmp 4],true,false⟩
theorem UC:aN Tryz.prog 240 KR:=bG Tryz.func240
def KQ:bp:=⟨13,YZ,[.tmp 2],true,false⟩
theorem UB:aN Tryz.prog 241 KQ:=bG Tryz.func241
def KP:bp:=⟨25,YY,[.tmp 4],true,false⟩
theorem UA:aN Tryz.prog 242 KP:=bG Tryz.func242
def GM:bp:=⟨93,YX,[.tmp 4, .tmp 5, .tmp 6],true,false⟩
theorem Uz:aN Tryz.prog 243 GM:=bG Tryz.func243
def KO:bp:=⟨14,YW,[.cell 2 (some 2)],true,false⟩
theorem Uy:aN Tryz.prog 244 KO:=bG Tryz.func244
def KN:bp:=⟨60,YV,[.tmp 4],true,false⟩
theorem Ux:aN Tryz.prog 245 KN:=bG Tryz.func245
def KM:bp:=⟨47,YU,[.cell 4 (some 2)],true,false⟩
theorem Uw:aN Tryz.prog 246 KM:=bG Tryz.func246
def KL:bp:=⟨9,YT,[.cell 2 (some 2)],true,false⟩
theorem Uv:aN Tryz.prog 247 KL:=bG Tryz.func247
def KK:bp:=⟨6,YS,[.tmp 2],true,false⟩
theorem Uu:aN Tryz.prog 248 KK:=bG Tryz.func248
def KJ:bp:=⟨43,YR,[.tmp 4, .tmp 5],true,false⟩
theorem Ut:aN Tryz.prog 249 KJ:=bG Tryz.func249
def KI:bp:=⟨54,YQ,[.tmp 4, .tmp 5],true,false⟩
theorem Ur:aN Tryz.prog 254 KI:=bG Tryz.func254
end Go.aU.Cd
end
section
namespace Go.aU.Cd
open Go Go.Proofs
set_option maxRecDepth 100000
def Uq:List (Nat×bp):=[(65,TO),(239,KS),(88,Tw),(140,LY),(198,Dl),(224,KY),(225,Dk),(200,GR),(229,uZ),(215,vc),(192,xE),(190,xF),(241,KQ),(122,Mg),(243,GM),(230,GP),(201,Li),(184,Lr),(141,LX),(236,AS),(126,Mc),(223,KZ),(248,KK),(167,LG),(120,Mi),(55,Jn),(222,K0),(159,LN),(245,KN),(233,GO),(221,K3),(220,K4),(211,La),(205,Lc),(188,Ln),(169,LD),(161,LM),(152,LR),(148,LV),(139,LZ),(121,Mh),(107,Mp),(106,Mq),(80,TE),(246,KM),(218,K5),(217,K6),(197,Lk),(174,LA),(156,LQ),(92,Ts),(29,Uh),(242,KP),(240,KR),(237,KT),(177,GU),(105,Mr),(93,Tq),(79,TF),(22,OL),(66,TN),(31,Uf),(12,Uo),(249,KJ),(244,KO),(232,KW),(231,KX),(213,K8),(212,K9),(210,GQ),(191,GS),(189,Lm),(187,Lq),(182,Lu),(181,Lv),(168,LF),(162,LL),(142,LW),(125,Md),(108,Mo),(91,Tu),(90,Jm),(83,TB),(74,OJ),(68,TL),(51,T1),(48,T4),(36,T6),(11,Up),(254,KI),(247,KL),(170,LC),(160,GV),(149,LU),(132,GW),(129,Ma),(109,Mm),(89,Tv),(87,Tx),(86,Ty),(63,TP),(214,K7),(202,Lh),(183,Lt),(180,Lw),(178,Lx),(175,Ly),(173,LB),(166,LH),(165,LI),(157,LP),(151,LS),(134,L6),(130,L9),(124,Me),(123,Mf),(119,Mj),(118,Ml),(102,Mu),(101,Mw),(100,GX),(97,Tp),(82,TC),(81,TD),(78,TG),(76,TI),(69,TK),(67,TM),(57,TW),(56,TX),(54,TY),(50,T2),(49,T3),(42,T5),(35,T7),(30,Ug),(15,Ul),(14,Um),(13,Un),(235,KU),(234,KV),(209,Lb),(199,Lj),(193,Ll),(164,LJ),(163,LK),(158,LO),(138,L3),(136,L4),(135,L5),(133,L7),(131,L8),(104,Mt),(98,To),(85,Tz),(84,TA),(77,TH),(75,TJ),(62,TQ),(60,TR),(59,TU),(58,TV),(53,TZ),(52,T0),(34,T8),(33,T9),(32,Ue),(28,Ui),(27,Uj),(16,Uk),(9,fr9)]
abbrev gY:Nat→Option bp:=find Uq
theorem bF:DM Tryz.prog gY:=AT (show HO Tryz.prog Uq from⟨arI,UD,aqP,VU,U8,UO,UN,U6,UM,UW,Vb,Vd,UB,V9,Uz,UL,U5,Vp,VT,UF,V5,UP,Uu,VC,Wh,arQ,UQ,VK,Ux,UI,UR,US,U0,U3,Vm,VA,VI,VO,VR,VV,Wg,Wo,Wq,aqX,Uw,UT,UU,U9,Vx,VN,aqL,asG,UA,UC,UE,Vv,Wr,aqK,aqY,asJ,arH,asE,asO,Ut,Uy,UJ,UK,UY,UZ,U1,Vc,Vl,Vo,Vr,Vs,VB,VH,VS,V6,Wn,aqM,aqN,aqU,arD,arF,arU,arX,arZ,asP,Ur,Uv,Vz,VJ,VQ,V1,V4,Wm,aqO,aqQ,aqR,arJ,UX,U4,Vq,Vt,Vu,Vw,Vy,VD,VE,VM,VP,VZ,V3,V7,V8,Wj,Wl,Wt,Wu,Wv,aqJ,aqV,aqW,aqZ,arB,arE,arG,arO,arP,arR,arV,arW,arY,asA,asF,asL,asM,asN,UG,UH,U2,U7,Va,VF,VG,VL,VW,VX,VY,V0,V2,Ws,aqI,aqS,aqT,arA,arC,arK,arL,arM,arN,arS,arT,asB,asC,asD,asH,asI,asK,fk9,trivial⟩)
def l0:List (Nat×List W×V):=[]
theorem k0:bW Tryz.prog (bR l0):=Iy
def a1:List W:=[.agg [.t (bo false), .t (nl), .t (nl)], .agg [.t (bo false), .t (nl), .t (nl)]]
def v1:V:= .w (.one (.t (i 0)))
theorem r1:Fn Tryz.prog 177 a1 [] v1 []∧v1.cq=true:=bf (fuel:=10000) (d:=60) bF k0 (show gY 177=some GU from rfl) (by kernel_rfl)
def l1:List (Nat×List W×V):=(177,a1,v1)::l0
theorem k1:bW Tryz.prog (bR l1):=aV k0 r1
def a2:List W:=[.one (.t (.aA 2 [[i 0,i 0],[i 10,i 0],[i 10,i 10],[i 0,i 10]]))]
def v2:V:= .w (.one (.t (i 0)))
theorem r2:Fn Tryz.prog 55 a2 [] v2 []∧v2.cq=true:=bf (fuel:=10000) (d:=60) bF k1 (show gY 55=some Jn from rfl) (by kernel_rfl)
def l2:List (Nat×List W×V):=(55,a2,v2)::l1
theorem k2:bW Tryz.prog (bR l2):=aV k1 r2
def a3:List W:=[.one (.t (.aA 2 [[.val (.string ⟨#[108,111,119]⟩), .aA 2 [[i 0,i 0],[i 10,i 0]]],[.val (.string ⟨#[114,105,103,104,116]⟩), .aA 2 [[i 10,i 0],[i 10,i 10]]],[.val (.string ⟨#[104,105,103,104]⟩), .aA 2 [[i 10,i 10],[i 0,i 10]]],[.val (.string ⟨#[108,101,102,116]⟩), .aA 2 [[i 0,i 10],[i 0,i 0]]]]))]
def v3:V:= .w (.one (.t (i 0)))
theorem r3:Fn Tryz.prog 160 a3 [] v3 []∧v3.cq=true:=bf (fuel:=10000) (d:=60) bF k2 (show gY 160=some GV from rfl) (by kernel_rfl)
def l3:List (Nat×List W×V):=(160,a3,v3)::l2
theorem k3:bW Tryz.prog (bR l3):=aV k2 r3
def a4:List W:=[.agg [.t (.val (.string ⟨#[102,114,111,110,116]⟩)), .t (.aA 2 [[.val (.string ⟨#[108,111,119]⟩), .aA 2 [[i 0,i 0],[i 10,i 0]]],[.val (.string ⟨#[114,105,103,104,116]⟩), .aA 2 [[i 10,i 0],[i 10,i 10]]],[.val (.string ⟨#[104,105,103,104]⟩), .aA 2 [[i 10,i 10],[i 0,i 10]]],[.val (.string ⟨#[108,101,102,116]⟩), .aA 2 [[i 0,i 10],[i 0,i 0]]]]), .t (i 1), .t (nl), .t (.aA 2 [[i 0,i 0],[i 0,i 0],[i 0,i 0],[i 0,i 0]]), .t (.aA 1 [[i 0],[i 0],[i 0],[i 0]]), .t (bo false)], .one (.t (i 0))]
def v4:V:= .ep [.one (.t (.aA 2 [[.val (.string ⟨#[108,111,119]⟩), .aA 2 [[i 0,i 0],[i 10,i 0]]],[.val (.string ⟨#[114,105,103,104,116]⟩), .aA 2 [[i 10,i 0],[i 10,i 10]]],[.val (.string ⟨#[104,105,103,104]⟩), .aA 2 [[i 10,i 10],[i 0,i 10]]],[.val (.string ⟨#[108,101,102,116]⟩), .aA 2 [[i 0,i 10],[i 0,i 0]]]])), .one (.t (i 0))]
theorem r4:Fn Tryz.prog 132 a4 [] v4 []∧v4.cq=true:=bf (fuel:=10000) (d:=60) bF k3 (show gY 132=some GW from rfl) (by kernel_rfl)
def l4:List (Nat×List W×V):=(132,a4,v4)::l3
theorem k4:bW Tryz.prog (bR l4):=aV k3 r4
def a5:List W:=[.agg [.t (.val (.string ⟨#[115,104,105,114,116]⟩)), .t (.aA 1 [[.val (.string ⟨#[83]⟩)],[.val (.string ⟨#[77]⟩)]]), .t (.aA 1 [[i 0],[i 0]]), .t (.aA 7 [[.val (.string ⟨#[102,114,111,110,116]⟩), .aA 2 [[.val (.string ⟨#[108,111,119]⟩), .aA 2 [[i 0,i 0],[i 10,i 0]]],[.val (.string ⟨#[114,105,103,104,116]⟩), .aA 2 [[i 10,i 0],[i 10,i 10]]],[.val (.string ⟨#[104,105,103,104]⟩), .aA 2 [[i 10,i 10],[i 0,i 10]]],[.val (.string ⟨#[108,101,102,116]⟩), .aA 2 [[i 0,i 10],[i 0,i 0]]]],i 1,nl, .aA 2 [[i 0,i 0],[i 0,i 0],[i 0,i 0],[i 0,i 0]], .aA 1 [[i 0],[i 0],[i 0],[i 0]],bo false]]), .t (.aA 3 [[i 0,i 2,bo false]]), .t (nl), .t (nl)]]
def v5:V:= .w (.one (.t (i 0)))
theorem r5:Fn Tryz.prog 74 a5 [] v5 []∧v5.cq=true:=bf (fuel:=10000) (d:=60) bF k4 (show gY 74=some OJ from rfl) (by kernel_rfl)
def l5:List (Nat×List W×V):=(74,a5,v5)::l4
theorem k5:bW Tryz.prog (bR l5):=aV k4 r5
def a6:List W:=[.one (.t (.aA 1 [[u 1]])), .one (.t (.aA 1 [[u 1]]))]
def v6:V:= .ep [.one (.t (.aA 1 [[u 1]])), .one (.t (.aA 1 [])), .one (.t (bo true))]
theorem r6:Fn Tryz.prog 243 a6 [] v6 []∧v6.cq=true:=bf (fuel:=10000) (d:=60) bF k5 (show gY 243=some GM from rfl) (by kernel_rfl)
def l6:List (Nat×List W×V):=(243,a6,v6)::l5
theorem k6:bW Tryz.prog (bR l6):=aV k5 r6
def a7:List W:=[.agg [.t (bo false), .t (.aA 1 [])], .one (.t (.aA 1 [[u 1]]))]
def v7:V:= .w (.agg [.t (bo false), .t (.aA 1 []), .t (.aA 1 [[u 1]])])
theorem r7:Fn Tryz.prog 229 a7 [] v7 []∧v7.cq=true:=bf (fuel:=10000) (d:=60) bF k6 (show gY 229=some uZ from rfl) (by kernel_rfl)
def l7:List (Nat×List W×V):=(229,a7,v7)::l6
theorem k7:bW Tryz.prog (bR l7):=aV k6 r7
def a8:List W:=[.agg [.t (bo false), .t (.aA 1 [[u 10]])], .one (.t (.aA 1 [[u 1]]))]
def v8:V:= .w (.agg [.t (bo false), .t (.aA 1 [[u 10]]), .t (.aA 1 [[u 1]])])
theorem r8:Fn Tryz.prog 229 a8 [] v8 []∧v8.cq=true:=bf (fuel:=10000) (d:=60) bF k7 (show gY 229=some uZ from rfl) (by kernel_rfl)
def l8:List (Nat×List W×V):=(229,a8,v8)::l7
theorem k8:bW Tryz.prog (bR l8):=aV k7 r8
def a9:List W:=[.one (.t (i 10)), .one (.t (i 1))]
def v9:V:= .ep [.agg [.t (bo false), .t (.aA 1 [[u 10]]), .t (.aA 1 [[u 1]])], .one (.t (bo true))]
theorem r9:Fn Tryz.prog 233 a9 [] v9 []∧v9.cq=true:=bf (fuel:=10000) (d:=60) bF k8 (show gY 233=some GO from rfl) (by kernel_rfl)
def l9:List (Nat×List W×V):=(233,a9,v9)::l8
theorem k9:bW Tryz.prog (bR l9):=aV k8 r9
def a10:List W:=[.agg [.t (i 0), .t (i 10)]]
def v10:V:= .w (.agg [.t (bo false), .t (.aA 1 []), .t (.aA 1 [[u 1]]), .t (bo false), .t (.aA 1 [[u 10]]), .t (.aA 1 [[u 1]])])
theorem r10:Fn Tryz.prog 190 a10 [] v10 []∧v10.cq=true:=bf (fuel:=10000) (d:=60) bF k9 (show gY 190=some xF from rfl) (by kernel_rfl)
def Fc:List (Nat×List W×V):=(190,a10,v10)::l9
theorem k10:bW Tryz.prog (bR Fc):=aV k9 r10
def a11:List W:=[.agg [.t (i 0), .t (i 0)]]
def v11:V:= .w (.agg [.t (bo false), .t (.aA 1 []), .t (.aA 1 [[u 1]]), .t (bo false), .t (.aA 1 []), .t (.aA 1 [[u 1]])])
theorem r11:Fn Tryz.prog 190 a11 [] v11 []∧v11.cq=true:=bf (fuel:=10000) (d:=60) bF k10 (show gY 190=some xF from rfl) (by kernel_rfl)
def l11:List (Nat×List W×V):=(190,a11,v11)::Fc
theorem k11:bW Tryz.prog (bR l11):=aV k10 r11
def a12:List W:=[.agg [.t (i 10), .t (i 0)]]
def v12:V:= .w (.agg [.t (bo false), .t (.aA 1 [[u 10]]), .t (.aA 1 [[u 1]]), .t (bo false), .t (.aA 1 []), .t (.aA 1 [[u 1]])])
theorem r12:Fn Tryz.prog 190 a12 [] v12 []∧v12.cq=true:=bf (fuel:=10000) (d:=60) bF k11 (show gY 190=some xF from rfl) (by kernel_rfl)
def l12:List (Nat×List W×V):=(190,a12,v12)::l11
theorem k12:bW Tryz.prog (bR l12):=aV k11 r12
def a13:List W:=[.agg [.t (bo false), .t (.aA 1 []), .t (.aA 1 [[u 1]])]]
def v13:V:= .w (.agg [.t (bo false), .t (.aA 1 []), .t (.aA 1 [[u 1]])])
theorem r13:Fn Tryz.prog 198 a13 [] v13 []∧v13.cq=true:=bf (fuel:=10000) (d:=60) bF k12 (show gY 198=some Dl from rfl) (by kernel_rfl)
def l13:List (Nat×List W×V):=(198,a13,v13)::l12
theorem k13:bW Tryz.prog (bR l13):=aV k12 r13
def a14:List W:=[.agg [.t (bo false), .t (.aA 1 [[u 10]]), .t (.aA 1 [[u 1]])]]
def v14:V:= .w (.agg [.t (bo false), .t (.aA 1 [[u 10]]), .t (.aA 1 [[u 1]])])
theorem r14:Fn Tryz.prog 198 a14 [] v14 []∧v14.cq=true:=bf (fuel:=10000) (d:=60) bF k13 (show gY 198=some Dl from rfl) (by kernel_rfl)
def l14:List (Nat×List W×V):=(198,a14,v14)::l13
theorem k14:bW Tryz.prog (bR l14):=aV k13 r14
def a15:List W:=[.agg [.t (bo false), .t (.aA 1 [])], .agg [.t (bo false), .t (.aA 1 [[u 1]])]]
def v15:V:= .w (.agg [.t (bo false), .t (.aA 1 [])])
theorem r15:Fn Tryz.prog 200 a15 [] v15 []∧v15.cq=true:=bf (fuel:=10000) (d:=60) bF k14 (show gY 200=some GR from rfl) (by kernel_rfl)
def l15:List (Nat×List W×V):=(200,a15,v15)::l14
theorem k15:bW Tryz.prog (bR l15):=aV k14 r15
def a16:List W:=[.one (.t (.aA 1 [[u 1]])), .one (.t (.aA 1 [[u 1]]))]
def v16:V:= .w (.one (.t (.aA 1 [[u 1]])))
theorem r16:Fn Tryz.prog 225 a16 [] v16 []∧v16.cq=true:=bf (fuel:=10000) (d:=60) bF k15 (show gY 225=some Dk from rfl) (by kernel_rfl)
def l16:List (Nat×List W×V):=(225,a16,v16)::l15
theorem k16:bW Tryz.prog (bR l16):=aV k15 r16
def a17:List W:=[.agg [.t (bo false), .t (.aA 1 [[u 10]]), .t (.aA 1 [[u 1]])], .agg [.t (bo false), .t (.aA 1 []), .t (.aA 1 [[u 1]])]]
def v17:V:= .w (.agg [.t (bo false), .t (.aA 1 [[u 10]]), .t (.aA 1 [[u 1]])])
theorem r17:Fn Tryz.prog 236 a17 [] v17 []∧v17.cq=true:=bf (fuel:=10000) (d:=60) bF k16 (show gY 236=some AS from rfl) (by kernel_rfl)
def l17:List (Nat×List W×V):=(236,a17,v17)::l16
theorem k17:bW Tryz.prog (bR l17):=aV k16 r17
def a18:List W:=[.agg [.t (bo false), .t (.aA 1 []), .t (.aA 1 [[u 1]])], .agg [.t (bo false), .t (.aA 1 []), .t (.aA 1 [[u 1]])]]
def v18:V:= .w (.agg [.t (bo false), .t (.aA 1 []), .t (.aA 1 [[u 1]])])
theorem r18:Fn Tryz.prog 236 a18 [] v18 []∧v18.cq=true:=bf (fuel:=10000) (d:=60) bF k17 (show gY 236=some AS from rfl) (by kernel_rfl)
def l18:List (Nat×List W×V):=(236,a18,v18)::l17
theorem k18:bW Tryz.prog (bR l18):=aV k17 r18
def a19:List W:=[.agg [.t (bo false), .t (.aA 1 []), .t (.aA 1 [[u 1]])], .agg [.t (bo false), .t (.aA 1 []), .t (.aA 1 [[u 1]])]]
def v19:V:= .w (.agg [.t (bo false), .t (.aA 1 []), .t (.aA 1 [[u 1]])])
theorem r19:Fn Tryz.prog 215 a19 [] v19 []∧v19.cq=true:=bf (fuel:=10000) (d:=60) bF k18 (show gY 215=some vc from rfl) (by kernel_rfl)
def l19:List (Nat×List W×V):=(215,a19,v19)::l18
theorem k19:bW Tryz.prog (bR l19):=aV k18 r19
def a20:List W:=[.agg [.t (bo false), .t (.aA 1 [[u 10]]), .t (.aA 1 [[u 1]]), .t (bo false), .t (.aA 1 []), .t (.aA 1 [[u 1]])], .agg [.t (bo false), .t (.aA 1 []), .t (.aA 1 [[u 1]]), .t (bo false), .t (.aA 1 []), .t (.aA 1 [[u 1]])]]
def v20:V:= .w (.agg [.t (bo false), .t (.aA 1 [[u 10]]), .t (.aA 1 [[u 1]]), .t (bo false), .t (.aA 1 []), .t (.aA 1 [[u 1]])])
theorem r20:Fn Tryz.prog 192 a20 [] v20 []∧v20.cq=true:=bf (fuel:=10000) (d:=60) bF k19 (show gY 192=some xE from rfl) (by kernel_rfl)
def l20:List (Nat×List W×V):=(192,a20,v20)::l19
theorem k20:bW Tryz.prog (bR l20):=aV k19 r20
def a21:List W:=[.agg [.t (bo true), .t (.aA 1 [[u 10]])], .one (.t (.aA 1 [[u 1]]))]
def v21:V:= .w (.agg [.t (bo true), .t (.aA 1 [[u 10]]), .t (.aA 1 [[u 1]])])
theorem r21:Fn Tryz.prog 229 a21 [] v21 []∧v21.cq=true:=bf (fuel:=10000) (d:=60) bF k20 (show gY 229=some uZ from rfl) (by kernel_rfl)
def l21:List (Nat×List W×V):=(229,a21,v21)::l20
theorem k21:bW Tryz.prog (bR l21):=aV k20 r21
def a22:List W:=[.agg [.t (bo false), .t (.aA 1 []), .t (.aA 1 [[u 1]])], .agg [.t (bo false), .t (.aA 1 [[u 10]]), .t (.aA 1 [[u 1]])]]
def v22:V:= .w (.agg [.t (bo true), .t (.aA 1 [[u 10]]), .t (.aA 1 [[u 1]])])
theorem r22:Fn Tryz.prog 215 a22 [] v22 []∧v22.cq=true:=bf (fuel:=10000) (d:=60) bF k21 (show gY 215=some vc from rfl) (by kernel_rfl)
def l22:List (Nat×List W×V):=(215,a22,v22)::l21
theorem k22:bW Tryz.prog (bR l22):=aV k21 r22
def a23:List W:=[.agg [.t (bo false), .t (.aA 1 []), .t (.aA 1 [[u 1]]), .t (bo false), .t (.aA 1 []), .t (.aA 1 [[u 1]])], .agg [.t (bo false), .t (.aA 1 []), .t (.aA 1 [[u 1]]), .t (bo false), .t (.aA 1 [[u 10]]), .t (.aA 1 [[u 1]])]]
def v23:V:= .w (.agg [.t (bo false), .t (.aA 1 []), .t (.aA 1 [[u 1]]), .t (bo true), .t (.aA 1 [[u 10]]), .t (.aA 1 [[u 1]])])
theorem r23:Fn Tryz.prog 192 a23 [] v23 []∧v23.cq=true:=bf (fuel:=10000) (d:=60) bF k22 (show gY 192=some xE from rfl) (by kernel_rfl)
def l23:List (Nat×List W×V):=(192,a23,v23)::l22
theorem k23:bW Tryz.prog (bR l23):=aV k22 r23
def a24:List W:=[.agg [.t (bo false), .t (.aA 1 []), .t (.aA 1 [[u 1]])], .agg [.t (bo false), .t (.aA 1 []), .t (.aA 1 [[u 1]])]]
def v24:V:= .w (.agg [.t (bo false), .t (.aA 1 []), .t (.aA 1 [[u 1]])])
theorem r24:Fn Tryz.prog 230 a24 [] v24 []∧v24.cq=true:=bf (fuel:=10000) (d:=60) bF k23 (show gY 230=some GP from rfl) (by kernel_rfl)
def l24:List (Nat×List W×V):=(230,a24,v24)::l23
theorem k24:bW Tryz.prog (bR l24):=aV k23 r24
def a25:List W:=[.one (.t (.aA 1 [[u 10]])), .one (.t (.aA 1 [[u 10]]))]
def v25:V:= .w (.one (.t (.aA 1 [[u 100]])))
theorem r25:Fn Tryz.prog 225 a25 [] v25 []∧v25.cq=true:=bf (fuel:=10000) (d:=60) bF k24 (show gY 225=some Dk from rfl) (by kernel_rfl)
def l25:List (Nat×List W×V):=(225,a25,v25)::l24
theorem k25:bW Tryz.prog (bR l25):=aV k24 r25
def a26:List W:=[.agg [.t (bo true), .t (.aA 1 [[u 100]])], .one (.t (.aA 1 [[u 1]]))]
def v26:V:= .w (.agg [.t (bo true), .t (.aA 1 [[u 100]]), .t (.aA 1 [[u 1]])])
theorem r26:Fn Tryz.prog 229 a26 [] v26 []∧v26.cq=true:=bf (fuel:=10000) (d:=60) bF k25 (show gY 229=some uZ from rfl) (by kernel_rfl)
def l26:List (Nat×List W×V):=(229,a26,v26)::l25
theorem k26:bW Tryz.prog (bR l26):=aV k25 r26
def a27:List W:=[.agg [.t (bo false), .t (.aA 1 [[u 100]])], .one (.t (.aA 1 [[u 1]]))]
def v27:V:= .w (.agg [.t (bo false), .t (.aA 1 [[u 100]]), .t (.aA 1 [[u 1]])])
theorem r27:Fn Tryz.prog 229 a27 [] v27 []∧v27.cq=true:=bf (fuel:=10000) (d:=60) bF k26 (show gY 229=some uZ from rfl) (by kernel_rfl)
def l27:List (Nat×List W×V):=(229,a27,v27)::l26
theorem k27:bW Tryz.prog (bR l27):=aV k26 r27
def a28:List W:=[.agg [.t (bo false), .t (.aA 1 []), .t (.aA 1 [[u 1]])], .agg [.t (bo true), .t (.aA 1 [[u 100]]), .t (.aA 1 [[u 1]])]]
def v28:V:= .w (.agg [.t (bo false), .t (.aA 1 [[u 100]]), .t (.aA 1 [[u 1]])])
theorem r28:Fn Tryz.prog 215 a28 [] v28 []∧v28.cq=true:=bf (fuel:=10000) (d:=60) bF k27 (show gY 215=some vc from rfl) (by kernel_rfl)
def l28:List (Nat×List W×V):=(215,a28,v28)::l27
theorem k28:bW Tryz.prog (bR l28):=aV k27 r28
def a29:List W:=[.agg [.t (bo false), .t (.aA 1 [[u 100]]), .t (.aA 1 [[u 1]])], .agg [.t (bo false), .t (.aA 1 [[u 100]]), .t (.aA 1 [[u 1]])]]
def v29:V:= .ep [.agg [.t (bo false), .t (.aA 1 [[u 1]]), .t (.aA 1 [[u 1]])], .one (.t (bo true))]
theorem r29:Fn Tryz.prog 210 a29 [] v29 []∧v29.cq=true:=bf (fuel:=10000) (d:=60) bF k28 (show gY 210=some GQ from rfl) (by kernel_rfl)
def l29:List (Nat×List W×V):=(210,a29,v29)::l28
theorem k29:bW Tryz.prog (bR l29):=aV k28 r29
def a30:List W:=[.agg [.t (bo false), .t (.aA 1 [[u 10]]), .t (.aA 1 [[u 1]])], .agg [.t (bo true), .t (.aA 1 [[u 10]]), .t (.aA 1 [[u 1]])]]
def v30:V:= .w (.agg [.t (bo false), .t (.aA 1 []), .t (.aA 1 [[u 1]])])
theorem r30:Fn Tryz.prog 236 a30 [] v30 []∧v30.cq=true:=bf (fuel:=10000) (d:=60) bF k29 (show gY 236=some AS from rfl) (by kernel_rfl)
def l30:List (Nat×List W×V):=(236,a30,v30)::l29
theorem k30:bW Tryz.prog (bR l30):=aV k29 r30
def a31:List W:=[.agg [.t (bo false), .t (.aA 1 []), .t (.aA 1 [[u 1]]), .t (bo false), .t (.aA 1 []), .t (.aA 1 [[u 1]])]]
def v31:V:= .ep [.agg [.t (i 0), .t (i 0)], .one (.t (i 0))]
theorem r31:Fn Tryz.prog 191 a31 [] v31 []∧v31.cq=true:=bf (fuel:=10000) (d:=60) bF k30 (show gY 191=some GS from rfl) (by kernel_rfl)
def l31:List (Nat×List W×V):=(191,a31,v31)::l30
theorem k31:bW Tryz.prog (bR l31):=aV k30 r31
def a32:List W:=[.agg [.t (i 10), .t (i 10)]]
def v32:V:= .w (.agg [.t (bo false), .t (.aA 1 [[u 10]]), .t (.aA 1 [[u 1]]), .t (bo false), .t (.aA 1 [[u 10]]), .t (.aA 1 [[u 1]])])
theorem r32:Fn Tryz.prog 190 a32 [] v32 []∧v32.cq=true:=bf (fuel:=10000) (d:=60) bF k31 (show gY 190=some xF from rfl) (by kernel_rfl)
def l32:List (Nat×List W×V):=(190,a32,v32)::l31
theorem k32:bW Tryz.prog (bR l32):=aV k31 r32
def a33:List W:=[.agg [.t (bo false), .t (.aA 1 [[u 10]]), .t (.aA 1 [[u 1]])], .agg [.t (bo false), .t (.aA 1 [[u 10]]), .t (.aA 1 [[u 1]])]]
def v33:V:= .w (.agg [.t (bo false), .t (.aA 1 []), .t (.aA 1 [[u 1]])])
theorem r33:Fn Tryz.prog 215 a33 [] v33 []∧v33.cq=true:=bf (fuel:=10000) (d:=60) bF k32 (show gY 215=some vc from rfl) (by kernel_rfl)
def l33:List (Nat×List W×V):=(215,a33,v33)::l32
theorem k33:bW Tryz.prog (bR l33):=aV k32 r33
def a34:List W:=[.agg [.t (bo false), .t (.aA 1 [[u 10]]), .t (.aA 1 [[u 1]]), .t (bo false), .t (.aA 1 [[u 10]]), .t (.aA 1 [[u 1]])], .agg [.t (bo false), .t (.aA 1 [[u 10]]), .t (.aA 1 [[u 1]]), .t (bo false), .t (.aA 1 []), .t (.aA 1 [[u 1]])]]
def v34:V:= .w (.agg [.t (bo false), .t (.aA 1 []), .t (.aA 1 [[u 1]]), .t (bo false), .t (.aA 1 [[u 10]]), .t (.aA 1 [[u 1]])])
theorem r34:Fn Tryz.prog 192 a34 [] v34 []∧v34.cq=true:=bf (fuel:=10000) (d:=60) bF k33 (show gY 192=some xE from rfl) (by kernel_rfl)
def l34:List (Nat×List W×V):=(192,a34,v34)::l33
theorem k34:bW Tryz.prog (bR l34):=aV k33 r34
def a35:List W:=[.agg [.t (bo false), .t (.aA 1 [[u 100]]), .t (.aA 1 [[u 1]])], .agg [.t (bo false), .t (.aA 1 []), .t (.aA 1 [[u 1]])]]
def v35:V:= .w (.agg [.t (bo false), .t (.aA 1 [[u 100]]), .t (.aA 1 [[u 1]])])
theorem r35:Fn Tryz.prog 215 a35 [] v35 []∧v35.cq=true:=bf (fuel:=10000) (d:=60) bF k34 (show gY 215=some vc from rfl) (by kernel_rfl)
def l35:List (Nat×List W×V):=(215,a35,v35)::l34
theorem k35:bW Tryz.prog (bR l35):=aV k34 r35
def a36:List W:=[.agg [.t (bo false), .t (.aA 1 []), .t (.aA 1 [[u 1]]), .t (bo false), .t (.aA 1 [[u 10]]), .t (.aA 1 [[u 1]])], .agg [.t (bo false), .t (.aA 1 [[u 10]]), .t (.aA 1 [[u 1]]), .t (bo false), .t (.aA 1 [[u 10]]), .t (.aA 1 [[u 1]])]]
def v36:V:= .w (.agg [.t (bo true), .t (.aA 1 [[u 10]]), .t (.aA 1 [[u 1]]), .t (bo false), .t (.aA 1 []), .t (.aA 1 [[u 1]])])
theorem r36:Fn Tryz.prog 192 a36 [] v36 []∧v36.cq=true:=bf (fuel:=10000) (d:=60) bF k35 (show gY 192=some xE from rfl) (by kernel_rfl)
def l36:List (Nat×List W×V):=(192,a36,v36)::l35
theorem k36:bW Tryz.prog (bR l36):=aV k35 r36
def a37:List W:=[.agg [.t (.val (.string ⟨#[115,104,105,114,116]⟩)), .t (.aA 1 [[.val (.string ⟨#[83]⟩)],[.val (.string ⟨#[77]⟩)]]), .t (.aA 1 [[i 0],[i 0]]), .t (.aA 7 [[.val (.string ⟨#[102,114,111,110,116]⟩), .aA 2 [[.val (.string ⟨#[108,111,119]⟩), .aA 2 [[i 0,i 0],[i 10,i 0]]],[.val (.string ⟨#[114,105,103,104,116]⟩), .aA 2 [[i 10,i 0],[i 10,i 10]]],[.val (.string ⟨#[104,105,103,104]⟩), .aA 2 [[i 10,i 10],[i 0,i 10]]],[.val (.string ⟨#[108,101,102,116]⟩), .aA 2 [[i 0,i 10],[i 0,i 0]]]],i 1,nl, .aA 2 [[i 0,i 0],[i 0,i 0],[i 0,i 0],[i 0,i 0]], .aA 1 [[i 0],[i 0],[i 0],[i 0]],bo false]]), .t (.aA 3 [[i 0,i 2,bo false]]), .t (nl), .t (nl)], .one (.t (i 1)), .one (.t (i 0))]
def v37:V:= .ep [.one (.t (.aA 2 [[i 0,i 0],[i 10,i 0],[i 10,i 10],[i 0,i 10]])), .one (.t (i 0))]
theorem r37:Fn Tryz.prog 100 a37 [] v37 []∧v37.cq=true:=bf (fuel:=10000) (d:=60) bF k36 (show gY 100=some GX from rfl) (by kernel_rfl)
def l37:List (Nat×List W×V):=(100,a37,v37)::l36
theorem k37:bW Tryz.prog (bR l37):=aV k36 r37
def a38:List W:=[.one (.t (.aA 2 [[i 10,i 0],[i 20,i 0],[i 20,i 10],[i 10,i 10]]))]
def v38:V:= .w (.one (.t (i 0)))
theorem r38:Fn Tryz.prog 55 a38 [] v38 []∧v38.cq=true:=bf (fuel:=10000) (d:=60) bF k37 (show gY 55=some Jn from rfl) (by kernel_rfl)
def l38:List (Nat×List W×V):=(55,a38,v38)::l37
theorem k38:bW Tryz.prog (bR l38):=aV k37 r38
def a39:List W:=[.one (.t (.aA 2 [[i 0,i 0],[i 10,i 0],[i 10,i 10],[i 0,i 10]]))]
def v39:V:= .ep [.one (.t (.aA 1 [[.aA 2 [[i 0,i 10],[i 0,i 0],[i 10,i 0]]],[.aA 2 [[i 10,i 0],[i 10,i 10],[i 0,i 10]]]])), .one (.t (i 0))]
theorem r39:Fn Tryz.prog 90 a39 [] v39 []∧v39.cq=true:=bf (fuel:=10000) (d:=60) bF k38 (show gY 90=some Jm from rfl) (by kernel_rfl)
def l39:List (Nat×List W×V):=(90,a39,v39)::l38
theorem k39:bW Tryz.prog (bR l39):=aV k38 r39
def a40:List W:=[.one (.t (.aA 2 [[i 10,i 0],[i 20,i 0],[i 20,i 10],[i 10,i 10]]))]
def v40:V:= .ep [.one (.t (.aA 1 [[.aA 2 [[i 10,i 10],[i 10,i 0],[i 20,i 0]]],[.aA 2 [[i 20,i 0],[i 20,i 10],[i 10,i 10]]]])), .one (.t (i 0))]
theorem r40:Fn Tryz.prog 90 a40 [] v40 []∧v40.cq=true:=bf (fuel:=10000) (d:=60) bF k39 (show gY 90=some Jm from rfl) (by kernel_rfl)
def l40:List (Nat×List W×V):=(90,a40,v40)::l39
theorem k40:bW Tryz.prog (bR l40):=aV k39 r40
def a41:List W:=[.agg [.t (.val (.string ⟨#[115,104,105,114,116]⟩)), .t (.aA 1 [[.val (.string ⟨#[83]⟩)],[.val (.string ⟨#[77]⟩)]]), .t (.aA 1 [[i 0],[i 0]]), .t (.aA 7 [[.val (.string ⟨#[102,114,111,110,116]⟩), .aA 2 [[.val (.string ⟨#[108,111,119]⟩), .aA 2 [[i 0,i 0],[i 10,i 0]]],[.val (.string ⟨#[114,105,103,104,116]⟩), .aA 2 [[i 10,i 0],[i 10,i 10]]],[.val (.string ⟨#[104,105,103,104]⟩), .aA 2 [[i 10,i 10],[i 0,i 10]]],[.val (.string ⟨#[108,101,102,116]⟩), .aA 2 [[i 0,i 10],[i 0,i 0]]]],i 1,nl, .aA 2 [[i 0,i 0],[i 0,i 0],[i 0,i 0],[i 0,i 0]], .aA 1 [[i 0],[i 0],[i 0],[i 0]],bo false]]), .t (.aA 3 [[i 0,i 2,bo false]]), .t (nl), .t (nl)], .agg [.t (i 20), .t (i 10), .t (i 0), .t (i 0), .t (.aA 1 [[i 1]]), .t (.aA 7 [[i 0,i 0,i 0,bo false,i 0,i 0,i 0],[i 0,i 0,i 1,bo false,i 0,i 10,i 0]]), .t (.aA 2 [[i 1, .aA 4 [[i 2,i 5,i 25,i 0]]]])], .one (.t (.aA 7 [[.val (.string ⟨#[65]⟩),i 9,i 50,i 0,i 0,i 0,nl],[.val (.string ⟨#[66]⟩),i 10,i 50,i 0,i 0,i 0,nl],[.val (.string ⟨#[67]⟩),i 10,i 50,i 0,i 0,i 0, .aA 4 [[i 20,i 2,i 1,i 1]]]])), .one (.t (.aA 1 [[i 0],[i 0],[i 1]]))]
def v41:V:= .ep [.one (.t (.aA 6 [[i 0,i 0,i 1,i 1, .aA 1 [[i 2]],bo false],[i 0,i 1,i 1,i 1, .aA 1 [[i 2]],bo true]])), .one (.t (i 0))]
theorem r41:Fn Tryz.prog 22 a41 [] v41 []∧v41.cq=true:=bf (fuel:=10000) (d:=60) bF k40 (show gY 22=some OL from rfl) (by kernel_rfl)
def l41:List (Nat×List W×V):=(22,a41,v41)::l40
theorem k41:bW Tryz.prog (bR l41):=aV k40 r41
def a42:List W:=[]
def v42:V:= .w (.one (.t (bo true)))
theorem r42:Fn Tryz.prog 9 a42 [] v42 []∧v42.cq=true:=bf (fuel:=10000) (d:=60) bF k41 (show gY 9=some fr9 from rfl) (by kernel_rfl)
end Go.aU.Cd
end
section
namespace Go.Proofs.YtcaeamnhfodfoaaGreat
open Go.ChangeShapes Go.WideShapes Go.ChangeAt Go.RowKit
set_option maxRecDepth 100000
theorem Bd:(Rows.cuttingFlawsRow.inPlace==Tryz.prog.inPlace 5)=true:=by kernel_rfl
theorem Jz:(Rows.cuttingFlawsRow.unfollowed==Tryz.prog.unfollowed 5)=true:=by kernel_rfl
theorem JA:(Rows.cuttingFlawsRow.recurses==Tryz.prog.recurses 5)=true:=by kernel_rfl
theorem E1:(Rows.cuttingFlawsRow.named==Tryz.prog.varsNamed 5)=true:=by kernel_rfl
theorem YO:(Rows.cuttingFlawsRow.wf (OpenSpec.ofChange Rows.cuttingFlawsSpec)&&laidOutB Tryz.prog&&mapsRowed Tryz.prog&&Tryz.f5.params.all (Tryz.prog.readableRec ·)&&namedTie Tryz.prog Rows.cuttingFlawsRow.named Rows.cuttingFlawsSpec.vars&& (Rows.cuttingFlawsRow.stops== [])&& (Tryz.prog.stops== [])&& (Rows.cuttingFlawsRow.knobs== [])&& (Tryz.prog.stopKnobs== []))=true:=by kernel_rfl
theorem JB:joinedFacts Tryz.prog 5 Tryz.f5 Rows.cuttingFlawsSpec Rows.cuttingFlawsRow=true:=by
 unfold joinedFacts
 rw[YO,Bd,Jz,JA,E1]
 kernel_rfl
end Go.Proofs.YtcaeamnhfodfoaaGreat
end
section
namespace Go.Proofs.YtcaeamnhfodfoaaGreat
open Go.aU Go.ChangeShapes Go.WideShapes Go.ChangeAt Go.RowKit
theorem Tryz.own:ownKnob Tryz.prog.godebug=none:=by kernel_rfl
theorem Tryz.laidOut:laidOutB Tryz.prog=true:=by kernel_rfl
def YP:Value:= .agg #[.string ⟨#[]⟩, .slice none 0 0, .slice none 0 0, .slice none 0 0, .slice none 0 0, .slice none 0 0, .slice none 0 0, .int .i64 0, .int .i64 0, .int .i64 0, .int .i64 0, .slice none 0 0, .slice none 0 0, .slice none 0 0, .slice none 0 0, .slice none 0 0]
set_option maxRecDepth 100000 in
theorem Ck (Th: ∀us,Typed Tryz.prog 12 Tryz.f5.params.toList us→aU.Fn Tryz.prog 5 us [] (.w (.one (.t (.val (.bool true))))) []) (os:Os) (started:os.Started) (H:Type) (enc:TypeId×Value→H):
 ReturnsInHanded {} Tryz.checked os 5 .any (Rows.cuttingFlawsSpec.pre6 enc Tryz.prog Tryz.f5 Rows.cuttingFlawsRow.domain false) (Rows.cuttingFlawsSpec.post enc Tryz.prog Tryz.f5 false true false false):=by
 refine returnsInHanded_of_change (C:=Tryz.checked) Tryz.own started (by kernel_rfl) Tryz.func5
  (ChangeSpec.witness6 (enc:=enc) (C:=Tryz.checked) false ⟨#[], #[YP, .int .u8 0],[]⟩ 8 (by kernel_rfl) (by kernel_rfl) (by kernel_rfl) (by kernel_rfl)) ?_
 intro W base args ds gs before hval hW _ _
 refine El (P:=Tryz.prog) (d:=11) (s:=Rows.cuttingFlawsSpec) Tryz.laidOut rfl (by kernel_rfl) Tryz.underlying4 ?_ ?_ ?_ Th hval (fun g vs hg=>by simp[zX,Ix]at hg) hW
 · intro ds hds
   rw[Tryz.params5]at hds
   match ds,hds with
   | [a,b],_=>exact⟨rfl,rfl,rfl⟩
 · have:(Tryz.f5.params.toList.all fun t=>gR Tryz.prog 12 t)=true:=by kernel_rfl
   exact List.all_eq_true.1 this
 · have:(Tryz.f5.params.toList.all fun t=>Tryz.prog.readableRec t&&decide (t < Tryz.prog.types.size))=true:=by kernel_rfl
   intro t ht
   have:=List.all_eq_true.1 this t ht
   simpa using this
theorem EP:Tryz.pinned.checked.prog.funcNamed Rows.cuttingFlawsRow.func=some 5:=by kernel_rfl
theorem G3:Tryz.f5.isInstance Tryz.pinned.checked.prog Rows.cuttingFlawsRow.origin Rows.cuttingFlawsRow.targs:=of_decide_eq_true (by kernel_rfl)
theorem G0:Tryz.f5.isWrapper Tryz.pinned.checked.prog Rows.cuttingFlawsRow.wrapper Rows.cuttingFlawsRow.mainSum:=by
 unfold Func.isWrapper;first|(rw[if_pos (by decide+kernel)];kernel_rfl)|(rw[if_neg (by decide+kernel)];exact⟨rfl,rfl⟩)
theorem G1 (Th: ∀us,Typed Tryz.prog 12 Tryz.f5.params.toList us→aU.Fn Tryz.prog 5 us [] (.w (.one (.t (.val (.bool true))))) []):Rows.CuttingFlawsSaid:=
 OpenClaim.holds_of_wide 5 Tryz.f5 rfl rfl rfl rfl rfl rfl rfl ⟨rfl,rfl,rfl,rfl,rfl⟩ rfl rfl rfl rfl rfl EP Tryz.func5 JB G3 G0
  (fun os started H enc _=>Ck Th os started H enc)
end Go.Proofs.YtcaeamnhfodfoaaGreat
end
