import Derived.Test.YtlhffnnmmbannaaGreatME
import Derived.Test.YtlhffnnmmbannaaGreatRows
import Derived.ProofKit
set_option linter.all false
section
section
namespace Go.aU.Cd
open Go Go.Proofs
theorem dup_double {ck:Int} {places ag cuts bs gs:Lz} (h:Ok0 ck places ag cuts bs gs) {i:Nat} {e:List T} (hi:gs[i]? =some e):AW places ag cuts bs (gs++[e]):=by
 have hlt:=(List.getElem?_eq_some_iff.1 hi).1
 refine⟨gs.length,e,h.all.G9 _,by simp,(h.all i e hlt hi).pre,e,?_,rfl,rfl⟩
 rw[List.take_append_of_le_length (Nat.le_refl _),List.take_length]
 exact List.mem_of_getElem? hi
theorem take_mem {bs:Lz} {a b:Nat} {e:List T} (hab:a < b) (h:bs[a]? =some e):e∈bs.take b:=by
 refine List.mem_iff_getElem?.2 ⟨a,?_⟩
 rw[List.getElem?_take_of_lt hab]
 exact h
theorem fnd_at {bs:Lz} {t:Int} {e:List T} (h:Ed bs t=some e):nI 0 e=t∧ ∃k:Nat,bs[k]? =some e:=by
 unfold Ed at h
 have h1:=List.find?_some h
 have h2:=List.mem_of_find?_eq_some h
 exact⟨by simpa using h1,List.mem_iff_getElem?.1 h2⟩
theorem bd_same {sizes ag bs:Lz} (hB:xA sizes ag bs bs.length) {k1 k2:Nat} {e1 e2:List T} (h1:bs[k1]? =some e1) (h2:bs[k2]? =some e2) {p:Int} (hg:nI 1 e1=nI 1 e2) (ha:nI 4 e1≤p) (hb:p < nI 5 e1) (hc:nI 4 e2≤p) (hd:p < nI 5 e2):e1=e2:=by
 have l1:=(List.getElem?_eq_some_iff.1 h1).1
 have l2:=(List.getElem?_eq_some_iff.1 h2).1
 rcases Nat.lt_trichotomy k1 k2 with hlt|rfl|hgt
 · exact((hB k2 e2 l2 h2).o e1 (take_mem hlt h1) ⟨hg,by omega,by omega⟩).elim
 · rw[h1,Option.some.injEq]at h2
   exact h2
 · exact((hB k1 e1 l1 h1).o e2 (take_mem hgt h2) ⟨hg.symm,by omega,by omega⟩).elim
theorem mix_bad {ck ck':Int} {sizes places ag cuts bs gs gm:Lz} (hB:xA sizes ag bs bs.length) (h:Ok0 ck places ag cuts bs gs) {i j:Nat} (hij:i≠j) {t1 p1 s1 l1 t2 p2 s2 l2:Int} {y:List T} {xs ys zs:Lz}
 (hi:gs[i]? =some (ko t1 p1 s1 l1 xs)) (hj:gs[j]? =some (ko t2 p2 s2 l2 (y::ys))) (hm:gm[i]? =some (ko t1 p1 s1 l1 (y::zs))) (h':Ok0 ck' places ag cuts bs gm):False:=by
 have li:=(List.getElem?_eq_some_iff.1 hi).1
 have lj:=(List.getElem?_eq_some_iff.1 hj).1
 have lm:=(List.getElem?_eq_some_iff.1 hm).1
 have A:=h.all i _ li hi
 have B:=h.all j _ lj hj
 have M:=h'.all i _ lm hm
 obtain⟨a1,a2,a3,a4,a5,a6,af,a7,a8,a9⟩:=A.pre
 obtain⟨b1,b2,b3,b4,b5,b6,bf,b7,b8,b9⟩:=B.pre
 have hb:=(B.fit _ _ _ _ _ _ bf).all 0 y (by show 0 < (y::ys).length;simp) rfl
 have ha:=(M.fit _ _ _ _ _ _ af).all 0 y (by show 0 < (y::zs).length;simp) rfl
 have ep:p1=p2:=ha.p.symm.trans hb.p
 have eg:a2=b2:=ha.g.symm.trans hb.g
 subst ep eg
 obtain⟨u1,k1,v1⟩:=fnd_at af
 obtain⟨u2,k2,v2⟩:=fnd_at bf
 have ee:=bd_same hB v1 v2 (p:=p1) rfl a7 a8 b7 b8
 have et:t1=t2:=by
  have w1:nI 0 (jg a1 a2 a3 a4 a5 a6)=t1:=u1
  have w2:nI 0 (jg b1 a2 b3 b4 b5 b6)=t2:=u2
  rw[←w1, ←w2,ee]
 subst et
 rcases Nat.lt_or_ge i j with hlt|hge
 · exact B.dup _ (take_mem hlt hi) ⟨rfl,rfl⟩
 · exact A.dup _ (take_mem (show j < i by omega) hj) ⟨rfl,rfl⟩
theorem mix_j {i r L:Int} (h0:0≤i) (h1:i < L) (h2:0≤r) (h3:r < L - 1):(i+1+r).tmod L≠i∧0≤(i+1+r).tmod L∧(i+1+r).tmod L < L:=by
 rw[Int.tmod_eq_emod_of_nonneg (by omega)]
 by_cases h:i+1+r < L
 · rw[Int.emod_eq_of_lt (by omega) h]
   omega
 · have:(i+1+r) % L=i+1+r - L:=by
    rw[←Int.sub_emod_right,Int.emod_eq_of_lt (by omega) (by omega)]
   rw[this]
   omega
end Go.aU.Cd
end
end
section
namespace Go.aU.Cd
open Go Go.Proofs
set_option maxRecDepth 100000
set_option maxHeartbeats 2000000
def c9:Rc:=Sq (Rg [Bx 3 0,Mb 6 false]) (Sq (Rg [Lo 16 16 3,p 17 (.call 21 [t 16]),Mv 15 17,Et 18 15 0,Et 19 15 1,Mv 7 18,Mv 8 19]) (Sq (Sq (Rg [Mv 20 8,Nt 21 20,Mv 22 21,Ga 22 (Mv 23 7),Ga 22 (Le 24 23),Ga 22 (Bi 25 .lss 24 2),Pt 26 22 25,Mv 27 26,Ga 27 (Fa 28 0 3),Ga 27 (Lo 7 29 28),Ga 27 (Fa 30 7 3),Ga 27 (Lo 7 31 30),Ga 27 (Fa 32 14 3),Ga 27 (Ld 33 32),Ga 27 (Fa 34 15 3),Ga 27 (Ld 35 34),Ga 27 (Mv 36 7),Ga 27 (p 37 (.call 17 [t 29,t 31,t 33,t 35,t 36])),Ga 27 (Bi 38 .neq 37 0),Pt 39 27 38]) (Cn 39 (Sq (Rg [p 40 (.call 13 []),Mv 6 40]) Rt) Sk)) (Sq (Rg [Mv 41 1,p 42 (.conv .i64 (t 41)),Mv 43 7,Le 44 43,Bt 45 .rem 42 44,Mv 9 45]) (Sq (Rg [Mv 46 9,Bi 47 .add 46 1,Mv 48 2,p 49 (.conv .i64 (t 48)),Mv 50 7,Le 51 50,Bi 52 .sub 51 1,Bt 53 .rem 49 52,Bt 54 .add 47 53,Mv 55 7,Le 56 55,Bt 57 .rem 54 56,Mv 10 57]) (Sq (Dr [p 58 (.aT [zi,zi,zi,zi,zn] 0 []),Mv 59 7,p 60 (.append 5 56 (t 58) (t 59)),Mv 61 7,Mv 62 9,Ia 63 5 61 62,Lo 5 64 63,p 65 (.aT [zi,zi,zi,zi,zn] 1 [(0,t 64)]),p 66 (.append 5 56 (t 60) (t 65)),Mv 11 66] [[],[],[0,1],[],[],[3,4],[5],[6],[2,7,2],[8,8,0,1,2,3,4,5,6,7,8]]) (Sq (Sq (Rg [Fa 67 0 3,Lo 7 68 67,Fa 69 7 3,Lo 7 70 69,Fa 71 14 3,Ld 72 71,Fa 73 15 3,Ld 74 73,Mv 75 11,p 76 (.call 17 [t 68,t 70,t 72,t 74,t 75]),Bi 77 .neq 76 7]) (Cn 77 (Sq (Rg [Mb 6 false]) Rt) Sk)) (Sq (Sq (Rg [Mv 78 7,Mv 79 9,Ia 80 5 78 79,Fa 81 4 80,Ld 82 81,Le 83 82,Bi 84 .eql 83 0,Mv 85 84,Ga 85 (Mv 86 7),Ga 85 (Mv 87 10),Ga 85 (Ia 88 5 86 87),Ga 85 (Fa 89 4 88),Ga 85 (Ld 90 89),Ga 85 (Le 91 90),Ga 85 (Bi 92 .eql 91 0),Pt 93 85 92]) (Cn 93 (Sq (Rg [p 94 (.call 13 []),Mv 6 94]) Rt) Sk)) (Sq (Dr [Mv 95 7,Mv 96 9,Ia 97 5 95 96,Lo 5 98 97,Mv 99 7,Mv 100 10,Ia 101 5 99 100,Lo 5 102 101,p 12 (.alloc [zi,zi,zi,zi,zn]),p 13 (.alloc [zi,zi,zi,zi,zn]),So 5 12 98,So 5 13 102] [[],[],[0,1],[2],[],[],[4,5],[6],[],[],[8,3,0,1,2,3,8,9],[9,7,10,0,1,2,3,4,5,6,7,8,9,10]]) (Sq (Dr [Mv 103 7,Mv 104 10,Ia 105 5 103 104,Fa 106 4 105,Ld 107 106,p 108 (.dB 1 (t 107) (k 0)),Ld 109 108,p 110 (.aT [zi] 1 [(0,t 109)]),Mv 111 7,Mv 112 9,Ia 113 5 111 112,Fa 114 4 113,Ld 115 114,p 116 (.slice 1 (t 115) (some (k 1)) none),p 117 (.append 1 8 (t 110) (t 116)),Fa 118 4 12,So 1 118 117] [[],[],[0,1],[2],[3],[4],[5],[6],[],[],[8,9],[10],[11],[12],[7,13],[0,1,2,3,4,5,6,7,8,9,10,11,12,13,14],[15,14,14,0,1,2,3,4,5,6,7,8,9,10,11,12,13,14]]) (Sq (Dr [Mv 119 7,Mv 120 9,Ia 121 5 119 120,Fa 122 4 121,Ld 123 122,p 124 (.dB 1 (t 123) (k 0)),Ld 125 124,p 126 (.aT [zi] 1 [(0,t 125)]),Mv 127 7,Mv 128 10,Ia 129 5 127 128,Fa 130 4 129,Ld 131 130,p 132 (.slice 1 (t 131) (some (k 1)) none),p 133 (.append 1 8 (t 126) (t 132)),Fa 134 4 13,So 1 134 133] [[],[],[0,1],[2],[3],[4],[5],[6],[],[],[8,9],[10],[11],[12],[7,13],[0,1,2,3,4,5,6,7,8,9,10,11,12,13,14],[15,14,14,0,1,2,3,4,5,6,7,8,9,10,11,12,13,14]]) (Sq (Rg [p 135 (.aT [zi,zi,zi,zi,zn] 0 []),Mv 136 7,p 137 (.append 5 56 (t 135) (t 136)),Mv 14 137]) (Sq (Rg [Mv 138 14,Mv 139 9,Lo 5 140 12,Ia 141 5 138 139,So 5 141 140]) (Sq (Rg [Mv 142 14,Mv 143 10,Lo 5 144 13,Ia 145 5 142 143,So 5 145 144]) (Sq (Rg [Fa 146 0 3,Lo 7 147 146,Fa 148 7 3,Lo 7 149 148,Fa 150 14 3,Ld 151 150,Fa 152 15 3,Ld 153 152,Mv 154 14,p 155 (.call 17 [t 147,t 149,t 151,t 153,t 154]),Bi 156 .neq 155 0,Mv 157 156,Gb 157 (p 158 (.call 13 [])),Pf 159 157 158,Mv 6 159]) Rt))))))))))))))
theorem ck9:ae Tryz.prog (Tryz.f9.body.getD .skip)=some c9:=by kernel_rfl
theorem bk9:Tryz.f9.body=some (Tryz.f9.body.getD .skip):=rfl
theorem mI_ok {k L:Int} (h0:0≤k) (h1:k < 256) (h2:2≤L):0≤(IntKind.i64.wrap k).tmod L∧(IntKind.i64.wrap k).tmod L < L:=by
 rw[bO (by omega) (by omega)]
 exact⟨Int.tmod_nonneg _ h0,Int.tmod_lt_of_pos _ (by omega)⟩
theorem mJ_ok {k n L:Int} (h0:0≤k) (h1:k < 256) (n0:0≤n) (n1:n < 256) (h2:2≤L) (h3:L≤1000):
 (0≤(IntKind.i64.wrap (IntKind.i64.wrap ((IntKind.i64.wrap k).tmod L+1)+(IntKind.i64.wrap n).tmod (IntKind.i64.wrap (L - 1)))).tmod L∧(IntKind.i64.wrap (IntKind.i64.wrap ((IntKind.i64.wrap k).tmod L+1)+(IntKind.i64.wrap n).tmod (IntKind.i64.wrap (L - 1)))).tmod L < L)∧
   (IntKind.i64.wrap (IntKind.i64.wrap ((IntKind.i64.wrap k).tmod L+1)+(IntKind.i64.wrap n).tmod (IntKind.i64.wrap (L - 1)))).tmod L≠ (IntKind.i64.wrap k).tmod L:=by
 obtain⟨a1,a2⟩:=mI_ok h0 h1 h2
 generalize (IntKind.i64.wrap k).tmod L=I at a1 a2⊢
 have b1:0≤n.tmod (L - 1):=Int.tmod_nonneg _ n0
 have b2:n.tmod (L - 1) < L - 1:=Int.tmod_lt_of_pos _ (by omega)
 rw[bO (n:=n) (by omega) (by omega),bO (n:=L - 1) (by omega) (by omega),bO (n:=I+1) (by omega) (by omega)]
 generalize n.tmod (L - 1)=r at b1 b2⊢
 rw[bO (by omega) (by omega)]
 obtain⟨c1,c2,c3⟩:=mix_j a1 a2 b1 b2
 exact⟨⟨c2,c3⟩,c1⟩
theorem optL_set {α β:Type} {f:α→Option β} {r:α} {x:β} (hr:f r=some x): ∀ {rows:List α} {xs:List β},bB f rows=some xs→ ∀i,bB f (rows.set i r)=some (xs.set i x)
 | [],xs,h,i=>by
   simp only[bB,Option.some.injEq]at h
   subst h
   rfl
 |a::rows,xs,h,i=>by
  simp only[bB]at h
  cases ha:f a with
  |none=>simp[ha]at h
  |some y=>
   cases hl:bB f rows with
   |none=>simp[ha,hl]at h
   |some l=>
    simp only[ha,hl,Option.some.injEq]at h
    subst h
    cases i with
    |zero=>simp only[List.set_cons_zero,bB,hr,hl]
    |succ i=>simp only[List.set_cons_succ,bB,ha,optL_set hr hl i]
abbrev oArgs (sn:ByteArray) (bM ms ps us ss os:Lz) (ln wd rx ry:Int) (sizes places ag bs cuts:Lz) (g:W):List W:=
 [g8 sn bM ms ps us ss os,kF ln wd rx ry sizes places ag,oL 6 bs,oL 6 cuts,g]
theorem lendA {hp:HS} {sn:ByteArray} {bM ms ps us ss os:Lz} {ln wd rx ry:Int} {sizes places ag bs cuts gs:Lz} {c:C} (h:de 6 hp c=some (.ao 5 gs)):
 bB (bH hp) (oArgs sn bM ms ps us ss os ln wd rx ry sizes places ag bs cuts (.one c))=some (oArgs sn bM ms ps us ss os ln wd rx ry sizes places ag bs cuts (oL 5 gs)):=by
 have h3: ∀t,de 6 hp (.t t)=some t:=fun t=>by cases hp<;>rfl
 simp only[bB,bH,h,h3,Option.map_some]
 rfl
theorem lendG {hp:HS} {sn:ByteArray} {bM ms ps us ss os:Lz} {ln wd rx ry:Int} {sizes places ag bs cuts gs:Lz} {id len:Nat} {rows:List (List C)} (hf:find hp id=some (.row 5 rows)) (hR:aL rows gs) (hl:len=gs.length):
 bB (bH hp) (oArgs sn bM ms ps us ss os ln wd rx ry sizes places ag bs cuts (.one (.own id 5 0 len)))=some (oArgs sn bM ms ps us ss os ln wd rx ry sizes places ag bs cuts (oL 5 gs)):=lendA (Gr hf hR hl)
theorem frz_gar {hp:HS} {t p s l:Int} {pid len:Nat} {rows:List (List C)} {zs:Lz} (hf:find hp pid=some (.row 1 rows)) (hR:aL rows zs) (hl:len=zs.length):
 bB (de 5 hp) [.t (tI t), .t (tI p), .t (tI s), .t (tI l), .own pid 1 0 len]=some (ko t p s l zs):=by
 have h:=Gr (d:=4) hf hR hl
 have h3: ∀t,de 5 hp (.t t)=some t:=fun t=>by cases hp<;>rfl
 simp only[bB,h,h3]
theorem lendM {hp:HS} {sn:ByteArray} {bM ms ps us ss os:Lz} {ln wd rx ry:Int} {sizes places ag bs cuts gs:Lz} {id len i j:Nat} {rows:List (List C)} {r1 r2:List C} {e1 e2:List T} (hf:find hp id=some (.row 5 ((rows.set i r1).set j r2))) (hR:aL rows gs) (hl:len=gs.length)
 (h1:bB (de 5 hp) r1=some e1) (h2:bB (de 5 hp) r2=some e2):
 bB (bH hp) (oArgs sn bM ms ps us ss os ln wd rx ry sizes places ag bs cuts (.one (.own id 5 0 len)))=some (oArgs sn bM ms ps us ss os ln wd rx ry sizes places ag bs cuts (oL 5 ((gs.set i e1).set j e2))):=by
 refine lendA ?_
 have h0:bB (bB (de 5 hp)) rows=some gs:=by rw[hR];exact ue gs
 have h4:=optL_set h2 (optL_set h1 h0 i) j
 have hl':0+len≤((rows.set i r1).set j r2).length:=by simp only[List.length_set];rw[hR.len];omega
 have h5:(((rows.set i r1).set j r2).drop 0).take len=(rows.set i r1).set j r2:=by
  rw[List.drop_zero,List.take_of_length_le (by simp only[List.length_set];rw[hR.len];omega)]
 simp only[de,hf,true_and,hl',if_true]
 rw[h5,h4]
 rfl
theorem gr_app {gs:Lz} (h: ∀e,e∈gs→JJ e) {x:List T} (hx:JJ x): ∀e,e∈gs++[x]→JJ e:=fun e he=>by
 rcases List.mem_append.1 he with he|he
 · exact h e he
 · simp only[List.mem_singleton]at he
   subst he
   exact hx
theorem gr_set {gs:Lz} (h: ∀e,e∈gs→JJ e) {x:List T} (hx:JJ x) (i:Nat): ∀e,e∈gs.set i x→JJ e:=fun e he=>by
 rcases List.mem_or_eq_of_mem_set he with he|rfl
 · exact h e he
 · exact hx
def IsGs (e:List T):Prop:= ∃t p s l cU,e=ko t p s l cU∧Is cU∧cU.length≤1000
theorem IsGs.gr {e:List T} (h:IsGs e):JJ e:=by
 obtain⟨t,p,s,l,cU,rfl,h1,h2⟩:=h
 exact⟨t,p,s,l,cU,rfl,h1,by simp only[maxLen];omega⟩
theorem sewB_gs {sizes places ag cuts:Lz} (hp:places.length≤1000) (e:List T): ∀n x,x∈lI sizes places ag cuts e n→IsGs x
 |0,x,h=>by simp[lI]at h
 |n+1,x,h=>by
  simp only[lI,List.mem_append]at h
  rcases h with h|h
  · exact sewB_gs hp e n x h
  · cases hq:Ih sizes places ag cuts (nI 1 e) (nI 4 e+(n:Int))with
    |none=>simp[hq]at h
    |some cU=>
     simp only[hq,List.mem_singleton]at h
     obtain⟨h1,h2⟩:=zO _ _ hq
     exact⟨_,_,_,_,cU,h,h1,by omega⟩
theorem sewL_gs {sizes places ag cuts bs:Lz} (hp:places.length≤1000): ∀k x,x∈jV sizes places ag cuts bs k→IsGs x
 |0,x,h=>by simp[jV]at h
 |k+1,x,h=>by
  simp only[jV,List.mem_append]at h
  rcases h with h|h
  · exact sewL_gs hp k x h
  · cases hk:bs[k]? with
    |none=>simp[hk]at h
    |some e=>
     simp only[hk]at h
     exact sewB_gs hp e _ x h
theorem is1 (y:Int):Is [[tI y]]:=fun e he=>by
 simp only[List.mem_singleton]at he
 exact⟨y,he⟩
theorem is2 (y:Int) {p q:List T} {zs:Lz} (h:Is (p::q::zs)):Is ([tI y]::q::zs.take zs.length):=fun e he=>by
 rcases List.mem_cons.1 he with rfl|he
 · exact⟨y,rfl⟩
 · rw[List.take_length]at he
   exact h e (List.mem_cons_of_mem _ he)
theorem mix_fin {ck ck':Int} {sizes places ag cuts bs gs:Lz} (hB:xA sizes ag bs bs.length) (h:Ok0 ck places ag cuts bs gs) {i j:Nat} (hij:i≠j) {t1 p1 s1 l1 t2 p2 s2 l2:Int} {py y b:List T} {xs ys zs:Lz}
 (hi:gs[i]? =some (ko t1 p1 s1 l1 xs)) (hj:gs[j]? =some (ko t2 p2 s2 l2 (py::ys))) (hy:(py::ys)[((0:Int)).toNat]? =some y) {a c:Nat} (ea:a=i) (ec:c=j) (h':Ok0 ck' places ag cuts bs ((gs.set a (ko t1 p1 s1 l1 (y::zs))).set c b)):False:=by
 subst ea ec
 have e:py=y:=by simpa using hy
 subst e
 refine mix_bad hB h hij hi hj (zs:=zs) ?_ h'
 rw[List.getElem?_set_ne (fun e=>hij e.symm),List.getElem?_set_self (List.getElem?_eq_some_iff.1 hi).1]
theorem x_rowS {rows:List (List C)} {i j:Nat} {r:List C} {K:List C→Prop} (hij:i≠j) (h:oD rows j K):oD (rows.set i r) j K:=by
 unfold oD at h⊢
 rw[List.getElem?_set_ne hij]
 exact h
theorem mixes_nil (sn:ByteArray) (bM ms ps us ss os:Lz) (ln wd rx ry:Int) (sizes places ag bs cuts:Lz) (kk nn:Int) (hk0:0≤kk) (gj:kk < 256) (HA:0≤nn) (mE:nn < 256) (ok:Bool) (h1:Te 21 [RR sn bM ms ps us ss os ln wd rx ry sizes places ag bs cuts] [oL 5 [],oB ok]) (h3:Te 13 [] [oB true]):Tg 9 [RR sn bM ms ps us ss os ln wd rx ry sizes places ag bs cuts,oU8 kk,oU8 nn] GTr:=by
 refine ah (n:=160) (rs:=[.tmp 6]) Tryz.func9 bk9 ck9 rfl rfl (by simp) ?_
 repeat' (conv=>whnf
          first
  |(refine az (fun h=>?_) (fun h=>?_))
  |(refine aC4 (fun h=>?_) (fun h=>?_))
  |(refine cv (fun h=>?_) (fun h=>?_))
  |(refine aB (fun h=>?_) (fun h=>?_))
  |(refine Bc (by omega) (by omega) ?_;intro bb)
  |(refine fz (by omega) (by omega) ?_)
  |(refine And.intro (by kernel_rfl) ?_)
  |(refine And.intro (by omega) ?_)
  |(refine ai rfl (h1) ?_;rintro _ rfl)
  |(refine au rfl (h1) ?_;rintro _ rfl)
  |(refine ai rfl (h3) ?_;rintro _ rfl)
  |(refine au rfl (h3) ?_;rintro _ rfl)
  |exact g1 rfl rfl rfl
  |(exfalso;omega))
 all_goals (conv=>whnf)
theorem garmentlaw50_AssemblyMixes (sn:ByteArray) (bM ms ps us ss os:Lz) (ln wd rx ry:Int) (sizes places ag bs cuts:Lz) (kk nn:Int) (hk0:0≤kk) (gj:kk < 256) (HA:0≤nn) (mE:nn < 256) (g0:List T) (gt:Lz) (ok:Bool) (h1:Te 21 [RR sn bM ms ps us ss os ln wd rx ry sizes places ag bs cuts] [oL 5 (g0::gt),oB ok]) (Ou:ok=true→(g0::gt).length≤200) (hg:ok=true→ ∀e,e∈ (g0::gt)→IsGs e) (hB:ok=true→xA sizes ag bs bs.length) (hChk:ok=true→ ∀gs,(∀e,e∈gs→JJ e)→gs.length≤maxLen→Tg 17 (oArgs sn bM ms ps us ss os ln wd rx ry sizes places ag bs cuts (oL 5 gs)) (JN 0 places ag cuts bs gs)) (h3:Te 13 [] [oB true]):Tg 9 [RR sn bM ms ps us ss os ln wd rx ry sizes places ag bs cuts,oU8 kk,oU8 nn] GTr:=by
 refine ah (n:=160) (rs:=[.tmp 6]) Tryz.func9 bk9 ck9 rfl rfl (by simp) ?_
 repeat' (conv=>whnf
          first
  |(refine az (fun h=>?_) (fun h=>?_))
  |(refine aC4 (fun h=>?_) (fun h=>?_))
  |(refine cv (fun h=>?_) (fun h=>?_))
  |(refine aB (fun h=>?_) (fun h=>?_))
  |(refine Nc hsi hI.1 ?_)
  |(refine Nc hsj hJ.1.1 ?_)
  |(refine ap (xs:=(g0::gt)) (hg (nh (b:=ok) (by assumption))) hJ.1.1 hJ.1.2 ?_;rintro _ ⟨tj,pj,sj,lj,pcj,rfl,hpj,hpjl⟩ hsj)
  |(have hI:=mI_ok (k:=kk) (L:=((g0::gt).length:Int)) hk0 gj (by omega);have hJ:=mJ_ok (k:=kk) (n:=nn) (L:=((g0::gt).length:Int)) hk0 gj HA mE (by omega) (by have:=Ou (nh (b:=ok) (by assumption));omega);generalize (IntKind.i64.wrap (IntKind.i64.wrap ((IntKind.i64.wrap kk).tmod ((g0::gt).length:Int)+1)+(IntKind.i64.wrap nn).tmod (IntKind.i64.wrap (((g0::gt).length:Int) - 1)))).tmod ((g0::gt).length:Int)=J at hJ⊢;generalize (IntKind.i64.wrap kk).tmod ((g0::gt).length:Int)=I at hI hJ⊢;refine ap (xs:=(g0::gt)) (hg (nh (b:=ok) (by assumption))) hI.1 hI.2 ?_;rintro _ ⟨ti,pi,si,li,pci,rfl,hpi,hpil⟩ hsi)
  |(refine ap (xs:=pcj) hpj (by omega) (by omega) ?_;rintro _ ⟨y,rfl⟩ hsy)
  |(refine ap (xs:=[px]) hpi (by omega) (by simp) ?_;rintro _ ⟨x,rfl⟩ N3)
  |(refine ap (xs:=px::px2::pit) hpi (by omega) (by simp;omega) ?_;rintro _ ⟨x,rfl⟩ N3)
  |(refine fz (by omega) (by omega) ?_)
  |(have q3:=hpil;have q4:=hpjl;(try simp only[List.length_cons,List.length_nil]at q3 q4);refine And.intro ⟨by simp,by simp[bR];omega,by simp[maxLen];omega⟩ ?_)
  |(have q2:=Ou (nh (b:=ok) (by assumption));simp only[List.length_cons]at q2;refine And.intro ⟨by simp,by simp[bR];omega,by simp[maxLen];omega⟩ ?_)
  |(refine And.intro (by have q2:=Ou (nh (b:=ok) (by assumption));simp (disch:=omega) only[aa];omega) ?_)
  |(refine And.intro ⟨hI.1,by have q:=hI.2;simp at q⊢;omega⟩ ?_)
  |(refine And.intro ⟨hJ.1.1,by have q:=hJ.1.2;simp at q⊢;omega⟩ ?_)
  |(refine Bc (by omega) (by omega) ?_;intro bb)
  |(refine fz (by omega) (by omega) ?_)
  |(refine And.intro (by kernel_rfl) ?_)
  |(refine And.intro (by omega) ?_)
  |(refine ai rfl (h1) ?_;rintro _ rfl)
  |(refine au rfl (h1) ?_;rintro _ rfl)
  |(refine ai rfl (h3) ?_;rintro _ rfl)
  |(refine au rfl (h3) ?_;rintro _ rfl)
  |(refine ai rfl (hChk (nh (b:=ok) (by assumption)) (g0::gt) (fun e he=>(hg (nh (b:=ok) (by assumption)) e he).gr) (by have:=Ou (nh (b:=ok) (by assumption));simp only[maxLen];omega)) ?_;rintro _ ⟨n1,rfl,Qy,vT,D7⟩)
  |(refine au rfl (hChk (nh (b:=ok) (by assumption)) (g0::gt) (fun e he=>(hg (nh (b:=ok) (by assumption)) e he).gr) (by have:=Ou (nh (b:=ok) (by assumption));simp only[maxLen];omega)) ?_;rintro _ ⟨n1,rfl,Qy,vT,D7⟩)
  |(refine sM (lendG rfl (aL.snoc (xs:=g0::gt) rfl [tI ti,tI pi,tI si,tI li, .ao 1 pci]) (by simp)) (hChk (nh (b:=ok) (by assumption)) ((g0::gt)++[ko ti pi si li pci]) (gr_app (fun e he=>(hg (nh (b:=ok) (by assumption)) e he).gr) ⟨_,_,_,_,_,rfl,hpi,by simp only[maxLen];omega⟩) (by have:=Ou (nh (b:=ok) (by assumption));simp only[maxLen];simp;simp at this;omega)) ?_ ?_;(rintro _ ⟨n2,rfl,HE,pP,Gh⟩;rfl);rintro _ ⟨n2,rfl,HE,pP,Gh⟩)
  |(refine sM (lendM rfl (show aL _ (g0::gt)from rfl) (by simp) (frz_gar rfl (show aL _ [[tI y]]from rfl) (by first|(simp;done)|(simp;omega))) (frz_gar rfl (show aL _ [[tI x]]from rfl) (by first|(simp;done)|(simp;omega)))) (hChk (nh (b:=ok) (by assumption)) (((g0::gt).set _ (ko ti pi si li [[tI y]])).set _ (ko tj pj sj lj [[tI x]])) (gr_set (gr_set (fun e he=>(hg (nh (b:=ok) (by assumption)) e he).gr) ⟨_,_,_,_,_,rfl,is1 y,by have q1:=hpil;have q2:=hpjl;simp[maxLen]at q1 q2⊢;try omega⟩ _) ⟨_,_,_,_,_,rfl,is1 x,by have q1:=hpil;have q2:=hpjl;simp[maxLen]at q1 q2⊢;try omega⟩ _) (by have:=Ou (nh (b:=ok) (by assumption));simp only[maxLen];simp;simp at this;omega)) ?_ ?_;(rintro _ ⟨n3,rfl,ha3,hb3,Tm⟩;rfl);rintro _ ⟨n3,rfl,ha3,hb3,Tm⟩)
  |(refine sM (lendM rfl (show aL _ (g0::gt)from rfl) (by simp) (frz_gar rfl (show aL _ [[tI y]]from rfl) (by first|(simp;done)|(simp;omega))) (frz_gar rfl (show aL _ ([tI x]::py2::pjt.take pjt.length)from rfl) (by first|(simp;done)|(simp;omega)))) (hChk (nh (b:=ok) (by assumption)) (((g0::gt).set _ (ko ti pi si li [[tI y]])).set _ (ko tj pj sj lj ([tI x]::py2::pjt.take pjt.length))) (gr_set (gr_set (fun e he=>(hg (nh (b:=ok) (by assumption)) e he).gr) ⟨_,_,_,_,_,rfl,is1 y,by have q1:=hpil;have q2:=hpjl;simp[maxLen]at q1 q2⊢;try omega⟩ _) ⟨_,_,_,_,_,rfl,is2 x hpj,by have q1:=hpil;have q2:=hpjl;simp[maxLen]at q1 q2⊢;try omega⟩ _) (by have:=Ou (nh (b:=ok) (by assumption));simp only[maxLen];simp;simp at this;omega)) ?_ ?_;(rintro _ ⟨n3,rfl,ha3,hb3,Tm⟩;rfl);rintro _ ⟨n3,rfl,ha3,hb3,Tm⟩)
  |(refine sM (lendM rfl (show aL _ (g0::gt)from rfl) (by simp) (frz_gar rfl (show aL _ ([tI y]::px2::pit.take pit.length)from rfl) (by first|(simp;done)|(simp;omega))) (frz_gar rfl (show aL _ [[tI x]]from rfl) (by first|(simp;done)|(simp;omega)))) (hChk (nh (b:=ok) (by assumption)) (((g0::gt).set _ (ko ti pi si li ([tI y]::px2::pit.take pit.length))).set _ (ko tj pj sj lj [[tI x]])) (gr_set (gr_set (fun e he=>(hg (nh (b:=ok) (by assumption)) e he).gr) ⟨_,_,_,_,_,rfl,is2 y hpi,by have q1:=hpil;have q2:=hpjl;simp[maxLen]at q1 q2⊢;try omega⟩ _) ⟨_,_,_,_,_,rfl,is1 x,by have q1:=hpil;have q2:=hpjl;simp[maxLen]at q1 q2⊢;try omega⟩ _) (by have:=Ou (nh (b:=ok) (by assumption));simp only[maxLen];simp;simp at this;omega)) ?_ ?_;(rintro _ ⟨n3,rfl,ha3,hb3,Tm⟩;rfl);rintro _ ⟨n3,rfl,ha3,hb3,Tm⟩)
  |(refine sM (lendM rfl (show aL _ (g0::gt)from rfl) (by simp) (frz_gar rfl (show aL _ ([tI y]::px2::pit.take pit.length)from rfl) (by first|(simp;done)|(simp;omega))) (frz_gar rfl (show aL _ ([tI x]::py2::pjt.take pjt.length)from rfl) (by first|(simp;done)|(simp;omega)))) (hChk (nh (b:=ok) (by assumption)) (((g0::gt).set _ (ko ti pi si li ([tI y]::px2::pit.take pit.length))).set _ (ko tj pj sj lj ([tI x]::py2::pjt.take pjt.length))) (gr_set (gr_set (fun e he=>(hg (nh (b:=ok) (by assumption)) e he).gr) ⟨_,_,_,_,_,rfl,is2 y hpi,by have q1:=hpil;have q2:=hpjl;simp[maxLen]at q1 q2⊢;try omega⟩ _) ⟨_,_,_,_,_,rfl,is2 x hpj,by have q1:=hpil;have q2:=hpjl;simp[maxLen]at q1 q2⊢;try omega⟩ _) (by have:=Ou (nh (b:=ok) (by assumption));simp only[maxLen];simp;simp at this;omega)) ?_ ?_;(rintro _ ⟨n3,rfl,ha3,hb3,Tm⟩;rfl);rintro _ ⟨n3,rfl,ha3,hb3,Tm⟩)
  |(refine cg (xs:=g0::gt) rfl (hg (nh (b:=ok) (by assumption))) (by have q:=hI.2;have q5:=hI.1;simp at q⊢;omega) ?_;rintro _ ⟨ta,pa,sa,la,pca,rfl,_,_⟩ _)
  |(refine x_rowS (by omega) ?_;refine cg (xs:=g0::gt) rfl (hg (nh (b:=ok) (by assumption))) (by have q:=hJ.1.2;have q5:=hJ.1.1;simp at q⊢;omega) ?_;rintro _ ⟨ta,pa,sa,la,pca,rfl,_,_⟩ _)
  |exact g1 rfl rfl rfl
  |(exfalso;have h7:=Gh rfl (by have:=Ou (nh (b:=ok) (by assumption));simp at this⊢;omega) (dup_double (Qy (by omega)) hsi);omega)
  |(have h81:=hsy;have h82:pci.length≠0:=(by omega);rcases pci with _|⟨px,_|⟨px2,pit⟩⟩; · exact absurd rfl h82)
  |(have h81:=N3;have h82:pcj.length≠0:=(by omega);rcases pcj with _|⟨py,_|⟨py2,pjt⟩⟩; · exact absurd rfl h82)
  |exact(mix_fin (hB (nh (b:=ok) (by assumption))) (Qy (by assumption)) (show I.toNat≠J.toNat by omega) hsi hsj hsy (Nat.zero_add _) (Nat.zero_add _) (ha3 (by assumption))).elim
  |(exfalso;omega))
 all_goals (conv=>whnf)
theorem law_mixes (hw:aD1) {x:List T} (h:iO YB x) {kk nn:Int} (hk0:0≤kk) (gj:kk < 256) (HA:0≤nn) (mE:nn < 256):Fn Tryz.prog 9 [.agg (x.map .t),oU8 kk,oU8 nn] [] (bV true) []:=by
 obtain⟨sn,bM,ms,ps,us,ss,os,ln,wd,rx,ry,sizes,places,ag,bs,cuts,rfl,hok,hc,ee⟩:=ajF h
 obtain⟨b0,e0,h0,ef⟩:=ajE sn bM ms ps us ss os ln wd rx ry sizes places ag bs hok
 obtain⟨⟨ts,f,i,gz,rfl,hgz⟩,Tk⟩:=ef cuts hc ee
 have hB:okB b0 e0 ag.length places.length cuts=true→xA sizes ag bs bs.length:=fun h=>(h0 (aAi h).1).2.2 (Da (aAi h).2.2).1
 cases gz with
 |nil=>
  obtain⟨ts,f,_,rfl⟩:=mixes_nil sn bM ms ps us ss os ln wd rx ry sizes places ag bs cuts kk nn hk0 gj HA mE _ ⟨_,f,i,rfl⟩ hw
  exact f
 |cons g0 gt=>
  obtain⟨ts,f,_,rfl⟩:=garmentlaw50_AssemblyMixes sn bM ms ps us ss os ln wd rx ry sizes places ag bs cuts kk nn hk0 gj HA mE g0 gt _ ⟨_,f,i,rfl⟩
   (fun h=>by rw[hgz h];have h1:=DA (places:=places) (cuts:=cuts) (h0 (aAi h).1).2.1.p (O7 hok.hb (hB h)) bs.length;have h2:=(h0 (aAi h).1).2.1.b;omega)
   (fun h=>by rw[hgz h];exact sewL_gs (by have:=(h0 (aAi h).1).2.1.q;omega) _)
   hB (fun h gs hg hl=>Tk h gs hg hl) hw
  exact f
end Go.aU.Cd
end
section
namespace Go.Proofs.YtlhffnnmmbannaaGreat
open Go.ChangeShapes Go.WideShapes Go.ChangeAt Go.RowKit
set_option maxRecDepth 100000
theorem cf9_inPlace:(Rows.assemblyMixesRow.inPlace==Tryz.prog.inPlace 9)=true:=by kernel_rfl
theorem cf9_unf:(Rows.assemblyMixesRow.unfollowed==Tryz.prog.unfollowed 9)=true:=by kernel_rfl
theorem cf9_rec:(Rows.assemblyMixesRow.recurses==Tryz.prog.recurses 9)=true:=by kernel_rfl
theorem cf9_named:(Rows.assemblyMixesRow.named==Tryz.prog.varsNamed 9)=true:=by kernel_rfl
theorem cf9_a:(Rows.assemblyMixesRow.wf (OpenSpec.ofChange Rows.assemblyMixesSpec)&&laidOutB Tryz.prog&&mapsRowed Tryz.prog&&Tryz.f9.params.all (Tryz.prog.readableRec ·)&&namedTie Tryz.prog Rows.assemblyMixesRow.named Rows.assemblyMixesSpec.vars&& (Rows.assemblyMixesRow.stops== [])&& (Tryz.prog.stops== [])&& (Rows.assemblyMixesRow.knobs== [])&& (Tryz.prog.stopKnobs== []))=true:=by kernel_rfl
theorem cf9_all:joinedFacts Tryz.prog 9 Tryz.f9 Rows.assemblyMixesSpec Rows.assemblyMixesRow=true:=by
 unfold joinedFacts
 rw[cf9_a,cf9_inPlace,cf9_unf,cf9_rec,cf9_named]
 kernel_rfl
end Go.Proofs.YtlhffnnmmbannaaGreat
end
section
namespace Go.Proofs.YtlhffnnmmbannaaGreat
open Go.aU Go.ChangeShapes Go.WideShapes Go.ChangeAt Go.RowKit
theorem Tryz.own:ownKnob Tryz.prog.godebug=none:=by kernel_rfl
theorem Tryz.laidOut:laidOutB Tryz.prog=true:=by kernel_rfl
def case0:Value:= .agg #[.string ⟨#[]⟩, .slice none 0 0, .slice none 0 0, .slice none 0 0, .slice none 0 0, .slice none 0 0, .slice none 0 0, .int .i64 0, .int .i64 0, .int .i64 0, .int .i64 0, .slice none 0 0, .slice none 0 0, .slice none 0 0, .slice none 0 0, .slice none 0 0]
set_option maxRecDepth 100000 in
theorem fmx_lifted (hFn: ∀us,Typed Tryz.prog 12 Tryz.f9.params.toList us→aU.Fn Tryz.prog 9 us [] (.w (.one (.t (.val (.bool true))))) []) (os:Os) (started:os.Started) (H:Type) (enc:TypeId×Value→H):
 ReturnsInHanded {} Tryz.checked os 9 .any (Rows.assemblyMixesSpec.pre6 enc Tryz.prog Tryz.f9 Rows.assemblyMixesRow.domain false) (Rows.assemblyMixesSpec.post enc Tryz.prog Tryz.f9 false true false false):=by
 refine returnsInHanded_of_change (C:=Tryz.checked) Tryz.own started (by kernel_rfl) Tryz.func9
  (ChangeSpec.witness6 (enc:=enc) (C:=Tryz.checked) false ⟨#[], #[case0, .int .u8 0, .int .u8 0],[]⟩ 8 (by kernel_rfl) (by kernel_rfl) (by kernel_rfl) (by kernel_rfl)) ?_
 intro W base args ds gs before hval hW _ _
 refine P2 (P:=Tryz.prog) (d:=11) (s:=Rows.assemblyMixesSpec) Tryz.laidOut rfl (by kernel_rfl) Tryz.underlying4 ?_ ?_ ?_ hFn hval (fun g vs hg=>by simp[Cr,No]at hg) hW
 · intro ds hds
   rw[Tryz.params9]at hds
   match ds,hds with
   | [a,b,c],_=>exact⟨rfl,rfl,rfl⟩
 · have:(Tryz.f9.params.toList.all fun t=>gZ Tryz.prog 12 t)=true:=by kernel_rfl
   exact List.all_eq_true.1 this
 · have:(Tryz.f9.params.toList.all fun t=>Tryz.prog.readableRec t&&decide (t < Tryz.prog.types.size))=true:=by kernel_rfl
   intro t ht
   have:=List.all_eq_true.1 this t ht
   simpa using this
theorem fmx_named:Tryz.pinned.checked.prog.funcNamed Rows.assemblyMixesRow.func=some 9:=by kernel_rfl
theorem fmx_inst:Tryz.f9.isInstance Tryz.pinned.checked.prog Rows.assemblyMixesRow.origin Rows.assemblyMixesRow.targs:=of_decide_eq_true (by kernel_rfl)
theorem fmx_wrap:Tryz.f9.isWrapper Tryz.pinned.checked.prog Rows.assemblyMixesRow.wrapper Rows.assemblyMixesRow.mainSum:=by
 unfold Func.isWrapper;first|(rw[if_pos (by decide+kernel)];kernel_rfl)|(rw[if_neg (by decide+kernel)];exact⟨rfl,rfl⟩)
theorem fmx_over (hFn: ∀us,Typed Tryz.prog 12 Tryz.f9.params.toList us→aU.Fn Tryz.prog 9 us [] (.w (.one (.t (.val (.bool true))))) []):Rows.AssemblyMixesSaid:=
 OpenClaim.holds_of_wide 9 Tryz.f9 rfl rfl rfl rfl rfl rfl rfl ⟨rfl,rfl,rfl,rfl,rfl⟩ rfl rfl rfl rfl rfl fmx_named Tryz.func9 cf9_all fmx_inst fmx_wrap
  (fun os started H enc _=>fmx_lifted hFn os started H enc)
end Go.Proofs.YtlhffnnmmbannaaGreat
end
