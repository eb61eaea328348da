import Derived.Test.YtlhffnnmmbannaaGreatME
import Derived.Test.YtlhffnnmmbannaaGreatRows
import Derived.ProofKit
set_option linter.all false
section
namespace Go.aU.Cd
open Go Go.Proofs
theorem fiF_some (cuts:Lz) (jk sE size:Int) (j:Nat):(Mr cuts jk sE size j).isSome=cuts.any (Ak (j:Int) jk sE size):=by
 unfold Mr
 rw[List.findIdx?_isSome]
theorem pcsTo_some {g:Int} {places:Lz} {fi fi':Nat→Option Nat} (h: ∀j,(fi j).isSome=(fi' j).isSome): ∀j,(fJ g fi places j).isSome=(fJ g fi' places j).isSome
 |0=>rfl
 |j+1=>by
  have ih:=pcsTo_some (g:=g) (places:=places) h j
  have hj:=h j
  simp only[fJ]
  cases h1:fJ g fi places j<;>cases h2:fJ g fi' places j<;>simp only[h1,h2]at ih⊢ <;>simp at ih
  · cases places[j]? with
    |none=>rfl
    |some p=>
     simp only
     split
     · cases h3:fi j<;>cases h4:fi' j<;>simp only[h3,h4]at hj⊢ <;>simp at hj<;>rfl
     · rfl
theorem pcB_rev (sizes places ag cuts:Lz) (g jk:Int):(Ih sizes places ag cuts.reverse g jk).isSome=(Ih sizes places ag cuts g jk).isSome:=by
 unfold Ih
 refine pcsTo_some (fun j=>?_) _
 rw[fiF_some,fiF_some,List.any_reverse]
def key3 (e:List T):Int×Int×Int:=(nI 0 e,nI 1 e,nI 3 e)
theorem sewB_rev (sizes places ag cuts:Lz) (e:List T): ∀n,(lI sizes places ag cuts.reverse e n).map key3=(lI sizes places ag cuts e n).map key3
 |0=>rfl
 |n+1=>by
  have ih:=sewB_rev sizes places ag cuts e n
  have hp:=pcB_rev sizes places ag cuts (nI 1 e) (nI 4 e+(n:Int))
  simp only[lI,List.map_append,ih]
  congr 1
  cases h1:Ih sizes places ag cuts.reverse (nI 1 e) (nI 4 e+(n:Int))<;>cases h2:Ih sizes places ag cuts (nI 1 e) (nI 4 e+(n:Int))<;>simp only[h1,h2]at hp⊢ <;>simp at hp
  rfl
theorem sewL_rev (sizes places ag cuts bs:Lz): ∀k,(jV sizes places ag cuts.reverse bs k).map key3=(jV sizes places ag cuts bs k).map key3
 |0=>rfl
 |k+1=>by
  have ih:=sewL_rev sizes places ag cuts bs k
  simp only[jV,List.map_append,ih]
  congr 1
  cases bs[k]? with
  |none=>rfl
  |some e=>exact sewB_rev sizes places ag cuts e _
theorem okB_rev (b0:Bool) (e0:Int) (np nq:Nat) (cuts:Lz):okB b0 e0 np nq cuts.reverse=okB b0 e0 np nq cuts:=by
 simp only[okB,AD,uK,List.length_reverse,List.all_reverse]
theorem sew_rev_at {sizes places ag cuts bs:Lz} {i:Nat} {a b:List T} (ha:(jV sizes places ag cuts bs bs.length)[i]? =some a) (hb:(jV sizes places ag cuts.reverse bs bs.length)[i]? =some b):nI 0 a=nI 0 b∧nI 1 a=nI 1 b∧nI 3 a=nI 3 b:=by
 have h:=congrArg (fun l=>l[i]?) (sewL_rev sizes places ag cuts bs bs.length)
 simp only[List.getElem?_map,ha,hb,Option.map_some,Option.some.injEq,key3,Prod.mk.injEq]at h
 exact⟨h.1.symm,h.2.1.symm,h.2.2.symm⟩
theorem sew_rev_len (sizes places ag cuts bs:Lz):(jV sizes places ag cuts.reverse bs bs.length).length=(jV sizes places ag cuts bs bs.length).length:=by
 have h:=congrArg List.length (sewL_rev sizes places ag cuts bs bs.length)
 simpa using h
theorem Eu.rev {cuts:Lz} (h:Eu cuts):Eu cuts.reverse:=fun e he=>h e (by simpa using he)
end Go.aU.Cd
end
section
namespace Go.aU.Cd
open Go Go.Proofs
set_option maxRecDepth 100000
set_option maxHeartbeats 1000000
def c10:Rc:=Sq (Rg [Bx 1 0,Mb 2 false]) (Sq (Rg [Lo 16 11 1,p 12 (.call 21 [t 11]),Mv 10 12,Et 13 10 0,Et 14 10 1,Mv 3 13,Mv 4 14]) (Sq (Sq (Rg [Mv 15 4,Nt 16 15]) (Cn 16 (Sq (Rg [p 17 (.call 13 []),Mv 2 17]) Rt) Sk)) (Sq (Rg [Lo 16 18 1,p 5 (.alloc [.t (.val (.string ⟨#[]⟩)),zn,zn,zn,zn,zn,zn,zi,zi,zi,zi,zn,zn,zn,zn,zn]),So 16 5 18]) (Sq (Rg [Fa 19 15 5,q (.store 1 (t 19) kn)]) (Sq (Sq (Rg [Fa 20 15 1,Ld 21 20,Le 22 21,Bi 23 .sub 22 1,Mv 6 23]) (Bk 0 (Lp (Sq (Sq (Rg [Mv 24 6,Bi 25 .geq 24 0]) (Cn 25 Sk (Ex 0))) (Sq (Bk 1 (Dr [Fa 28 15 5,Ld 29 28,Fa 30 15 1,Ld 31 30,Mv 32 6,Ia 33 6 31 32,Lo 6 34 33,p 35 (.aT [zi,zi,zi,zi,zn,zb] 1 [(0,t 34)]),p 36 (.append 6 64 (t 29) (t 35)),Fa 37 15 5,So 1 37 36] [[],[0],[],[2],[],[3,4],[5],[6],[1,7],[0,1,2,3,4,5,6,7,8],[9,8,8,0,1,2,3,4,5,6,7,8]])) (Rg [Mv 26 6,Bi 27 .sub 26 1,Mv 6 27])))))) (Sq (Rg [Lo 16 39 5,p 40 (.call 21 [t 39]),Mv 38 40,Et 41 38 0,Et 42 38 1,Mv 7 41,Mv 8 42]) (Sq (Sq (Rg [Mv 43 8,Nt 44 43,Mv 45 44,Ga 45 (Mv 46 3),Ga 45 (Le 47 46),Ga 45 (Mv 48 7),Ga 45 (Le 49 48),Ga 45 (Bt 50 .neq 47 49),Pt 51 45 50]) (Cn 51 (Sq (Rg [Mb 2 false]) Rt) Sk)) (Sq (Sq (Rg [Mk 9 0]) (Bk 2 (Lp (Sq (Sq (Rg [Mv 52 9,Mv 53 3,Le 54 53,Bt 55 .lss 52 54]) (Cn 55 Sk (Ex 2))) (Sq (Bk 3 (Sq (Dr [Mv 58 3,Mv 59 9,Ia 60 5 58 59,Fa 61 0 60,Ld 62 61,Mv 63 7,Mv 64 9,Ia 65 5 63 64,Fa 66 0 65,Ld 67 66,Bt 68 .neq 62 67,Mv 69 68,Ga 69 (Mv 70 3),Ga 69 (Mv 71 9),Ga 69 (Ia 72 5 70 71),Ga 69 (Fa 73 1 72),Ga 69 (Ld 74 73),Ga 69 (Mv 75 7),Ga 69 (Mv 76 9),Ga 69 (Ia 77 5 75 76),Ga 69 (Fa 78 1 77),Ga 69 (Ld 79 78),Ga 69 (Bt 80 .neq 74 79),Pt 81 69 80,Mv 82 81,Ga 82 (Mv 83 3),Ga 82 (Mv 84 9),Ga 82 (Ia 85 5 83 84),Ga 82 (Fa 86 3 85),Ga 82 (Ld 87 86),Ga 82 (Mv 88 7),Ga 82 (Mv 89 9),Ga 82 (Ia 90 5 88 89),Ga 82 (Fa 91 3 90),Ga 82 (Ld 92 91),Ga 82 (Bt 93 .neq 87 92),Pt 94 82 93] [[],[],[0,1],[2],[3],[],[],[5,6],[7],[8],[4,9],[10],[11],[11],[12,13,11],[14,11],[15,11],[11],[11],[17,18,11],[19,11],[20,11],[16,21,11],[11,22],[23,11],[24],[24],[25,26,24],[27,24],[28,24],[24],[24],[30,31,24],[32,24],[33,24],[29,34,24],[24,35]]) (Cn 94 (Sq (Rg [Mb 2 false]) Rt) Sk))) (Rg [Mv 56 9,Bi 57 .add 56 1,Mv 9 57])))))) (Sq (Rg [p 95 (.call 13 []),Mv 2 95]) Rt)))))))))
theorem ck10:ae Tryz.prog (Tryz.f10.body.getD .skip)=some c10:=by kernel_rfl
theorem bk10:Tryz.f10.body=some (Tryz.f10.body.getD .skip):=rfl
def ROr (mk:C→List C) (cuts:Lz) (m:Nat) (vs:List V) (hq:HS):Prop:=
 ∃ (i:Nat) (rows:List (List C)),i≤cuts.length∧m=i∧vs=[iV .i64 ((i:Int) - 1)]∧aL rows (cuts.drop i).reverse∧
  hq=[(4, .row 16 [mk (.t (.ao 6 cuts))]),(8, .row 16 [mk (.own 12 6 0 (cuts.length - i))]),(12, .row 6 rows)]
theorem ROr.next {mk:C→List C} {cuts:Lz} {i n:Nat} {e:List T} {rows:List (List C)} {hq:HS} (hi:(0:Int)≤(i:Int) - 1) (yA:i≤cuts.length) (ee:cuts.length≤maxLen) (hs:cuts[((i:Int) - 1).toNat]? =some e) (hR:aL rows ((cuts.drop i).reverse++[e])) (hn:n=cuts.length - i+1)
 (CK:hq=[(4, .row 16 [mk (.t (.ao 6 cuts))]),(8, .row 16 [mk (.own 12 6 0 n)]),(12, .row 6 rows)]):ROr mk cuts (i - 1) [iV .i64 (IntKind.i64.wrap ((i:Int) - 1 - 1))] hq:=by
 obtain⟨j,rfl⟩: ∃j,i=j+1:=⟨i - 1,by omega⟩
 have e1:((((j+1:Nat):Int)) - 1).toNat=j:=by omega
 rw[e1]at hs
 obtain⟨hj,hje⟩:=List.getElem?_eq_some_iff.1 hs
 refine⟨j,rows,by omega,rfl,?_,?_,?_⟩
 · simp only[maxLen]at ee
   rw[bO (by omega) (by omega),show(((j+1:Nat):Int)) - 1 - 1=(j:Int) - 1 by omega]
 · rw[List.drop_eq_getElem_cons hj,List.reverse_cons,hje]
   exact hR
 · rw[CK,hn,show cuts.length - (j+1)+1=cuts.length - j by omega]
theorem ror_rows {cuts:Lz} {i:Nat} {rows:List (List C)} (hi:i=0) (h:aL rows (cuts.drop i).reverse):aL rows cuts.reverse:=by
 subst hi
 simpa using h
theorem garmentlaw50_AssemblyOrder (sn:ByteArray) (bM ms ps us ss os:Lz) (ln wd rx ry:Int) (sizes places ag bs cuts:Lz) (hc:Eu cuts) (ee:cuts.length≤maxLen) (gz hz:Lz) (ok ok2:Bool) (h1:Te 21 [RR sn bM ms ps us ss os ln wd rx ry sizes places ag bs cuts] [oL 5 gz,oB ok]) (h2:Te 21 [RR sn bM ms ps us ss os ln wd rx ry sizes places ag bs cuts.reverse] [oL 5 hz,oB ok2]) (hok:ok=true→ok2=true) (hlen:ok=true→hz.length=gz.length) (hcs:ok=true→cuts.length≤60) (Ou:ok=true→gz.length≤1000) (hg:ok=true→ ∀e,e∈gz→JJ e) (hh:ok=true→ ∀e,e∈hz→JJ e) (rU:ok=true→ ∀ (i:Nat) (a b:List T),gz[i]? =some a→hz[i]? =some b→nI 0 a=nI 0 b∧nI 1 a=nI 1 b∧nI 3 a=nI 3 b) (h3:Te 13 [] [oB true]):Tg 10 [RR sn bM ms ps us ss os ln wd rx ry sizes places ag bs cuts] GTr:=by
 refine ah (n:=96) (rs:=[.tmp 2]) Tryz.func10 bk10 ck10 rfl rfl (by simp) ?_
 repeat' (conv=>whnf
          first
  |(refine az (fun h=>?_) (fun h=>?_))
  |(refine aC4 (fun h=>?_) (fun h=>?_))
  |(refine cv (fun h=>?_) (fun h=>?_))
  |(refine aB (fun h=>?_) (fun h=>?_))
  |(refine Nc EC (by omega) ?_)
  |(refine Nc hs4 (by omega) ?_)
  |(refine ap (xs:=cuts) hc (by omega) (by omega) ?_;rintro _ ⟨p3,q3,l3,s3,r3,d3,rfl⟩ hs)
  |(refine ap (xs:=gz) (hg (nh (b:=ok) (by assumption))) (by omega) (by omega) ?_;rintro _ ⟨t4,p4,s4,l4,pc4,rfl,hpc4,hpl4⟩ EC)
  |(refine ap (xs:=hz) (hh (nh (b:=ok) (by assumption))) (by omega) (by have:=hlen (nh (b:=ok) (by assumption));omega) ?_;rintro _ ⟨t5,p5,s5,l5,pc5,rfl,hpc5,hpl5⟩ hs4)
  |(refine And.intro (by have q1:=hR.len;simp only[List.length_reverse,List.length_drop]at q1;have q2:=hcs (nh (b:=ok) (by assumption));refine⟨by omega,?_,?_⟩<;>simp[bR,maxLen]<;>omega) ?_)
  |(refine Bc (by omega) (by omega) ?_;intro bb)
  |(refine fz (by omega) (by omega) ?_)
  |(refine And.intro (by kernel_rfl) ?_)
  |(refine And.intro (by omega) ?_)
  |(refine ai rfl (h1) ?_;rintro _ rfl)
  |(refine au rfl (h1) ?_;rintro _ rfl)
  |(refine ai rfl (h3) ?_;rintro _ rfl)
  |(refine au rfl (h3) ?_;rintro _ rfl)
  |(refine alI _ rfl (by rfl) (asJ (ror_rows (by omega) hR) (by simp;omega)) h2 ?_;rintro _ rfl)
  |exact g1 rfl rfl rfl
  |(exfalso;have h7:=hok (nh (b:=ok) (by assumption));have h9:=JY (b:=ok2) (by assumption);rw[h7]at h9;exact Bool.noConfusion h9)
  |(exfalso;have h7:=hlen (nh (b:=ok) (by assumption));omega)
  |(exfalso;obtain⟨q1,q2,q3⟩:=rU (nh (b:=ok) (by assumption)) _ _ _ EC hs4;have q4:t4=t5:=q1;have q5:p4=p5:=q2;have q6:l4=l5:=q3;omega)
  |(apply aK [3,7,9] [] [9] (RI gz.length) (gz.length) [iV .i64 0];(conv=>whnf);exact⟨rfl,rfl,rfl,rfl⟩;exact rfl;exact rfl;exact RI.zero;rintro _ _ ⟨i2,EF,rfl,rfl⟩)
  |(refine aq [3,7,9] [] ?_;(conv=>whnf);exact⟨rfl,_,[_],RI.succ (N:=gz.length) (i:=i2) (by omega) (by have:=Ou (nh (b:=ok) (by assumption));simp only[maxLen];omega),rfl,rfl,rfl,by omega⟩)
  |(apply zl [1,3,5,6] [(5,15)] [6] (ROr (csC sn bM ms ps us ss os ln wd rx ry sizes places ag bs) cuts) (cuts.length) [iV .i64 (IntKind.i64.wrap ((cuts.length:Int) - 1))] (iA.azT 52 15 6 rfl rfl);(conv=>whnf);exact⟨rfl,rfl,rfl,rfl⟩;exact rfl;exact rfl;exact⟨cuts.length,[],by omega,rfl,by simp only[maxLen]at ee;rw[bO (by omega) (by omega)],by rw[List.drop_length];exact aL.nil,by rw[Nat.sub_self];rfl⟩;rintro _ _ _ ⟨i,rows,hi,rfl,rfl,hR,rfl⟩)
  |(refine aq [1,3,5,6] [(5,15)] ?_;(conv=>whnf);exact⟨rfl,_,[_],ROr.next (by omega) hi ee hs ((aL.snoc hR [tI _,tI _,tI _,tI _, .ao 1 _,tB _]).aF _) (by have q1:=hR.len;simp only[List.length_reverse,List.length_drop]at q1;simp;omega) rfl,rfl,rfl,by omega⟩)
  |(exfalso;omega))
 all_goals (conv=>whnf)
theorem law_order (hw:aD1) {x:List T} (h:iO YB x):Fn Tryz.prog 10 [.agg (x.map .t)] [] (bV true) []:=by
 obtain⟨sn,bM,ms,ps,us,ss,os,ln,wd,rx,ry,sizes,places,ag,bs,cuts,rfl,hok,hc,ee⟩:=ajF h
 obtain⟨b0,e0,h0,ef⟩:=ajE sn bM ms ps us ss os ln wd rx ry sizes places ag bs hok
 obtain⟨⟨ts,f,i,gz,rfl,hgz⟩,_⟩:=ef cuts hc ee
 obtain⟨⟨ts,f2,i2,hz,rfl,hhz⟩,_⟩:=ef cuts.reverse hc.rev (by simpa using ee)
 have hR:okB b0 e0 ag.length places.length cuts=true→ ∀e,e∈bs→M9 sizes ag e:=fun h=>O7 hok.hb ((h0 (aAi h).1).2.2 (Da (aAi h).2.2).1)
 obtain⟨ts,f,_,rfl⟩:=garmentlaw50_AssemblyOrder sn bM ms ps us ss os ln wd rx ry sizes places ag bs cuts hc ee gz hz _ _ ⟨_,f,i,rfl⟩ ⟨_,f2,i2,rfl⟩ (fun h=>by rw[okB_rev];exact h)
  (fun h=>by rw[hgz h,hhz (by rw[okB_rev];exact h),sew_rev_len])
  (fun h=>by have:=(aAi h).2.1;simp only[AD,Bool.and_eq_true,decide_eq_true_eq]at this;exact this.1)
  (fun h=>by rw[hgz h];have h1:=DA (places:=places) (cuts:=cuts) (h0 (aAi h).1).2.1.p (hR h) bs.length;have h2:=(h0 (aAi h).1).2.1.b;omega)
  (fun h=>by rw[hgz h];exact H7 (by have:=(h0 (aAi h).1).2.1.q;simp only[maxLen];omega) _)
  (fun h=>by rw[hhz (by rw[okB_rev];exact h)];exact H7 (by have:=(h0 (aAi h).1).2.1.q;simp only[maxLen];omega) _)
  (fun h k a b ha hb=>by rw[hgz h]at ha;rw[hhz (by rw[okB_rev];exact h)]at hb;exact sew_rev_at ha hb) hw
 exact f
end Go.aU.Cd
end
section
namespace Go.Proofs.YtlhffnnmmbannaaGreat
open Go.ChangeShapes Go.WideShapes Go.ChangeAt Go.RowKit
set_option maxRecDepth 100000
theorem cf10_inPlace:(Rows.assemblyOrderRow.inPlace==Tryz.prog.inPlace 10)=true:=by kernel_rfl
theorem cf10_unf:(Rows.assemblyOrderRow.unfollowed==Tryz.prog.unfollowed 10)=true:=by kernel_rfl
theorem cf10_rec:(Rows.assemblyOrderRow.recurses==Tryz.prog.recurses 10)=true:=by kernel_rfl
theorem cf10_named:(Rows.assemblyOrderRow.named==Tryz.prog.varsNamed 10)=true:=by kernel_rfl
theorem cf10_a:(Rows.assemblyOrderRow.wf (OpenSpec.ofChange Rows.assemblyOrderSpec)&&laidOutB Tryz.prog&&mapsRowed Tryz.prog&&Tryz.f10.params.all (Tryz.prog.readableRec ·)&&namedTie Tryz.prog Rows.assemblyOrderRow.named Rows.assemblyOrderSpec.vars&& (Rows.assemblyOrderRow.stops== [])&& (Tryz.prog.stops== [])&& (Rows.assemblyOrderRow.knobs== [])&& (Tryz.prog.stopKnobs== []))=true:=by kernel_rfl
theorem cf10_all:joinedFacts Tryz.prog 10 Tryz.f10 Rows.assemblyOrderSpec Rows.assemblyOrderRow=true:=by
 unfold joinedFacts
 rw[cf10_a,cf10_inPlace,cf10_unf,cf10_rec,cf10_named]
 kernel_rfl
end Go.Proofs.YtlhffnnmmbannaaGreat
end
section
namespace Go.Proofs.YtlhffnnmmbannaaGreat
open Go.aU Go.ChangeShapes Go.WideShapes Go.ChangeAt Go.RowKit
theorem Tryz.own:ownKnob Tryz.prog.godebug=none:=by kernel_rfl
theorem Tryz.laidOut:laidOutB Tryz.prog=true:=by kernel_rfl
def case0:Value:= .agg #[.string ⟨#[]⟩, .slice none 0 0, .slice none 0 0, .slice none 0 0, .slice none 0 0, .slice none 0 0, .slice none 0 0, .int .i64 0, .int .i64 0, .int .i64 0, .int .i64 0, .slice none 0 0, .slice none 0 0, .slice none 0 0, .slice none 0 0, .slice none 0 0]
set_option maxRecDepth 100000 in
theorem for_lifted (hFn: ∀us,Typed Tryz.prog 12 Tryz.f10.params.toList us→aU.Fn Tryz.prog 10 us [] (.w (.one (.t (.val (.bool true))))) []) (os:Os) (started:os.Started) (H:Type) (enc:TypeId×Value→H):
 ReturnsInHanded {} Tryz.checked os 10 .any (Rows.assemblyOrderSpec.pre6 enc Tryz.prog Tryz.f10 Rows.assemblyOrderRow.domain false) (Rows.assemblyOrderSpec.post enc Tryz.prog Tryz.f10 false true false false):=by
 refine returnsInHanded_of_change (C:=Tryz.checked) Tryz.own started (by kernel_rfl) Tryz.func10
  (ChangeSpec.witness6 (enc:=enc) (C:=Tryz.checked) false ⟨#[], #[case0],[]⟩ 8 (by kernel_rfl) (by kernel_rfl) (by kernel_rfl) (by kernel_rfl)) ?_
 intro W base args ds gs before hval hW _ _
 refine P2 (P:=Tryz.prog) (d:=11) (s:=Rows.assemblyOrderSpec) Tryz.laidOut rfl (by kernel_rfl) Tryz.underlying4 ?_ ?_ ?_ hFn hval (fun g vs hg=>by simp[Cr,No]at hg) hW
 · intro ds hds
   rw[Tryz.params10]at hds
   match ds,hds with
   | [a],_=>exact⟨rfl,rfl,rfl⟩
 · have:(Tryz.f10.params.toList.all fun t=>gZ Tryz.prog 12 t)=true:=by kernel_rfl
   exact List.all_eq_true.1 this
 · have:(Tryz.f10.params.toList.all fun t=>Tryz.prog.readableRec t&&decide (t < Tryz.prog.types.size))=true:=by kernel_rfl
   intro t ht
   have:=List.all_eq_true.1 this t ht
   simpa using this
theorem for_named:Tryz.pinned.checked.prog.funcNamed Rows.assemblyOrderRow.func=some 10:=by kernel_rfl
theorem for_inst:Tryz.f10.isInstance Tryz.pinned.checked.prog Rows.assemblyOrderRow.origin Rows.assemblyOrderRow.targs:=of_decide_eq_true (by kernel_rfl)
theorem for_wrap:Tryz.f10.isWrapper Tryz.pinned.checked.prog Rows.assemblyOrderRow.wrapper Rows.assemblyOrderRow.mainSum:=by
 unfold Func.isWrapper;first|(rw[if_pos (by decide+kernel)];kernel_rfl)|(rw[if_neg (by decide+kernel)];exact⟨rfl,rfl⟩)
theorem for_over (hFn: ∀us,Typed Tryz.prog 12 Tryz.f10.params.toList us→aU.Fn Tryz.prog 10 us [] (.w (.one (.t (.val (.bool true))))) []):Rows.AssemblyOrderSaid:=
 OpenClaim.holds_of_wide 10 Tryz.f10 rfl rfl rfl rfl rfl rfl rfl ⟨rfl,rfl,rfl,rfl,rfl⟩ rfl rfl rfl rfl rfl for_named Tryz.func10 cf10_all for_inst for_wrap
  (fun os started H enc _=>for_lifted hFn os started H enc)
end Go.Proofs.YtlhffnnmmbannaaGreat
end
