import Derived.Test.YtlhffnnmmbannaaGreatME
import Derived.Test.YtlhffnnmmbannaaGreatRows
import Derived.ProofKit
set_option linter.all false
section
namespace Go.aU.Cd
open Go Go.Proofs
set_option maxRecDepth 100000
set_option maxHeartbeats 1000000
def c7:Rc:=Sq (Rg [Bx 1 0,Mb 2 false]) (Sq (Rg [Lo 16 9 1,p 10 (.call 21 [t 9]),Mv 8 10,Et 11 8 0,Et 12 8 1,Mv 3 11,Mv 4 12]) (Sq (Sq (Rg [Mv 13 4,Nt 14 13]) (Cn 14 (Sq (Rg [p 15 (.call 13 []),Mv 2 15]) Rt) Sk)) (Sq (Rg [Mk 5 0]) (Sq (Sq (Rg [Mk 6 0]) (Bk 0 (Lp (Sq (Sq (Rg [Mv 16 6,Fa 17 14 1,Ld 18 17,Le 19 18,Bt 20 .lss 16 19]) (Cn 20 Sk (Ex 0))) (Sq (Bk 1 (Sq (Rg [Fa 23 14 1,Ld 24 23,Mv 25 6,Ia 26 6 24 25,Fa 27 4 26,Ld 28 27,Mv 7 28]) (Bk 2 (Lp (Sq (Sq (Rg [Mv 29 7,Fa 30 14 1,Ld 31 30,Mv 32 6,Ia 33 6 31 32,Fa 34 5 33,Ld 35 34,Bt 36 .lss 29 35]) (Cn 36 Sk (Ex 2))) (Sq (Bk 3 (Sq (Sq (Dr [Fa 39 0 1,Lo 7 40 39,Fa 41 7 1,Lo 7 42 41,Fa 43 15 1,Ld 44 43,Fa 45 14 1,Ld 46 45,Mv 47 6,Ia 48 6 46 47,Fa 49 1 48,Ld 50 49,Mv 51 7,p 52 (.call 19 [t 40,t 42,t 44,t 50,t 51]),Nt 53 52] [[],[0],[],[2],[],[4],[],[6],[],[7,8],[9],[10],[],[1,3,5,11,12],[13]]) (Cn 53 (Ex 3) Sk)) (Sq (Sq (Dr [Mv 54 5,Mv 55 3,Le 56 55,Bt 57 .geq 54 56,Mv 58 57,Ga 58 (Mv 59 3),Ga 58 (Mv 60 5),Ga 58 (Ia 61 5 59 60),Ga 58 (Fa 62 0 61),Ga 58 (Ld 63 62),Ga 58 (Fa 64 14 1),Ga 58 (Ld 65 64),Ga 58 (Mv 66 6),Ga 58 (Ia 67 6 65 66),Ga 58 (Fa 68 0 67),Ga 58 (Ld 69 68),Ga 58 (Bt 70 .neq 63 69),Pt 71 58 70,Mv 72 71,Ga 72 (Mv 73 3),Ga 72 (Mv 74 5),Ga 72 (Ia 75 5 73 74),Ga 72 (Fa 76 1 75),Ga 72 (Ld 77 76),Ga 72 (Mv 78 7),Ga 72 (Bt 79 .neq 77 78),Pt 80 72 79] [[],[],[1],[0,2],[3],[4],[4],[5,6,4],[7,4],[8,4],[4],[10,4],[4],[11,12,4],[13,4],[14,4],[9,15,4],[4,16],[17,4],[18],[18],[19,20,18],[21,18],[22,18],[18],[23,24,18],[18,25]]) (Cn 80 (Sq (Rg [Mb 2 false]) Rt) Sk)) (Rg [Mv 81 5,Bi 82 .add 81 1,Mv 5 82])))) (Rg [Mv 37 7,Bi 38 .add 37 1,Mv 7 38]))))))) (Rg [Mv 21 6,Bi 22 .add 21 1,Mv 6 22])))))) (Sq (Rg [Mv 83 5,Mv 84 3,Le 85 84,Bt 86 .eql 83 85,Mv 87 86,Gb 87 (p 88 (.call 13 [])),Pf 89 87 88,Mv 2 89]) Rt)))))
theorem ck7:ae Tryz.prog (Tryz.f7.body.getD .skip)=some c7:=by kernel_rfl
theorem bk7:Tryz.f7.body=some (Tryz.f7.body.getD .skip):=rfl
theorem sewL_pre {sizes places ag cuts bs:Lz}: ∀ (d k:Nat), ∃r,jV sizes places ag cuts bs (k+d)=jV sizes places ag cuts bs k++r
 |0,k=>⟨[],by simp⟩
 |d+1,k=>by
  obtain⟨r,hr⟩:=sewL_pre d k (sizes:=sizes) (places:=places) (ag:=ag) (cuts:=cuts) (bs:=bs)
  rw[←Nat.add_assoc]
  simp only[jV,hr,List.append_assoc]
  exact⟨_,rfl⟩
theorem sewB_pre {sizes places ag cuts:Lz} {e:List T}: ∀ (d n:Nat), ∃r,lI sizes places ag cuts e (n+d)=lI sizes places ag cuts e n++r
 |0,n=>⟨[],by simp⟩
 |d+1,n=>by
  obtain⟨r,hr⟩:=sewB_pre d n (sizes:=sizes) (places:=places) (ag:=ag) (cuts:=cuts) (e:=e)
  rw[←Nat.add_assoc]
  simp only[lI,hr,List.append_assoc]
  exact⟨_,rfl⟩
theorem sewL_at {sizes places ag cuts bs:Lz} {k n:Nat} {e:List T} (hk:bs[k]? =some e) (hn:n < (nI 5 e - nI 4 e).toNat) {cU:Lz} (hp:Ih sizes places ag cuts (nI 1 e) (nI 4 e+(n:Int))=some cU):
 (jV sizes places ag cuts bs bs.length)[(jV sizes places ag cuts bs k++lI sizes places ag cuts e n).length]? =some (ko (nI 0 e) (nI 4 e+(n:Int)) (nI 2 e) (fK ag (nI 4 e+(n:Int))) cU):=by
 have hlt:=(List.getElem?_eq_some_iff.1 hk).1
 obtain⟨r,hr⟩:=sewL_pre (bs.length - (k+1)) (k+1) (sizes:=sizes) (places:=places) (ag:=ag) (cuts:=cuts) (bs:=bs)
 rw[show k+1+(bs.length - (k+1))=bs.length by omega]at hr
 obtain⟨r2,rR⟩:=sewB_pre ((nI 5 e - nI 4 e).toNat - (n+1)) (n+1) (sizes:=sizes) (places:=places) (ag:=ag) (cuts:=cuts) (e:=e)
 rw[show n+1+((nI 5 e - nI 4 e).toNat - (n+1))=(nI 5 e - nI 4 e).toNat by omega]at rR
 rw[hr]
 simp only[jV,hk,rR]
 simp only[lI,hp]
 rw[List.append_assoc,List.append_assoc,List.append_assoc, ←List.append_assoc (jV _ _ _ _ _ _),List.getElem?_append_right (Nat.le_refl _)]
 simp
def RCo1 (row:List T) (sizes places ag cuts bs:Lz) (m:Nat) (vs:List V) (xss:List (Lz)):Prop:=
 ∃ (i q:Nat),i≤bs.length∧m=bs.length - i∧vs=[iV .i64 (q:Int),iV .i64 (i:Int)]∧xss=[[row]]∧q=(jV sizes places ag cuts bs i).length∧q≤40 * i
def RCo2 (row:List T) (sizes places ag cuts bs:Lz) (i:Nat) (e:List T) (f o:Int) (m:Nat) (vs:List V) (xss:List (Lz)):Prop:=
 ∃ (n q:Nat),(n:Int)≤o - f∧m=(o - f).toNat - n∧vs=[iV .i64 (q:Int),iV .i64 (f+(n:Int))]∧xss=[[row]]∧q=(jV sizes places ag cuts bs i++lI sizes places ag cuts e n).length∧q≤40 * i+n
theorem RCo1.next {row:List T} {sizes places ag cuts bs:Lz} {i n q:Nat} {t g s l f o:Int} (hi:(i:Int) < (bs.length:Int)) (BK:bs.length≤16) (hp:ag.length≤8) (ho:o≤(ag.length:Int)) (hf:0≤f) (hs:bs[((i:Int)).toNat]? =some (jg t g s l f o)) (hn:(n:Int)=o - f)
 (hq:q=(jV sizes places ag cuts bs i++lI sizes places ag cuts (jg t g s l f o) n).length) (hq2:q≤40 * i+n):RCo1 row sizes places ag cuts bs (bs.length - (i+1)) [iV .i64 (q:Int),iV .i64 (IntKind.i64.wrap ((i:Int)+1))] [[row]]:=by
 have hs':bs[i]? =some (jg t g s l f o):=by simpa using hs
 refine⟨i+1,q,by omega,rfl,by rw[bO (by omega) (by omega)];rfl,rfl,?_,by omega⟩
 rw[hq]
 simp only[jV,hs']
 have e1:nI 5 (jg t g s l f o)=o:=rfl
 have e2:nI 4 (jg t g s l f o)=f:=rfl
 rw[e1,e2,show(o - f).toNat=n by omega]
theorem RCo2.skip {row:List T} {sizes places ag cuts bs:Lz} {i n q:Nat} {t g s l f o:Int} (hn:f+(n:Int) < o) (hf:0≤f) (ho:o≤40) (hq:q=(jV sizes places ag cuts bs i++lI sizes places ag cuts (jg t g s l f o) n).length) (hq2:q≤40 * i+n)
 (hp:(Ih sizes places ag cuts g (f+(n:Int))).isSome=false):RCo2 row sizes places ag cuts bs i (jg t g s l f o) f o ((o - f).toNat - (n+1)) [iV .i64 (q:Int),iV .i64 (IntKind.i64.wrap (f+(n:Int)+1))] [[row]]:=by
 refine⟨n+1,q,by omega,rfl,by rw[bO (by omega) (by omega),show f+((n+1:Nat):Int)=f+(n:Int)+1 by omega],rfl,?_,by omega⟩
 have hp':Ih sizes places ag cuts g (f+(n:Int))=none:=by simpa using hp
 have e:lI sizes places ag cuts (jg t g s l f o) (n+1)=lI sizes places ag cuts (jg t g s l f o) n++(match Ih sizes places ag cuts g (f+(n:Int))with
  |none=>[]
  |some cU=>[ko t (f+(n:Int)) s (fK ag (f+(n:Int))) cU]):=rfl
 rw[hq,e,hp']
 simp
theorem RCo2.hit {row:List T} {sizes places ag cuts bs:Lz} {i n q:Nat} {t g s l f o:Int} (hn:f+(n:Int) < o) (hf:0≤f) (ho:o≤40) (hi:i≤16) (hq:q=(jV sizes places ag cuts bs i++lI sizes places ag cuts (jg t g s l f o) n).length) (hq2:q≤40 * i+n)
 (hp:(Ih sizes places ag cuts g (f+(n:Int))).isSome=true):RCo2 row sizes places ag cuts bs i (jg t g s l f o) f o ((o - f).toNat - (n+1)) [iV .i64 (IntKind.i64.wrap ((q:Int)+1)),iV .i64 (IntKind.i64.wrap (f+(n:Int)+1))] [[row]]:=by
 refine⟨n+1,q+1,by omega,rfl,by rw[bO (by omega) (by omega),bO (by omega) (by omega),show f+((n+1:Nat):Int)=f+(n:Int)+1 by omega];rfl,rfl,?_,by omega⟩
 obtain⟨cU,hp'⟩:=Option.isSome_iff_exists.1 hp
 have e:lI sizes places ag cuts (jg t g s l f o) (n+1)=lI sizes places ag cuts (jg t g s l f o) n++(match Ih sizes places ag cuts g (f+(n:Int))with
  |none=>[]
  |some cU=>[ko t (f+(n:Int)) s (fK ag (f+(n:Int))) cU]):=rfl
 rw[hq,e,hp']
 simp
 omega
theorem ct_get {sizes places ag cuts bs gz:Lz} {i n q:Nat} {t g s l f o:Int} (hgz:gz=jV sizes places ag cuts bs bs.length) (hs:bs[((i:Int)).toNat]? =some (jg t g s l f o)) (hn:f+(n:Int) < o) (hq:q=(jV sizes places ag cuts bs i++lI sizes places ag cuts (jg t g s l f o) n).length)
 (hp:(Ih sizes places ag cuts g (f+(n:Int))).isSome=true):gz[((q:Int)).toNat]? =some (ko t (f+(n:Int)) s (fK ag (f+(n:Int))) ((Ih sizes places ag cuts g (f+(n:Int))).getD [])):=by
 obtain⟨cU,hp'⟩:=Option.isSome_iff_exists.1 hp
 have hs':bs[i]? =some (jg t g s l f o):=by simpa using hs
 subst hgz hq
 have:=sewL_at (places:=places) (sizes:=sizes) (ag:=ag) (cuts:=cuts) hs' (n:=n) (by show n < (o - f).toNat;omega) hp'
 rw[hp',Int.toNat_natCast]
 exact this
theorem ct_lt {gz:Lz} {q:Nat} {e:List T} (h:gz[((q:Int)).toNat]? =some e):(q:Int) < (gz.length:Int):=by
 have:=(List.getElem?_eq_some_iff.1 h).1
 omega
theorem ct_end {sizes places ag cuts bs gz:Lz} {i q:Nat} (hgz:gz=jV sizes places ag cuts bs bs.length) (hq:q=(jV sizes places ag cuts bs i).length) (hi:bs.length=i) (h:(q:Int)≠ (gz.length:Int)):False:=by
 subst hgz hi
 omega
theorem garmentlaw50_AssemblyCounts (sn:ByteArray) (bM ms ps us ss os:Lz) (ln wd rx ry:Int) (sizes places ag bs cuts:Lz) (hc:Eu cuts) (ee:cuts.length≤maxLen) (gz:Lz) (ok:Bool) (h1:Te 21 [RR sn bM ms ps us ss os ln wd rx ry sizes places ag bs cuts] [oL 5 gz,oB ok]) (hgz:ok=true→gz=jV sizes places ag cuts bs bs.length) (hL:ok=true→rB sizes places ag) (Sz:ok=true→ahE sizes places ag bs) (hR:ok=true→ ∀e,e∈bs→M9 sizes ag e) (h2:Te 13 [] [oB true]):Tg 7 [RR sn bM ms ps us ss os ln wd rx ry sizes places ag bs cuts] GTr:=by
 refine ah (n:=90) (rs:=[.tmp 2]) Tryz.func7 bk7 ck7 rfl rfl (by simp) ?_
 repeat' (conv=>whnf
          first
  |(refine az (fun h=>?_) (fun h=>?_))
  |(refine cv (fun h=>?_) (fun h=>?_))
  |(refine aB (fun h=>?_) (fun h=>?_))
  |(refine Nc hs (by omega) ?_)
  |(refine Nc (ct_get (hgz (nh (by assumption))) hs (by omega) hq3 ((hb yD hg1 (by omega) (by omega)).symm.trans (nh (by assumption)))) (by omega) ?_)
  |(refine ap (xs:=bs) (hR (nh (by assumption))) (by omega) (by omega) ?_;rintro _ ⟨t,g,s,l,f,o,rfl,⟨yD,hg1⟩,hf0,hfo,hop⟩ hs)
  |(refine And.intro (by kernel_rfl) ?_)
  |(refine ai rfl (h1) ?_;rintro _ rfl)
  |(refine ai rfl (h2) ?_;rintro _ rfl)
  |(refine au rfl (De sn bM ms ps us ss os ln wd rx ry sizes places ag (hL (nh (by assumption))) cuts hc ee g (f+(n:Int))) ?_;rintro _ ⟨b,rfl,hb⟩)
  |exact g1 rfl rfl rfl
  |exact(ct_end (hgz (nh (by assumption))) hq (by omega) (by assumption)).elim
  |(exfalso;have hlt:=ct_lt (ct_get (hgz (nh (by assumption))) hs (by omega) hq3 ((hb yD hg1 (by omega) (by omega)).symm.trans (nh (by assumption))));omega)
  |(apply bc [1,3,5,6,7] [] [5,7] [(4,16)] (RCo2 (csT sn bM ms ps us ss os ln wd rx ry sizes places ag bs cuts) sizes places ag cuts bs i (jg t g s l f o) f o) ((o - f).toNat) [iV .i64 (q:Int),iV .i64 f];(conv=>whnf);exact⟨rfl,rfl,rfl,rfl⟩;exact rfl;exact rfl;exact .cons (aL.aF (xs:=[csT sn bM ms ps us ss os ln wd rx ry sizes places ag bs cuts]) rfl _) .nil;exact⟨0,q,by omega,by omega,by simp,rfl,by simp[lI,hq],by omega⟩;rintro _ _ _ ⟨n,q2,hn,rfl,rfl,rfl,hq3,hq4⟩)
  |(refine aq [1,3,5,6,7] [] ?_;(conv=>whnf);first|exact⟨rfl,_,[_,_],_, .cons (aL.aF (xs:=[csT sn bM ms ps us ss os ln wd rx ry sizes places ag bs cuts]) rfl _) .nil,RCo2.skip (by omega) hf0 (by have:=(Sz (nh (by assumption))).p;omega) hq3 hq4 ((hb yD hg1 (by omega) (by omega)).symm.trans (JY (by assumption))),rfl,rfl,by omega⟩|exact⟨rfl,_,[_,_],_, .cons (aL.aF (xs:=[csT sn bM ms ps us ss os ln wd rx ry sizes places ag bs cuts]) rfl _) .nil,RCo2.hit (by omega) hf0 (by have:=(Sz (nh (by assumption))).p;omega) (by have:=(Sz (nh (by assumption))).b;omega) hq3 hq4 ((hb yD hg1 (by omega) (by omega)).symm.trans (nh (by assumption))),rfl,rfl,by omega⟩)
  |(apply bc [1,3,5,6] [] [5,6] [(4,16)] (RCo1 (csT sn bM ms ps us ss os ln wd rx ry sizes places ag bs cuts) sizes places ag cuts bs) (bs.length) [iV .i64 0,iV .i64 0];(conv=>whnf);exact⟨rfl,rfl,rfl,rfl⟩;exact rfl;exact rfl;exact .cons (aL.aF (xs:=[csT sn bM ms ps us ss os ln wd rx ry sizes places ag bs cuts]) rfl _) .nil;exact⟨0,0,by omega,rfl,rfl,rfl,rfl,by omega⟩;rintro _ _ _ ⟨i,q,hi,rfl,rfl,rfl,hq,hq2⟩)
  |(refine aq [1,3,5,6] [] ?_;(conv=>whnf);exact⟨rfl,_,[_,_],_, .cons (aL.aF (xs:=[csT sn bM ms ps us ss os ln wd rx ry sizes places ag bs cuts]) rfl _) .nil,RCo1.next (by omega) (Sz (nh (by assumption))).b (Sz (nh (by assumption))).p hop hf0 hs (n:=n) (by omega) hq3 hq4,rfl,rfl,by omega⟩))
 all_goals (conv=>whnf)
theorem law_counts (hw:aD1) {x:List T} (h:iO YB x):Fn Tryz.prog 7 [.agg (x.map .t)] [] (bV true) []:=by
 obtain⟨sn,bM,ms,ps,us,ss,os,ln,wd,rx,ry,sizes,places,ag,bs,cuts,rfl,hok,hc,ee⟩:=ajF h
 obtain⟨b0,e0,h0,ef⟩:=ajE sn bM ms ps us ss os ln wd rx ry sizes places ag bs hok
 obtain⟨⟨ts,f,i,gz,rfl,hgz⟩,_⟩:=ef cuts hc ee
 obtain⟨ts,f,_,rfl⟩:=garmentlaw50_AssemblyCounts sn bM ms ps us ss os ln wd rx ry sizes places ag bs cuts hc ee gz _ ⟨_,f,i,rfl⟩ hgz (fun h=>(h0 (aAi h).1).1) (fun h=>(h0 (aAi h).1).2.1) (fun h=>O7 hok.hb ((h0 (aAi h).1).2.2 (Da (aAi h).2.2).1)) hw
 exact f
end Go.aU.Cd
end
section
namespace Go.Proofs.YtlhffnnmmbannaaGreat
open Go.ChangeShapes Go.WideShapes Go.ChangeAt Go.RowKit
set_option maxRecDepth 100000
theorem cf7_inPlace:(Rows.assemblyCountsRow.inPlace==Tryz.prog.inPlace 7)=true:=by kernel_rfl
theorem cf7_unf:(Rows.assemblyCountsRow.unfollowed==Tryz.prog.unfollowed 7)=true:=by kernel_rfl
theorem cf7_rec:(Rows.assemblyCountsRow.recurses==Tryz.prog.recurses 7)=true:=by kernel_rfl
theorem cf7_named:(Rows.assemblyCountsRow.named==Tryz.prog.varsNamed 7)=true:=by kernel_rfl
theorem cf7_a:(Rows.assemblyCountsRow.wf (OpenSpec.ofChange Rows.assemblyCountsSpec)&&laidOutB Tryz.prog&&mapsRowed Tryz.prog&&Tryz.f7.params.all (Tryz.prog.readableRec ·)&&namedTie Tryz.prog Rows.assemblyCountsRow.named Rows.assemblyCountsSpec.vars&& (Rows.assemblyCountsRow.stops== [])&& (Tryz.prog.stops== [])&& (Rows.assemblyCountsRow.knobs== [])&& (Tryz.prog.stopKnobs== []))=true:=by kernel_rfl
theorem cf7_all:joinedFacts Tryz.prog 7 Tryz.f7 Rows.assemblyCountsSpec Rows.assemblyCountsRow=true:=by
 unfold joinedFacts
 rw[cf7_a,cf7_inPlace,cf7_unf,cf7_rec,cf7_named]
 kernel_rfl
end Go.Proofs.YtlhffnnmmbannaaGreat
end
section
namespace Go.Proofs.YtlhffnnmmbannaaGreat
open Go.aU Go.ChangeShapes Go.WideShapes Go.ChangeAt Go.RowKit
theorem Tryz.own:ownKnob Tryz.prog.godebug=none:=by kernel_rfl
theorem Tryz.laidOut:laidOutB Tryz.prog=true:=by kernel_rfl
def case0:Value:= .agg #[.string ⟨#[]⟩, .slice none 0 0, .slice none 0 0, .slice none 0 0, .slice none 0 0, .slice none 0 0, .slice none 0 0, .int .i64 0, .int .i64 0, .int .i64 0, .int .i64 0, .slice none 0 0, .slice none 0 0, .slice none 0 0, .slice none 0 0, .slice none 0 0]
set_option maxRecDepth 100000 in
theorem fct_lifted (hFn: ∀us,Typed Tryz.prog 12 Tryz.f7.params.toList us→aU.Fn Tryz.prog 7 us [] (.w (.one (.t (.val (.bool true))))) []) (os:Os) (started:os.Started) (H:Type) (enc:TypeId×Value→H):
 ReturnsInHanded {} Tryz.checked os 7 .any (Rows.assemblyCountsSpec.pre6 enc Tryz.prog Tryz.f7 Rows.assemblyCountsRow.domain false) (Rows.assemblyCountsSpec.post enc Tryz.prog Tryz.f7 false true false false):=by
 refine returnsInHanded_of_change (C:=Tryz.checked) Tryz.own started (by kernel_rfl) Tryz.func7
  (ChangeSpec.witness6 (enc:=enc) (C:=Tryz.checked) false ⟨#[], #[case0],[]⟩ 8 (by kernel_rfl) (by kernel_rfl) (by kernel_rfl) (by kernel_rfl)) ?_
 intro W base args ds gs before hval hW _ _
 refine P2 (P:=Tryz.prog) (d:=11) (s:=Rows.assemblyCountsSpec) Tryz.laidOut rfl (by kernel_rfl) Tryz.underlying4 ?_ ?_ ?_ hFn hval (fun g vs hg=>by simp[Cr,No]at hg) hW
 · intro ds hds
   rw[Tryz.params7]at hds
   match ds,hds with
   | [a],_=>exact⟨rfl,rfl,rfl⟩
 · have:(Tryz.f7.params.toList.all fun t=>gZ Tryz.prog 12 t)=true:=by kernel_rfl
   exact List.all_eq_true.1 this
 · have:(Tryz.f7.params.toList.all fun t=>Tryz.prog.readableRec t&&decide (t < Tryz.prog.types.size))=true:=by kernel_rfl
   intro t ht
   have:=List.all_eq_true.1 this t ht
   simpa using this
theorem fct_named:Tryz.pinned.checked.prog.funcNamed Rows.assemblyCountsRow.func=some 7:=by kernel_rfl
theorem fct_inst:Tryz.f7.isInstance Tryz.pinned.checked.prog Rows.assemblyCountsRow.origin Rows.assemblyCountsRow.targs:=of_decide_eq_true (by kernel_rfl)
theorem fct_wrap:Tryz.f7.isWrapper Tryz.pinned.checked.prog Rows.assemblyCountsRow.wrapper Rows.assemblyCountsRow.mainSum:=by
 unfold Func.isWrapper;first|(rw[if_pos (by decide+kernel)];kernel_rfl)|(rw[if_neg (by decide+kernel)];exact⟨rfl,rfl⟩)
theorem fct_over (hFn: ∀us,Typed Tryz.prog 12 Tryz.f7.params.toList us→aU.Fn Tryz.prog 7 us [] (.w (.one (.t (.val (.bool true))))) []):Rows.AssemblyCountsSaid:=
 OpenClaim.holds_of_wide 7 Tryz.f7 rfl rfl rfl rfl rfl rfl rfl ⟨rfl,rfl,rfl,rfl,rfl⟩ rfl rfl rfl rfl rfl fct_named Tryz.func7 cf7_all fct_inst fct_wrap
  (fun os started H enc _=>fct_lifted hFn os started H enc)
end Go.Proofs.YtlhffnnmmbannaaGreat
end
