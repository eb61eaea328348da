import Derived.Test.YtcaeamnhfodfoaaGreatKB
set_option linter.all false
section
namespace Go.aS
open Go
variable {P:Program} {M A:Nat→Prop} {ρ:Env} {F:Nat→Prop} {st:St} {a:Act} {w:World}
def G1 (hin:HS):C→Bool
 | .t _=>true
 | .own id .. =>(find hin id).isSome
 | .ptr id .. =>(find hin id).isSome
 | .jY _ cZ=>cZ.all fun p=>(find hin p.1).isSome
 |_=>false
def SC (hin:HS):W→Bool
 | .one c=>G1 hin c
 | .agg cs=>cs.all (G1 hin)
def pX:HS→HS
 | []=>[]
 |p::r=>if p.1 < 4 then pX r else p::pX r
theorem lG: ∀ {hp:HS} {k:Nat} {b:bi},find (pX hp) k=some b→¬k < 4∧find hp k=some b
 | [],k,b,h=>by simp[pX,find]at h
 |(q,c)::r,k,b,h=>by
  simp only[pX]at h
  split at h
  · rename_i hq
    obtain⟨h1,h2⟩:=lG h
    have hne:¬q=k:=fun e=>by subst e;exact h1 hq
    exact⟨h1,by rw[aq,if_neg hne];exact h2⟩
  · rename_i hq
    rw[aq]at h⊢
    split at h
    · rename_i e
      subst e
      exact⟨hq,by rw[if_pos rfl];exact h⟩
    · rename_i e
      obtain⟨h1,h2⟩:=lG h
      exact⟨h1,by rw[if_neg e];exact h2⟩
def yJ (hin hp:HS) (u:W):Option W:=if SC hin u=true then some u else bB (pX hp) u
def Ij (hin:HS):bi→Prop
 | .row _ xs=> ∀e,e∈xs→ ∀c,c∈e→G1 hin c=true
 | .mp _ _=>False
def kp (hin hp hout:HS):Prop:=
 (∀k b,find hin k=some b→k < 4∧ ∃b',find hp k=some b')∧ ∀k blk,find hout k=some blk→find hp k=some blk∧(find hin k).isSome=true∧Ij hin blk
def Ob (P:Program) (rs:List ResultVar) (hin:HS) (Good:List W→HS→Prop):Exit→TS→HS→Nat→Prop
 | .normal,tm,hp,_| .ret,tm,hp,_=> ∃us ts hout,aM P hp tm rs=some us∧bu (yJ hin hp) us=some ts∧kp hin hp hout∧Good ts hout
 |_,_,_,_=>False
theorem gH {Tb:Tables} [ni P Tb] {f:FuncId} {fn:Func} {r:Rc} {args:List W} {n:Nat} {rs:List ResultVar} {hin:HS} {Good:List W→HS→Prop} (hf:P.funcs[f]? =some fn) (h:X P n r (Ob P rs hin Good) (dc 0 args) hin 4)
 (hi:NG Tb fn=some (n,rs,r):=by conv=>lhs;cbv) (hl:args.length≤n:=by simp): ∃ts hout,Fn P f args hin (aQ ts) hout∧Good ts hout:=by
 obtain⟨c,hb,hr,hn,eA⟩:=zC (P:=P) hi
 subst hn
 subst eA
 obtain⟨e,st',c',⟨hn',hq⟩,hw⟩:=X.LK hr h
 obtain⟨n',bf,aF⟩:=st'
 simp only at hn' hq
 subst hn'
 have main: ∀us ts hout,rR e→aM P aF bf fn.results.toList=some us→bu (yJ hin aF) us=some ts→kp hin aF hout→Good ts hout→ ∃ts hout,Fn P f args hin (aQ ts) hout∧Good ts hout:=by
  intro vs ts hout he fR hts Lt hg
  refine⟨ts,hout,?_,hg⟩
  · intro w A ρ xs hH hxs
    refine calls_of_wp hf hb ?_
    have hl':args.length=xs.size:=by simpa using hxs.1
    have cE:Rel (fun b=>o7 ρ hin b∨w.heap.size≤b) A ρ (bt 4) ⟨fn.ntmps,dc 0 args,hin⟩ {tmps:=xs++Array.replicate (fn.ntmps - xs.size) undef,defers:=[]} w:=by
     refine⟨by simp;omega,rfl,fun t v hv=>?_,hH.heap,hH.inj,hH.fresh,hH.bound,hH.may,hH.dX⟩
     obtain⟨_,u,hu,rfl⟩:=eG _ _ _ _ hv
     simp only[Nat.sub_zero]at hu
     have ht:t < xs.size:=by rw[←hl'];exact(List.getElem?_eq_some_iff.1 hu).1
     have zg:xs.toList[t]? =some xs[t]:=by simp[ht]
     have:=hxs.2 t u _ hu zg
     have e:(xs++Array.replicate (fn.ntmps - xs.size) undef).getD t undef=xs[t]:=by simp[Array.getD_eq_getD_getElem?,Array.getElem?_append_left ht,ht]
     rw[e]
     exact this
    refine wp_mono (hw _ A ρ _ w cE) ?_
    rintro e2 a' w' ⟨st2,c2,A',ρ',⟨rfl,rfl,rfl⟩,dr,dJ,cF,OW⟩
    have jf:bE A A' w:=by
     refine⟨fun b hA=>?_,OW.2⟩
     by_cases hM:o7 ρ hin b∨w.heap.size≤b
     · rcases hM with⟨id,blk,hf,hρ⟩|hs
       · obtain⟨h4,b',hb'⟩:=Lt.1 id blk hf
         exact((dr.heap id b' hb').lt (cF id _ h4 hρ)).2.2
       · have:=hH.bound b hA
         omega
     · exact OW.1 b hA hM
    obtain⟨ws,hvs,hR⟩:=ey dr fR
    have hm:(fn.results.mapM fun(r:ResultVar)=>match r with
     | .tmp t=>(pure (a'.tmps.getD t undef):Sem Value)
     | .cell b t=>do loadVar t (←asAddr (a'.tmps.getD b undef))).run P w'= .ok ws.toArray w':=by
     rw[Array.mapM_eq_mapM_toList]
     simp only[Sem.run_map]
     exact(congrArg (fun r:Result (List Value)=>Result.andThen r fun a w'=>Result.ok a.toArray w') hvs).trans rfl
    have hrun:(results fn a'.tmps).run P w'= .ok (if h:ws.toArray.size=1 then ws.toArray[0]else .tuple ws.toArray) w':=by
     show(Bind.bind (fn.results.mapM fun(r:ResultVar)=>match r with
      | .tmp t=>(pure (a'.tmps.getD t undef):Sem Value)
      | .cell b t=>do loadVar t (←asAddr (a'.tmps.getD b undef))) fun vs=>Pure.pure (if h:vs.size=1 then vs[0]else .tuple vs)).run P w'=_
     rw[Sem.run_bind,hm]
     rfl
    have JQ: ∀k b,find hin k=some b→ ∃l,ρ k=some l∧ρ' k=some l:=by
     intro k b hk
     obtain⟨l,hl⟩:=(hH.heap k b hk).some
     exact⟨l,hl,cF k l (Lt.1 k b hk).1 hl⟩
    have SX:=Rel.forget dr (st':=⟨fn.ntmps,bf,pX aF⟩) rfl (fun _ _ h=>h) (fun id b h=>(lG h).2)
    have hB: ∀id blk b,find (pX aF) id=some blk→ρ' id=some (.fz b)→¬A b:=by
     intro id blk b hf hρ hA
     obtain⟨bJ,hf⟩:=lG hf
     have hM:=(Rel.own dr hf hρ).1
     rcases hM with⟨id',fp,me,hρ'⟩|hM
     · obtain⟨h4,b',hb'⟩:=Lt.1 id' fp me
       have:=dr.inj id id' blk b' b hf hb' hρ (cF id' _ h4 hρ')
       omega
     · have:=hH.bound b hA
       omega
    have cell: ∀ {c:C} {y:Value},G1 hin c=true→RC w' A' ρ' c y→RC w' A ρ c y:=by
     intro c y hc hy
     cases c with
     |t x=>exact RT.keeps (w:=w') ⟨Nat.le_refl _,fun b _ hn=>⟨rfl,fun hb=>hn (jf.1 b hb)⟩⟩ hy
     |own id sz i len=>
      simp only[G1]at hc
      obtain⟨b0,hb0⟩:=Option.isSome_iff_exists.1 hc
      obtain⟨l,h1,h2⟩:=JQ id b0 hb0
      rcases hy with⟨b,cap,q,e,k1,k2⟩|⟨k1,k2⟩
      · rw[h2]at k1;exact .inl ⟨b,cap,q,e,by rw[h1];exact k1,k2⟩
      · rw[h2]at k1;exact .inr ⟨by rw[h1];exact k1,k2⟩
     |ptr id sz i j=>
      simp only[G1]at hc
      obtain⟨b0,hb0⟩:=Option.isSome_iff_exists.1 hc
      obtain⟨l,h1,h2⟩:=JQ id b0 hb0
      obtain⟨b,k1,k2⟩:=hy
      rw[h2]at k1
      exact⟨b,by rw[h1];exact k1,k2⟩
     |jY f cZ=>
      simp only[G1,List.all_eq_true]at hc
      obtain⟨vs,k1,k2,k3⟩:=hy
      refine⟨vs,k1,k2,fun k id sz i j x h1 h2=>?_⟩
      obtain⟨b0,hb0⟩:=Option.isSome_iff_exists.1 (hc _ (List.mem_of_getElem? h1))
      obtain⟨l,g1,g2⟩:=JQ id b0 hb0
      obtain⟨b,p1,p2⟩:=k3 k id sz i j x h1 h2
      rw[g2]at p1
      exact⟨b,by rw[g1];exact p1,p2⟩
     |_=>simp[G1]at hc
    have hheap: ∀id blk,find hout id=some blk→HB w' (fun b=>o7 ρ hin b∨w.heap.size≤b) A ρ id blk:=by
     intro id blk hf
     obtain⟨me,Cw,hrow⟩:=Lt.2 id blk hf
     obtain⟨b0,hb0⟩:=Option.isSome_iff_exists.1 Cw
     obtain⟨l,h1,h2⟩:=JQ id b0 hb0
     have U1:=dr.heap id blk me
     cases blk with
     |row sz ys=>
      obtain⟨q1,q2⟩:=U1
      refine⟨q1,?_⟩
      rcases q2 with⟨b,c,e,k1,k2,k3,k4,k5,k6⟩|⟨k1,k2⟩
      · rw[h2]at k1
        refine .inl ⟨b,c,e,by rw[h1];exact k1,k2,((hH.heap id b0 hb0).lt (by rw[h1];exact k1)).2.2,k4,k5,fun i el j q hi hj=>?_⟩
        obtain⟨y,hy,rT,qN⟩:=k6 i el j q hi hj
        exact⟨y,hy,cell (hrow el (List.mem_of_getElem? hi) q (List.mem_of_getElem? hj)) rT,qN⟩
      · rw[h2]at k1
        exact .inr ⟨by rw[h1];exact k1,k2⟩
     |mp es clock=>exact hrow.elim
    have hlen:=fF hts
    have one: ∀ (k:Nat) (u:W) (y:Value),ts[k]? =some u→(∀v,vs[k]? =some v→RW w' A' ρ' v y)→RW w' A ρ u y:=by
     intro k u y hu hv
     obtain⟨v,jT,E4⟩:=dU hts k u hu
     unfold yJ at E4
     split at E4
     · rename_i Cw
       simp only[Option.some.injEq]at E4
       subst E4
       have Xz:=hv v jT
       cases v with
       |one c=>exact⟨cell Cw Xz.1,Xz.2⟩
       |agg cs=>
        obtain⟨vs',g1,g2,g3⟩:=Xz
        exact⟨vs',g1,g2,fun k c x hc hx=>⟨cell (List.all_eq_true.1 Cw c (List.mem_of_getElem? hc)) (g3 k c x hc hx).1,(g3 k c x hc hx).2⟩⟩
     · exact fT SX (fun b hb=>jf.1 b hb) hB E4 (hv v jT) ρ
    have fin:a'.defers=[]∧ ∃v,(results fn a'.tmps).run P w'= .ok v w'∧ ∃x A' ρ' F',Ending.returned v= .returned x∧RV w' A' ρ' (aQ ts) x∧HR (fun b=>o7 ρ hin b∨w.heap.size≤b) A' ρ' F' hout w'∧
     df (fun b=>o7 ρ hin b∨w.heap.size≤b) w w'∧iJ ρ ρ'∧bE A A' w:=by
     refine⟨dr.defers,_,hrun,_,A,ρ,bt 4,rfl,?_,⟨rfl,rfl,fun t v hv=>by simp[find]at hv,hheap,fun id id' b b' q h1 h2 r1 r2=>by obtain⟨g1,e1,_⟩:=Lt.2 id b h1;obtain⟨g2,e2,_⟩:=Lt.2 id' b' h2;obtain⟨c1,d1⟩:=Option.isSome_iff_exists.1 e1;obtain⟨c2,d2⟩:=Option.isSome_iff_exists.1 e2;exact dr.inj id id' b b' q g1 g2 (cF id _ (Lt.1 id c1 d1).1 r1) (cF id' _ (Lt.1 id' c2 d2).1 r2),hH.fresh,fun b hb=>Nat.lt_of_lt_of_le (hH.bound b hb) dJ.size,fun b hb=> .inr (Nat.le_trans dJ.size hb),hH.dX.Fk dJ (fun _ _ h=>h)⟩,dJ,iJ.refl _,bE.refl _ _⟩
     match vs,ws,ts,hR,hlen,one with
     | [],[],[],_,_,_=>exact⟨#[],by simp,rfl,by simp⟩
     | [u],[v],[t],hR,_,one=>exact one 0 t v rfl (fun v' jT=>by simp only[List.getElem?_cons_zero,Option.some.injEq]at jT;subst jT;exact hR.2 0 u v rfl rfl)
     |u::u2::r,v::v2::s,t::t2::q,hR,hlen,one=>
      have hne:¬ (v::v2::s).toArray.size=1:=by simp
      simp only[hne,dite_false]
      refine⟨_,rfl,?_,fun k x y hx hy=>one k x y hx (fun v' jT=>hR.2 k v' y jT (by simpa using hy))⟩
      have:=hR.1
      simp at this hlen⊢
      omega
     | [],_::_,_,hR,_,_=>exact absurd hR.1 (by simp)
     |_::_,[],_,hR,_,_=>exact absurd hR.1 (by simp)
     | [_],_::_::_,_,hR,_,_=>exact absurd hR.1 (by simp)
     |_::_::_,[_],_,hR,_,_=>exact absurd hR.1 (by simp)
     | [],[],_::_,_,hlen,_=>simp at hlen
     | [_],[_],[],_,hlen,_=>simp at hlen
     | [_],[_],_::_::_,_,hlen,_=>simp at hlen
     |_::_::_,_::_::_,[],_,hlen,_=>simp at hlen
     |_::_::_,_::_::_,[_],_,hlen,_=>simp at hlen
    rcases he with rfl|rfl
    · exact fin
    · exact fin
 cases e with
 |normal=>obtain⟨us,ts,hout,h1,h2,h3,h4⟩:=hq;exact main us ts hout (.inl rfl) h1 h2 h3 h4
 |ret=>obtain⟨us,ts,hout,h1,h2,h3,h4⟩:=hq;exact main us ts hout (.inr rfl) h1 h2 h3 h4
 |_=>exact hq.elim
def Oc (P:Program) (rs:List ResultVar) (Good:List W→HS→Prop):Exit→TS→HS→Nat→Prop
 | .normal,tm,hp,_| .ret,tm,hp,_=> ∃us ids,aM P hp tm rs=some us∧(ids.length≤4∧ids.Nodup)∧Good (us.map (W.ak (bz ids))) (cJ (bz ids) hp 0 ids)
 |_,_,_,_=>False
theorem vq {Tb:Tables} [ni P Tb] {f:FuncId} {fn:Func} {r:Rc} {args:List W} {n:Nat} {rs:List ResultVar} {Good:List W→HS→Prop} (hf:P.funcs[f]? =some fn) (h:X P n r (Oc P rs Good) (dc 0 args) [] 4)
 (hi:NG Tb fn=some (n,rs,r):=by conv=>lhs;cbv) (hl:args.length≤n:=by simp): ∃ts hout,Ab P f args (aQ ts) hout∧Good ts hout:=by
 obtain⟨c,hb,hr,hn,eA⟩:=zC (P:=P) hi
 subst hn
 subst eA
 obtain⟨e,st',c',⟨hn',hq⟩,hw⟩:=X.LK hr h
 obtain⟨n',bf,aF⟩:=st'
 simp only at hn' hq
 subst hn'
 have main: ∀us ids,rR e→aM P aF bf fn.results.toList=some us→(ids.length≤4∧ids.Nodup)→Good (us.map (W.ak (bz ids))) (cJ (bz ids) aF 0 ids)→ ∃ts hout,Ab P f args (aQ ts) hout∧Good ts hout:=by
  intro vs ids he fR Ym hg
  obtain⟨aeN,E0⟩:=Ym
  refine⟨_,_,?_,hg⟩
  intro w A xs hH hxs
  refine calls_of_wp hf hb ?_
  have hl':args.length=xs.size:=by simpa using hxs.1
  have cE:Rel (fun b=>o7 (fun _=>none) [] b∨w.heap.size≤b) A (fun _=>none) (bt 4) ⟨fn.ntmps,dc 0 args,[]⟩ {tmps:=xs++Array.replicate (fn.ntmps - xs.size) undef,defers:=[]} w:=by
   refine⟨by simp;omega,rfl,fun t v hv=>?_,hH.heap,hH.inj,hH.fresh,hH.bound,hH.may,hH.dX⟩
   obtain⟨_,u,hu,rfl⟩:=eG _ _ _ _ hv
   simp only[Nat.sub_zero]at hu
   have ht:t < xs.size:=by rw[←hl'];exact(List.getElem?_eq_some_iff.1 hu).1
   have zg:xs.toList[t]? =some xs[t]:=by simp[ht]
   have:=hxs.2 t u _ hu zg
   have e:(xs++Array.replicate (fn.ntmps - xs.size) undef).getD t undef=xs[t]:=by simp[Array.getD_eq_getD_getElem?,Array.getElem?_append_left ht,ht]
   rw[e]
   exact this
  refine wp_mono (hw _ A _ _ w cE) ?_
  rintro e2 a' w' ⟨st2,c2,A',ρ',⟨rfl,rfl,rfl⟩,dr,dJ,cF,OW⟩
  have jf:=xP hH.bound OW
  obtain⟨ws,hvs,hR⟩:=ey dr fR
  have hm:(fn.results.mapM fun(r:ResultVar)=>match r with
   | .tmp t=>(pure (a'.tmps.getD t undef):Sem Value)
   | .cell b t=>do loadVar t (←asAddr (a'.tmps.getD b undef))).run P w'= .ok ws.toArray w':=by
   rw[Array.mapM_eq_mapM_toList]
   simp only[Sem.run_map]
   exact(congrArg (fun r:Result (List Value)=>Result.andThen r fun a w'=>Result.ok a.toArray w') hvs).trans rfl
  have hrun:(results fn a'.tmps).run P w'= .ok (if h:ws.toArray.size=1 then ws.toArray[0]else .tuple ws.toArray) w':=by
   show(Bind.bind (fn.results.mapM fun(r:ResultVar)=>match r with
    | .tmp t=>(pure (a'.tmps.getD t undef):Sem Value)
    | .cell b t=>do loadVar t (←asAddr (a'.tmps.getD b undef))) fun vs=>Pure.pure (if h:vs.size=1 then vs[0]else .tuple vs)).run P w'=_
   rw[Sem.run_bind,hm]
   rfl
  let ρ2:Env:=fun j=>(ids[j]?).bind ρ'
  have hρ2: ∀id k l,bz ids id=some k→ρ' id=some l→ρ2 k=some l:=by
   intro id k l h1 h2
   simp only[ρ2,dW h1,Option.bind_some,h2]
  have hidx: ∀ {i j id:Nat},ids[i]? =some id→ids[j]? =some id→i=j:=by
   intro i j id h1 h2
   obtain⟨hi,e1⟩:=List.getElem?_eq_some_iff.1 h1
   obtain⟨hj,e2⟩:=List.getElem?_eq_some_iff.1 h2
   exact(List.getElem_inj E0).1 (e1.trans e2.symm)
  have hlen:(vs.map (W.ak (bz ids))).length=vs.length:=by simp
  have one: ∀ (k:Nat) (u:W) (y:Value),(vs.map (W.ak (bz ids)))[k]? =some u→(∀v,vs[k]? =some v→RW w' A' ρ' v y)→RW w' A' ρ2 u y:=by
   intro k u y hu hv
   simp only[List.getElem?_map,Option.map_eq_some_iff]at hu
   obtain⟨v,jT,rfl⟩:=hu
   exact(hv v jT).ak hρ2
  have fin:a'.defers=[]∧ ∃v,(results fn a'.tmps).run P w'= .ok v w'∧ ∃x A' ρ' F',Ending.returned v= .returned x∧RV w' A' ρ' (aQ (vs.map (W.ak (bz ids)))) x∧HR (fun b=>o7 (fun _=>none) [] b∨w.heap.size≤b) A' ρ' F' (cJ (bz ids) aF 0 ids) w'∧
   df (fun b=>o7 (fun _=>none) [] b∨w.heap.size≤b) w w'∧bE A A' w:=by
   refine⟨dr.defers,_,hrun,_,A',ρ2,bt 4,rfl,?_,⟨rfl,rfl,fun t v hv=>by simp[find]at hv,?_,?_,?_,dr.bound,fun b hb=> .inr (Nat.le_trans dJ.size hb),dr.dX⟩,dJ,jf⟩
   · generalize hts:vs.map (W.ak (bz ids))=ts at hlen one⊢
     clear hts
     match vs,ws,ts,hR,hlen,one with
     | [],[],[],_,_,_=>exact⟨#[],by simp,rfl,by simp⟩
     | [u],[v],[t],hR,_,one=>exact one 0 t v rfl (fun v' jT=>by simp only[List.getElem?_cons_zero,Option.some.injEq]at jT;subst jT;exact hR.2 0 u v rfl rfl)
     |u::u2::r,v::v2::s,t::t2::q,hR,hlen,one=>
      have hne:¬ (v::v2::s).toArray.size=1:=by simp
      simp only[hne,dite_false]
      refine⟨_,rfl,?_,fun k x y hx hy=>one k x y hx (fun v' jT=>hR.2 k v' y jT (by simpa using hy))⟩
      have:=hR.1
      simp at this hlen⊢
      omega
     | [],_::_,_,hR,_,_=>exact absurd hR.1 (by simp)
     |_::_,[],_,hR,_,_=>exact absurd hR.1 (by simp)
     | [_],_::_::_,_,hR,_,_=>exact absurd hR.1 (by simp)
     |_::_::_,[_],_,hR,_,_=>exact absurd hR.1 (by simp)
     | [],[],_::_,_,hlen,_=>simp at hlen
     | [_],[_],[],_,hlen,_=>simp at hlen
     | [_],[_],_::_::_,_,hlen,_=>simp at hlen
     |_::_::_,_::_::_,[],_,hlen,_=>simp at hlen
     |_::_::_,_::_::_,[_],_,hlen,_=>simp at hlen
   · intro j blk hf
     obtain⟨i,id,b',rfl,h2,h3,rfl⟩:=ca hf
     exact(dr.heap id b' h3).ak hρ2 (fun l hl=>by simp only[Nat.zero_add,ρ2,h2,Option.bind_some,hl]) (fun b _ hb=>hb)
   · intro j j' blk fp b h1 h2 r1 r2
     obtain⟨i,id,b1,rfl,h3,h4,_⟩:=ca h1
     obtain⟨i',id',b2,rfl,LB,NA,_⟩:=ca h2
     simp only[Nat.zero_add,ρ2,h3,LB,Option.bind_some]at r1 r2
     have:=dr.inj id id' b1 b2 b h4 NA r1 r2
     subst this
     rw[hidx h3 LB]
   · intro j hj
     simp only[ρ2]
     rw[List.getElem?_eq_none (by simp only[bt]at hj;omega)]
     rfl
  rcases he with rfl|rfl
  · exact fin
  · exact fin
 cases e with
 |normal=>obtain⟨us,ids,h1,h2,h3⟩:=hq;exact main us ids (.inl rfl) h1 h2 h3
 |ret=>obtain⟨us,ids,h1,h2,h3⟩:=hq;exact main us ids (.inr rfl) h1 h2 h3
 |_=>exact hq.elim
theorem CU {f:FuncId} {us:List W} {hp hout:HS} {ctr:Nat} {v:V} (hT:qe us=true) (h:Ab P f us v hout):eu P hp ctr f us (v.up ctr) (fq ctr hout++hp):=
 .inl ⟨v,hout,us,h,rfl,rfl, .inl ⟨rfl,hT⟩⟩
end Go.aS
end
section
namespace Go.aS
open Go
variable {P:Program}
def pS {α:Sort _}:TS→(TS→α)→α
 | [],k=>k []
 |p::r,k=>match p with
  |(t,v)=>rY v fun v=>pS r fun r=>k ((t,v)::r)
theorem fO {α:Sort _}: ∀ (l:TS) (k:TS→α),pS l k=k l
 | [],_=>rfl
 |(t,v)::r,k=>by simp only[pS,dN];rw[fO r]
def RG (k:Nat) (v:V):TS→TS
 | []=>[]
 |p::r=>match p with
  |(t,u)=>if t=k then(t,v)::r else(t,u)::RG k v r
def j5:List Nat→List V→TS→TS
 |k::ks,v::vs,tm=>j5 ks vs (RG k v tm)
 |_,_,tm=>tm
def Sq (x:Nat):List Nat→Bool
 | []=>false
 |y::r=>match Nat.beq x y with
  |true=>true
  |false=>Sq x r
def ru:List Nat→List Nat→List Nat
 |acc,[]=>acc
 |acc,x::r=>match Nat.blt x 4 with
  |true=>ru acc r
  |false=>match Sq x acc with
   |true=>ru acc r
   |false=>ru (acc++[x]) r
def xR {α:Sort _}:List Nat→(List Nat→α)→α
 | [],k=>k []
 |x::r,k=>qS x fun x=>xR r fun r=>k (x::r)
def zS (tm:TS):List Nat→List Nat→List Nat
 |acc,[]=>acc
 |acc,k::ks=>match find tm k with
  |some v=>xR (ru acc v.ids) fun acc=>zS tm acc ks
  |none=>zS tm acc ks
def iX (tm:TS) (hp:HS):List Nat→List (Nat×Nat)→List Nat
 |acc,[]=>acc
 |acc,(k,j)::r=>match find tm k with
  |some (.w (.one (.ptr id _ i _)))=>match find hp id with
   |some (.row _ xs)=>match xs[i]? with
    |some e=>match e[j]? with
     |some c=>xR (ru acc c.ids) fun acc=>iX tm hp acc r
     |none=>iX tm hp acc r
    |none=>iX tm hp acc r
   |_=>iX tm hp acc r
  |some (.w (.one (.own id _ i _)))=>match find hp id with
   |some (.row _ xs)=>match xs[i+j]? with
    |some (c::_)=>xR (ru acc c.ids) fun acc=>iX tm hp acc r
    |_=>iX tm hp acc r
   |_=>iX tm hp acc r
  |_=>iX tm hp acc r
def Sb:Nat→List Nat→List (Nat×Nat)
 |_,[]=>[]
 |c,x::r=>(x,c)::Sb (c+4) r
def vQ (keys:List Nat) (nest:List (Nat×Nat)) (tm:TS) (hp:HS):Ren:=
 xR (zS tm [] keys) fun l0=>xR (iX tm hp l0 nest) fun l=>⟨keys,Sb 4 l,4+4 * l.length⟩
def DN {α:Sort _}:List (Nat×Nat)→(List (Nat×Nat)→α)→α
 | [],k=>k []
 |p::r,k=>match p with
  |(a,b)=>qS a fun a=>qS b fun b=>DN r fun r=>k ((a,b)::r)
theorem Bc {α:Sort _}: ∀ (l:List (Nat×Nat)) (k:List (Nat×Nat)→α),DN l k=k l
 | [],_=>rfl
 |(a,b)::r,k=>by simp only[DN,iy];rw[Bc r]
def Bb {α:Sort _} (S:Ren) (k:Ren→α):α:=
 match S with
 |⟨keys,ids,ctr⟩=>DN ids fun ids=>qS ctr fun ctr=>k ⟨keys,ids,ctr⟩
theorem nx {α:Sort _} (S:Ren) (k:Ren→α):Bb S k=k S:=by cases S;simp only[Bb,Bc,iy]
def qT {α:Sort _}:HS→(HS→α)→α
 | [],k=>k []
 |p::r,k=>match p with
  |(t, .row sz xs)=>qT r fun r=>k ((t, .row sz xs)::r)
  |(t, .mp es c)=>qT r fun r=>k ((t, .mp es c)::r)
theorem iz {α:Sort _}: ∀ (l:HS) (k:HS→α),qT l k=k l
 | [],_=>rfl
 |(t, .row _ _)::r,k=>by simp only[qT];rw[iz r]
 |(t, .mp _ _)::r,k=>by simp only[qT];rw[iz r]
theorem aL {n:Nat} {b:Rc} {Q:Exit→TS→HS→Nat→Prop} {tm:TS} {hp:HS} {ctr:Nat} (keys:List Nat) (nest:List (Nat×Nat)) (ks:List Nat) (R:Nat→List V→Prop) (m0:Nat) (ym:List V) {lc:TS} {UP:HS} {cB:Nat}
 (hB:Bb (vQ keys nest tm hp) fun S=>pS (S.tm tm) fun t=>qT (S.hp hp) fun q=>S.ok=true∧t=lc∧q=UP∧S.ctr=cB)
 (D4:lc.length=keys.length) (h0:lc=j5 ks ym lc) (J0:R m0 ym)
 (hstep: ∀m vs,R m vs→pS (j5 ks vs lc) fun nF=>X P n b (gU (bM fun bf aF c'=> ∃m' vs',R m' vs'∧bf=j5 ks vs' lc∧aF=UP∧c'=cB∧m' < m) Q) nF UP cB):
 ∃I:Nat→TS→HS→Nat→Prop,bM (fun tm hp c=> ∃m,I m tm hp c) tm hp ctr∧
  ∀m tm hp c,I m tm hp c→X P n b (gU (bM fun tm hp c=> ∃m',m' < m∧I m' tm hp c) Q) tm hp c:=by
 rw[nx,fO,iz]at hB
 obtain⟨hS,e1,e2,e3⟩:=hB
 refine⟨fun m bf aF c'=> ∃vs',R m vs'∧bf=j5 ks vs' lc∧aF=UP∧c'=cB,bM.mk' ⟨vQ keys nest tm hp,hS,m0,ym,J0,e1.trans h0,e2,e3⟩,?_⟩
 rintro m bf hq c' ⟨vs,hR,rfl,rfl,rfl⟩
 have:=hstep m vs hR
 rw[fO]at this
 refine(congrArg (fun J=>X P n b (gU (bM J) Q) _ _ _) ?_).mp this
 funext bf aF Vc
 exact propext ⟨fun⟨m',vs',h1,h2,h3,h4,h5⟩=>⟨m',h5,vs',h1,h2,h3,h4⟩,fun⟨m',h5,vs',h1,h2,h3,h4⟩=>⟨m',vs',h1,h2,h3,h4,h5⟩⟩
theorem bW {n:Nat} {b:Rc} {Q:Exit→TS→HS→Nat→Prop} {tm:TS} {hp:HS} {ctr:Nat} (keys:List Nat) (nest:List (Nat×Nat)) (ks:List Nat) (R:Nat→List V→HS→Prop) (m0:Nat) (ym:List V) {lc:TS} {o6:HS} {cB:Nat}
 (hB:Bb (vQ keys nest tm hp) fun S=>pS (S.tm tm) fun t=>qT (S.hp hp) fun q=>S.ok=true∧t=lc∧q=o6∧S.ctr=cB)
 (D4:lc.length=keys.length) (h0:lc=j5 ks ym lc) (J0:R m0 ym o6)
 (hstep: ∀m vs hq,R m vs hq→pS (j5 ks vs lc) fun nF=>X P n b (gU (bM fun bf aF c'=> ∃m' vs',R m' vs' aF∧bf=j5 ks vs' lc∧c'=cB∧m' < m) Q) nF hq cB):
 ∃I:Nat→TS→HS→Nat→Prop,bM (fun tm hp c=> ∃m,I m tm hp c) tm hp ctr∧
  ∀m tm hp c,I m tm hp c→X P n b (gU (bM fun tm hp c=> ∃m',m' < m∧I m' tm hp c) Q) tm hp c:=by
 rw[nx,fO,iz]at hB
 obtain⟨hS,e1,e2,e3⟩:=hB
 refine⟨fun m bf aF c'=> ∃vs',R m vs' aF∧bf=j5 ks vs' lc∧c'=cB,bM.mk' ⟨vQ keys nest tm hp,hS,m0,ym,by rw[e2];exact J0,e1.trans h0,e3⟩,?_⟩
 rintro m bf hq c' ⟨vs,hR,rfl,rfl⟩
 have:=hstep m vs hq hR
 rw[fO]at this
 refine(congrArg (fun J=>X P n b (gU (bM J) Q) _ _ _) ?_).mp this
 funext bf aF Vc
 exact propext ⟨fun⟨m',vs',h1,h2,h4,h5⟩=>⟨m',h5,vs',h1,h2,h4⟩,fun⟨m',h5,vs',h1,h2,h4⟩=>⟨m',vs',h1,h2,h4,h5⟩⟩
def kq (Pd:List T→Prop) (rows:List (List C)):Prop:= ∀r,r∈rows→ ∃e,r=e.map .t∧Pd e
theorem DB (e:List T) (f:Nat→Option Nat):(e.map C.t).map (C.ak f)=e.map C.t:=by
 rw[List.map_map]
 rfl
theorem kq.ak {Pd:List T→Prop} {rows:List (List C)} (h:kq Pd rows) (f:Nat→Option Nat):kq Pd (rows.map fun e=>e.map (C.ak f)):=by
 intro r hr
 simp only[List.mem_map]at hr
 obtain⟨r',dr,rfl⟩:=hr
 obtain⟨e,rfl,he⟩:=h r' dr
 exact⟨e,DB e f,he⟩
theorem kq.set {Pd:List T→Prop} {rows:List (List C)} (h:kq Pd rows) {i:Nat} {e:List T} (he:Pd e):kq Pd (rows.set i (e.map .t)):=by
 intro r hr
 rcases List.mem_or_eq_of_mem_set hr with hr|rfl
 · exact h r hr
 · exact⟨e,rfl,he⟩
theorem kq.snoc {Pd:List T→Prop} {rows:List (List C)} (h:kq Pd rows) {e:List T} (he:Pd e):kq Pd (rows++[e.map .t]):=by
 intro r hr
 simp only[List.mem_append,List.mem_singleton]at hr
 rcases hr with hr|rfl
 · exact h r hr
 · exact⟨e,rfl,he⟩
theorem kq.replicate {Pd:List T→Prop} {n:Nat} {e:List T} (he:Pd e):kq Pd (List.replicate n (e.map .t)):=by
 intro r hr
 obtain⟨_,rfl⟩:=List.mem_replicate.1 hr
 exact⟨e,rfl,he⟩
theorem Da {Pd:List T→Prop} {rows:List (List C)} {i:Nat} {K:List C→Prop} (h:kq Pd rows) (hi:i < rows.length) (hk: ∀e,Pd e→rows[i]? =some (e.map .t)→K (e.map .t)):sK rows i K:=by
 obtain⟨e,he,hp⟩:=h _ (List.getElem_mem hi)
 have:rows[i]? =some (e.map .t):=by rw[←he];simp[hi]
 simp only[sK,this]
 exact hk e hp this
theorem Ba {Pd:List T→Prop} {hp:HS} {d:Nat}: ∀ {rows:List (List C)},kq Pd rows→ ∃xs,bu (bu (cN d hp)) rows=some xs∧xs.length=rows.length∧ ∀e,e∈xs→Pd e
 | [],_=>⟨[],rfl,rfl,by simp⟩
 |r::rows,h=>by
  obtain⟨xs,h1,h2,h3⟩:=Ba (hp:=hp) (d:=d) (rows:=rows) (fun q hq=>h q (List.mem_cons_of_mem _ hq))
  obtain⟨e,rfl,he⟩:=h r List.mem_cons_self
  have hone: ∀e:List T,bu (cN d hp) (e.map .t)=some e:=by
   intro e
   induction e with
   |nil=>rfl
   |cons x e ih=>
    have:cN d hp (.t x)=some x:=by cases d<;>rfl
    simp only[List.map_cons,bu,this,ih]
  refine⟨e::xs,by simp only[bu,hone,h1],by simp[h2],fun q hq=>?_⟩
  rcases List.mem_cons.1 hq with rfl|hq
  · exact he
  · exact h3 q hq
def GL (sz:Nat) (p:Lz→Prop) (ts:List W):Prop:= ∃xs,ts=[.one (.t (.av sz xs))]∧p xs
theorem gL {rs:List ResultVar} {tm:TS} {hp:HS} {t id sz:Nat} {rows:List (List C)} {Pd:List T→Prop} {len:Nat} {p:Lz→Prop} (hr:rs=[.tmp t]) (h:find tm t=some (.w (.one (.own id sz 0 len)))) (hf:find hp id=some (.row sz rows)) (hl:len=rows.length)
 (hc:kq Pd rows) (hg: ∀xs,xs.length=rows.length→(∀e,e∈xs→Pd e)→p xs): ∃us ts,aM P hp tm rs=some us∧bu (bB hp) us=some ts∧GL sz p ts:=by
 subst hr
 subst hl
 obtain⟨xs,h1,h2,h3⟩:=Ba (hp:=hp) (d:=5) hc
 refine⟨[.one (.own id sz 0 rows.length)],[.one (.t (.av sz xs))],by simp only[aM,cg,h],?_,xs,rfl,hg xs h2 h3⟩
 have hz:cN 6 hp (.own id sz 0 rows.length)=some (.av sz xs):=by
  have e0:(rows.drop 0).take rows.length=rows:=by simp
  simp only[cN,hf,Nat.zero_add,Nat.le_refl,and_self,if_true,e0,h1,Option.map_some]
 simp only[bu,bB,hz,Option.map_some]
theorem U7 {rs:List ResultVar} {tm:TS} {hp:HS} {t sz:Nat} {xs:Lz} {p:Lz→Prop} (hr:rs=[.tmp t]) (h:find tm t=some (.w (.one (.t (.av sz xs))))) (hg:p xs): ∃us ts,aM P hp tm rs=some us∧bu (bB hp) us=some ts∧GL sz p ts:=by
 subst hr
 exact⟨[.one (.t (.av sz xs))],[.one (.t (.av sz xs))],by simp only[aM,cg,h],rfl,xs,rfl,hg⟩
theorem aj {J:TS→HS→Nat→Prop} {tm:TS} {hp:HS} {ctr:Nat} (keys:List Nat) (nest:List (Nat×Nat))
 (h:Bb (vQ keys nest tm hp) fun S=>pS (S.tm tm) fun t=>qT (S.hp hp) fun q=>S.ok=true∧J t q S.ctr):bM J tm hp ctr:=by
 rw[nx,fO,iz]at h
 exact .mk _ h.1 h.2
theorem ag {f:FuncId} {us:List W} {hp:HS} {ctr:Nat} {K:V→HS→Nat→Prop} {Good:List W→Prop} (hT:qe us=true) (h: ∃ts,Fn P f us [] (aQ ts) []∧(aQ ts).bY=true∧Good ts)
 (hk: ∀ts,Good ts→K (aQ ts) hp (ctr+4)): ∃v aF c',dK P f us hp ctr v aF c'∧K v aF c':=by
 obtain⟨ts,h1,h2,h3⟩:=h
 exact⟨_,_,_,jC (eb h2 hT h1),hk ts h3⟩
theorem aB {f:FuncId} {us:List W} {hp:HS} {ctr:Nat} {K:V→HS→Prop} {Good:List W→Prop} (hT:qe us=true) (h: ∃ts,Fn P f us [] (aQ ts) []∧(aQ ts).bY=true∧Good ts)
 (hk: ∀ts,Good ts→K (aQ ts) hp): ∃v aF,eu P hp ctr f us v aF∧K v aF:=by
 obtain⟨ts,h1,h2,h3⟩:=h
 exact⟨_,_,eb h2 hT h1,hk ts h3⟩
theorem jk {f:FuncId} {us ts:List W} {hp:HS} {ctr:Nat} {K:V→HS→Nat→Prop} {Good:List W→Prop} (hl:bu (bB hp) us=some ts) (h: ∃rs,Fn P f ts [] (aQ rs) []∧(aQ rs).bY=true∧Good rs)
 (hf: ∀rs,Good rs→(aQ rs).flat=true) (hk: ∀rs,Good rs→K (aQ rs) hp (ctr+4)): ∃v aF c',dK P f us hp ctr v aF c'∧K v aF c':=by
 obtain⟨rs,h1,h2,h3⟩:=h
 exact⟨_,_,_,(lK h2 hl (hf rs h3) h1).m,hk rs h3⟩
theorem eV {f:FuncId} {us args:List W} {hp hin:HS} {ctr:Nat} {K:V→HS→Nat→Prop} {Good:List W→HS→Prop} (ids:List Nat) (hok:uS ids ctr=true) (h: ∃ts hout,Fn P f args hin (aQ ts) hout∧Good ts hout)
 (ha:us.map (W.ak (bz ids))=args) (hh:cJ (bz ids) hp 0 ids=hin) (hk: ∀ts hout,Good ts hout→K ((aQ ts).ak (fS ids ctr)) (eM (fS ids ctr) hout++iN ids hp) (ctr+4)): ∃v aF c',dK P f us hp ctr v aF c'∧K v aF c':=by
 obtain⟨ts,hout,h1,h2⟩:=h
 exact⟨_,_,_,sA ids hok h1 ha hh,hk ts hout h2⟩
theorem aA {p:Prop} [Decidable p] {x y:Prop} (hx:p→x) (hy:¬p→y):br (decide p) x y:=
 aG (fun h=>hx (of_decide_eq_true h)) (fun h=>hy (of_decide_eq_false h))
theorem D0 {a b:Int} {x y:Prop} (hx:a=b→x) (hy:a≠b→y):br (a==b) x y:=aG (fun h=>hx (by simpa using h)) (fun h=>hy (by simpa using h))
theorem bR {a b:Int} {x y:Prop} (hx:a≠b→x) (hy:a=b→y):br (a !=b) x y:=aG (fun h=>hx (by simpa using h)) (fun h=>hy (by simpa using h))
theorem cC {a b:Int} (ha:0≤a):0≤a.tmod b:=Int.tmod_nonneg _ ha
theorem cr {a b:Int} (hb:0 < b):a.tmod b < b:=Int.tmod_lt_of_pos _ hb
theorem rB (n:Int): -9223372036854775808≤IntKind.i64.wrap n∧IntKind.i64.wrap n < 9223372036854775808:=by
 simp only[IntKind.wrap,IntKind.bits,IntKind.signed,Bool.true_and]
 split
 · rename_i h;simp at h⊢;omega
 · rename_i h;simp at h⊢;omega
def RI (N:Nat) (m:Nat) (vs:List V):Prop:= ∃i:Nat,i≤N∧m=N - i∧vs=[iV .i64 (i:Int)]
theorem RI.zero {N:Nat}:RI N N [iV .i64 0]:=⟨0,Nat.zero_le _,rfl,rfl⟩
theorem RI.succ {N i:Nat} (h:i < N) (hN:N≤maxLen):RI N (N - (i+1)) [iV .i64 (IntKind.i64.wrap ((i:Int)+1))]:=
 ⟨i+1,h,rfl,by rw[aa (by omega) (by simp only[maxLen]at hN;omega)];rfl⟩
theorem au {xs:Lz} {Pd:List T→Prop} {n:Int} {K:List T→Prop} (hx: ∀e,e∈xs→Pd e) (h0:0≤n) (h1:n < (xs.length:Int)) (hk: ∀e,Pd e→xs[n.toNat]? =some e→K e):0≤n∧ ∃e,xs[n.toNat]? =some e∧K e:=by
 have hlt:n.toNat < xs.length:=by omega
 exact⟨h0,xs[n.toNat],by simp[hlt],hk _ (hx _ (List.getElem_mem hlt)) (by simp[hlt])⟩
theorem ol {s:ByteArray} {n:Int} {K:UInt8→Prop} (h0:0≤n) (h1:n < (s.size:Int)) (hk: ∀b,K b):0≤n∧ ∃b,s[n.toNat]? =some b∧K b:=by
 have hlt:n.toNat < s.size:=by omega
 exact⟨h0,s[n.toNat],by simp[hlt],hk _⟩
theorem IW {s:ByteArray} {n:Int} {N B:Nat} {K:UInt8→Prop} (hN:s.size=N) (hB:s.data.toList.all (fun b=>Nat.ble b.toNat B)=true) (h0:0≤n) (h1:n < (N:Int)) (hk: ∀b:UInt8,b.toNat≤B→K b):0≤n∧ ∃b,s[n.toNat]? =some b∧K b:=by
 have hlt:n.toNat < s.size:=by omega
 refine⟨h0,s[n.toNat],by simp[hlt],hk _ ?_⟩
 have hm:s[n.toNat]∈s.data.toList:=by
  have:s[n.toNat]=s.data[n.toNat]'hlt:=rfl
  rw[this]
  simp
 exact Nat.le_of_ble_eq_true (List.all_eq_true.1 hB _ hm)
theorem dR {α:Type} {xs:List α} {Pd:α→Prop} (h: ∀e,e∈xs→Pd e) (a b:Nat): ∀e,e∈ (xs.drop a).take b→Pd e:=fun e he=>h e (List.mem_of_mem_drop (List.mem_of_mem_take he))
theorem nu {α:Type} {xs:List α} {B:Nat} (h:xs.length≤B) (a b:Nat):((xs.drop a).take b).length≤B:=by simp only[List.length_take,List.length_drop];omega
theorem eW {sz:Nat} {xs:Lz} {l h:Nat} {K:C→Prop} (h1:l≤h) (h2:h≤xs.length) (hk:K (.t (.av sz ((xs.drop l).take (h - l))))):(l≤h∧h≤xs.length)∧rf (.t (.av sz xs)) l h K:=by
 refine⟨⟨h1,h2⟩,?_⟩
 simp only[rf,wT,if_pos (⟨h1,h2⟩:l≤h∧h≤xs.length)]
 exact hk
theorem mo {id sz i len l h:Nat} {K:C→Prop} (h1:l≤h) (h2:h≤len) (hne:h≠l∨l=0) (hk:K (.own id sz (i+l) (h - l))):(l≤h∧h≤len)∧rf (.own id sz i len) l h K:=by
 refine⟨⟨h1,h2⟩,?_⟩
 have e:¬ (h=l∧l≠0):=by omega
 simp only[rf,wT,if_neg e,if_pos (⟨h1,h2⟩:l≤h∧h≤len)]
 exact hk
theorem g1 {rs:List ResultVar} {tm:TS} {hp:HS} {Good:List W→Prop} {t:Nat} {x:T} (hr:rs=[.tmp t]) (h:find tm t=some (.w (.one (.t x)))) (hg:Good [.one (.t x)]):
 ∃us ts,aM P hp tm rs=some us∧bu (bB hp) us=some ts∧Good ts:=by
 subst hr
 exact⟨[.one (.t x)],[.one (.t x)],by simp only[aM,cg,h],rfl,hg⟩
theorem gC {rs:List ResultVar} {tm:TS} {hp:HS} {Good:List W→Prop} {b ty n:Nat} {c:C} {cs:List C} {j:Nat} {ts:List T} (hr:rs=[.cell b ty]) (ha:iQ P ty=some true) (hz:cG P ty=some n)
 (h:find tm b=some (.w (.one c))) (hd:deref hp c=some (cs,j)) (hl:j+n≤cs.length) (hts:bu (cN 6 hp) ((cs.drop j).take n)=some ts) (hg:Good [.agg (ts.map .t)]):
 ∃us ts,aM P hp tm rs=some us∧bu (bB hp) us=some ts∧Good ts:=by
 subst hr
 refine⟨[.agg ((cs.drop j).take n)],[.agg (ts.map .t)],?_,?_,hg⟩
 · simp only[aM,cg,h,dY,hd,js,ha,hz,if_pos hl,Option.map_some]
 · simp only[bu,bB,hts,Option.map_some]
def nP (p:Int→Prop) (ts:List W):Prop:= ∃n,ts=[.one (.t (.val (.int .i64 n)))]∧p n
def KQ (p:Prop) (ts:List W):Prop:= ∃b,ts=[.one (.t (.val (.bool b)))]∧(b=true↔p)
theorem iK {rs:List ResultVar} {tm:TS} {hp:HS} {t:Nat} {n:Int} {p:Int→Prop} (hr:rs=[.tmp t]) (h:find tm t=some (iV .i64 n)) (aF:p n): ∃us ts,aM P hp tm rs=some us∧bu (bB hp) us=some ts∧nP p ts:=g1 hr h ⟨n,rfl,aF⟩
theorem LD {rs:List ResultVar} {tm:TS} {hp:HS} {t:Nat} {b:Bool} {p:Prop} (hr:rs=[.tmp t]) (h:find tm t=some (bV b)) (aF:b=true↔p): ∃us ts,aM P hp tm rs=some us∧bu (bB hp) us=some ts∧KQ p ts:=g1 hr h ⟨b,rfl,aF⟩
def GI (ts:List W):Prop:= ∃n,ts=[.one (.t (.val (.int .i64 n)))]
def GB (ts:List W):Prop:= ∃b,ts=[.one (.t (.val (.bool b)))]
theorem gI {rs:List ResultVar} {tm:TS} {hp:HS} {t:Nat} {n:Int} (hr:rs=[.tmp t]) (h:find tm t=some (iV .i64 n)): ∃us ts,aM P hp tm rs=some us∧bu (bB hp) us=some ts∧GI ts:=g1 hr h ⟨n,rfl⟩
theorem gB {rs:List ResultVar} {tm:TS} {hp:HS} {t:Nat} {b:Bool} (hr:rs=[.tmp t]) (h:find tm t=some (bV b)): ∃us ts,aM P hp tm rs=some us∧bu (bB hp) us=some ts∧GB ts:=g1 hr h ⟨b,rfl⟩
end Go.aS
end
section
namespace Go.aS.Cd
open Go Go.Proofs
set_option maxRecDepth 100000
abbrev Tg (n:Nat) (a:List W) (G:List W→Prop):Prop:= ∃ts,Fn Tryz.prog n a [] (aQ ts) []∧(aQ ts).bY=true∧G ts
abbrev Te (n:Nat) (a r:List W):Prop:= ∃ts,Fn Tryz.prog n a [] (aQ ts) []∧(aQ ts).bY=true∧ts=r
abbrev Sp:=Int×Int
abbrev tI (n:Int):T:= .val (.int .i64 n)
abbrev tB (b:Bool):T:= .val (.bool b)
abbrev oI (n:Int):W:= .one (.t (tI n))
abbrev ij (s:Sp):W:= .agg [.t (tI s.1), .t (tI s.2)]
theorem gW {P:Program} {rs:List ResultVar} {tm:TS} {hp:HS}:True→True→True:=fun _ _=>trivial
theorem g2 {P:Program} {rs:List ResultVar} {tm:TS} {hp:HS}:True→True→True:=fun _ _=>trivial
theorem ng (n:Int):Tg 88 [oI n] GB:=by
 refine ae Tryz.func88 ?_
 repeat' (conv=>whnf
          first
  |(refine aG (fun h=>?_) (fun h=>?_))
  |(refine And.intro (by kernel_rfl) ?_)
  |exact gI rfl rfl
  |exact gB rfl rfl
  |exact gW rfl rfl
  |exact g2 rfl rfl)
theorem iw (a b:Int):Tg 65 [oI a,oI b] GI:=by
 refine ae Tryz.func65 ?_
 repeat' (conv=>whnf
          first
  |(refine ag rfl (ng _) ?_;rintro _ ⟨b,rfl⟩)
  |(refine aB rfl (ng _) ?_;rintro _ ⟨b,rfl⟩)
  |(refine aG (fun h=>?_) (fun h=>?_))
  |(refine And.intro (by kernel_rfl) ?_)
  |exact gI rfl rfl
  |exact gB rfl rfl
  |exact gW rfl rfl
  |exact g2 rfl rfl)
theorem dL (a b c:Sp):Tg 140 [ij a,ij b,ij c] GI:=by
 refine ae Tryz.func140 ?_
 repeat' (conv=>whnf
          first
  |(refine aG (fun h=>?_) (fun h=>?_))
  |(refine And.intro (by kernel_rfl) ?_)
  |exact gI rfl rfl
  |exact gB rfl rfl
  |exact gW rfl rfl
  |exact g2 rfl rfl)
theorem uy (a b c:Sp):Tg 141 [ij a,ij b,ij c] GB:=by
 refine ae Tryz.func141 ?_
 repeat' (conv=>whnf
          first
  |(refine ag rfl (dL (_,_) (_,_) (_,_)) ?_;rintro _ ⟨n,rfl⟩)
  |(refine aB rfl (dL (_,_) (_,_) (_,_)) ?_;rintro _ ⟨n,rfl⟩)
  |(refine aG (fun h=>?_) (fun h=>?_))
  |(refine And.intro (by kernel_rfl) ?_)
  |exact gI rfl rfl
  |exact gB rfl rfl
  |exact gW rfl rfl
  |exact g2 rfl rfl)
theorem mF (a b c d:Sp):Tg 142 [ij a,ij b,ij c,ij d] GB:=by
 refine ae Tryz.func142 ?_
 repeat' (conv=>whnf
          first
  |(refine ag rfl (dL (_,_) (_,_) (_,_)) ?_;rintro _ ⟨n,rfl⟩)
  |(refine aB rfl (dL (_,_) (_,_) (_,_)) ?_;rintro _ ⟨n,rfl⟩)
  |(refine ag rfl (iw _ _) ?_;rintro _ ⟨n,rfl⟩)
  |(refine aB rfl (iw _ _) ?_;rintro _ ⟨n,rfl⟩)
  |(refine aG (fun h=>?_) (fun h=>?_))
  |(refine And.intro (by kernel_rfl) ?_)
  |exact gI rfl rfl
  |exact gB rfl rfl
  |exact gW rfl rfl
  |exact g2 rfl rfl)
theorem mG (a b c:Sp):Tg 107 [ij a,ij b,ij c] GB:=by
 refine ae Tryz.func107 ?_
 repeat' (conv=>whnf
          first
  |(refine ag rfl (dL (_,_) (_,_) (_,_)) ?_;rintro _ ⟨n,rfl⟩)
  |(refine aB rfl (dL (_,_) (_,_) (_,_)) ?_;rintro _ ⟨n,rfl⟩)
  |(refine aG (fun h=>?_) (fun h=>?_))
  |(refine And.intro (by kernel_rfl) ?_)
  |exact gI rfl rfl
  |exact gB rfl rfl
  |exact gW rfl rfl
  |exact g2 rfl rfl)
theorem pC (a b c d:Sp):Tg 108 [ij a,ij b,ij c,ij d] GB:=by
 refine ae Tryz.func108 ?_
 repeat' (conv=>whnf
          first
  |(refine ag rfl (uy (_,_) (_,_) (_,_)) ?_;rintro _ ⟨b,rfl⟩)
  |(refine aB rfl (uy (_,_) (_,_) (_,_)) ?_;rintro _ ⟨b,rfl⟩)
  |(refine ag rfl (mF (_,_) (_,_) (_,_) (_,_)) ?_;rintro _ ⟨b,rfl⟩)
  |(refine aB rfl (mF (_,_) (_,_) (_,_) (_,_)) ?_;rintro _ ⟨b,rfl⟩)
  |(refine aG (fun h=>?_) (fun h=>?_))
  |(refine And.intro (by kernel_rfl) ?_)
  |exact gI rfl rfl
  |exact gB rfl rfl
  |exact gW rfl rfl
  |exact g2 rfl rfl)
end Go.aS.Cd
end
section
namespace Go.aS.Cd
open Go Go.Proofs
set_option maxRecDepth 100000
def KL (e:List T):Prop:= ∃a b,e=[tI a,tI b]
abbrev bZ (xs:Lz):Prop:= ∀e,e∈xs→KL e
abbrev oL (k:Nat) (xs:Lz):W:= .one (.t (.av k xs))
theorem oC (xs:Lz) (s:Sp) (hx:bZ xs) (hl:xs.length≤1000000):Tg 139 [oL 2 xs,ij s] GI:=by
 refine ae Tryz.func139 ?_
 repeat' (conv=>whnf
          first
  |(refine aA (fun h=>?_) (fun h=>?_))
  |(refine aG (fun h=>?_) (fun h=>?_))
  |(refine au hx (by first|omega|exact cC (by first|omega|(simp (disch:=omega) only[aa];omega))|(simp (disch:=omega) only[aa];omega)) (by first|omega|exact cr (by omega)|(simp (disch:=omega) only[aa];omega)) ?_;rintro _ ⟨a,b,rfl⟩ hs)
  |(refine And.intro (by kernel_rfl) ?_)
  |exact gI rfl rfl
  |(apply aL [0,3,7,8] [] [8] (RI xs.length) (xs.length) [iV .i64 0];(conv=>whnf);exact⟨rfl,rfl,rfl,rfl⟩;exact rfl;exact rfl;exact RI.zero;rintro _ _ ⟨i,hi,rfl,rfl⟩)
  |(refine aj [0,3,7,8] [] ?_;(conv=>whnf);exact⟨rfl,_,[_],RI.succ (N:=xs.length) (i:=i) (by omega) (by simp only[maxLen];omega),rfl,rfl,rfl,by omega⟩))
 all_goals (conv=>whnf)
theorem lZ (xs:Lz) (s:Sp) (hx:bZ xs) (hl:xs.length≤1000000):Tg 106 [oL 2 xs,ij s] GB:=by
 refine ae Tryz.func106 ?_
 repeat' (conv=>whnf
          first
  |(refine ag rfl (oC xs (_,_) hx hl) ?_;rintro _ ⟨n,rfl⟩)
  |exact gB rfl rfl)
 all_goals (conv=>whnf)
theorem pD (xs:Lz) (hx:bZ xs) (hl:xs.length≤1000000):Tg 149 [oL 2 xs] GI:=by
 refine ae Tryz.func149 ?_
 repeat' (conv=>whnf
          first
  |(refine aA (fun h=>?_) (fun h=>?_))
  |(refine au hx (by first|omega|exact cC (by first|omega|(simp (disch:=omega) only[aa];omega))|(simp (disch:=omega) only[aa];omega)) (by first|omega|exact cr (by omega)|(simp (disch:=omega) only[aa];omega)) ?_;rintro _ ⟨a,b,rfl⟩ hs)
  |(refine And.intro (by omega) ?_)
  |exact gI rfl rfl
  |(apply aL [0,3,7,8,9] [] [3,9] (fun m vs=> ∃ (i:Nat) (s:Int),i≤xs.length∧m=xs.length - i∧vs=[iV .i64 s,iV .i64 i]) (xs.length) [iV .i64 0,iV .i64 0];(conv=>whnf);exact⟨rfl,rfl,rfl,rfl⟩;exact rfl;exact rfl;exact⟨0,0,by omega,by omega,rfl⟩;rintro _ _ ⟨i,s,hi,rfl,rfl⟩)
  |(refine aj [0,3,7,8,9] [] ?_;(conv=>whnf);exact⟨rfl,_,[_,_],⟨i+1,_,by omega,rfl,by rw[aa (n:=(i:Int)+1) (by omega) (by omega)];rfl⟩,rfl,rfl,rfl,by omega⟩))
 all_goals (conv=>whnf)
theorem yO (xs:Lz) (i:Nat) (hx:bZ xs) (hl:xs.length≤1000000) (hi:i < xs.length):Tg 148 [oL 2 xs,oI i] GI:=by
 refine ae Tryz.func148 ?_
 repeat' (conv=>whnf
          first
  |(refine au hx (by first|omega|exact cC (by first|omega|(simp (disch:=omega) only[aa];omega))|(simp (disch:=omega) only[aa];omega)) (by first|omega|exact cr (by omega)|(simp (disch:=omega) only[aa];omega)) ?_;rintro _ ⟨a,b,rfl⟩ hs)
  |(refine And.intro (by kernel_rfl) ?_)
  |(refine And.intro (by omega) ?_)
  |(refine aB rfl (dL (_,_) (_,_) (_,_)) ?_;rintro _ ⟨n,rfl⟩)
  |exact gI rfl rfl)
 all_goals (conv=>whnf)
theorem ux (xs:Lz) (hx:bZ xs) (hl:xs.length≤1000000):Tg 81 [oL 2 xs] GB:=by
 refine ae Tryz.func81 ?_
 repeat' (conv=>whnf
          first
  |(refine aA (fun h=>?_) (fun h=>?_))
  |(refine bR (fun h=>?_) (fun h=>?_))
  |(refine aG (fun h=>?_) (fun h=>?_))
  |(refine eW (by omega) (by omega) ?_)
  |(refine au hx (by first|omega|exact cC (by first|omega|(simp (disch:=omega) only[aa];omega))|(simp (disch:=omega) only[aa];omega)) (by first|omega|exact cr (by omega)|(simp (disch:=omega) only[aa];omega)) ?_;rintro _ ⟨a,b,rfl⟩ hs)
  |(refine And.intro (by kernel_rfl) ?_)
  |(refine And.intro (by omega) ?_)
  |(refine aB rfl (lZ _ (_,_) (dR hx _ _) (nu hl _ _)) ?_;rintro _ ⟨b,rfl⟩)
  |(refine aB rfl (mG (_,_) (_,_) (_,_)) ?_;rintro _ ⟨b,rfl⟩)
  |(refine aB rfl (pC (_,_) (_,_) (_,_) (_,_)) ?_;rintro _ ⟨b,rfl⟩)
  |exact gB rfl rfl
  |(apply aL [0,3,6,7,8,9,25,26,27] [] [9] (fun m vs=> ∃j:Nat,i+2≤j∧m=xs.length+2 - j∧j≤xs.length+2∧vs=[iV .i64 j]) (xs.length - i) [iV .i64 (IntKind.i64.wrap ((i:Int)+2))];(conv=>whnf);exact⟨rfl,rfl,rfl,rfl⟩;exact rfl;exact rfl;exact⟨i+2,by omega,by omega,by omega,by rw[aa (by omega) (by omega)];rfl⟩;rintro _ _ ⟨j,hj,rfl,hj2,rfl⟩)
  |(refine aj [0,3,6,7,8,9,25,26,27] [] ?_;(conv=>whnf);exact⟨rfl,_,[_],⟨j+1,by omega,rfl,by omega,by rw[aa (by omega) (by omega)];rfl⟩,rfl,rfl,rfl,by omega⟩)
  |(apply aL [0,3,25,26,27] [] [27] (RI xs.length) (xs.length) [iV .i64 0];(conv=>whnf);exact⟨rfl,rfl,rfl,rfl⟩;exact rfl;exact rfl;exact RI.zero;rintro _ _ ⟨i,hi,rfl,rfl⟩)
  |(refine aj [0,3,25,26,27] [] ?_;(conv=>whnf);exact⟨rfl,_,[_],RI.succ (N:=xs.length) (i:=i) (by omega) (by simp only[maxLen];omega),rfl,rfl,rfl,by omega⟩)
  |(apply aL [0,3,12,13,14] [] [14] (RI xs.length) (xs.length) [iV .i64 0];(conv=>whnf);exact⟨rfl,rfl,rfl,rfl⟩;exact rfl;exact rfl;exact RI.zero;rintro _ _ ⟨i,hi,rfl,rfl⟩)
  |(refine aj [0,3,12,13,14] [] ?_;(conv=>whnf);exact⟨rfl,_,[_],RI.succ (N:=xs.length) (i:=i) (by omega) (by simp only[maxLen];omega),rfl,rfl,rfl,by omega⟩))
 all_goals (conv=>whnf)
end Go.aS.Cd
end
section
namespace Go.aS.Cd
open Go Go.Proofs
set_option maxRecDepth 100000
def FD (s:Sp):Prop:=(-1048576≤s.1∧s.1≤1048576)∧(-1048576≤s.2∧s.2≤1048576)
def KN (e:List T):Prop:= ∃a b,e=[tI a,tI b]∧FD (a,b)
theorem xD (s:Sp):Tg 80 [ij s] (KQ (¬FD s)):=by
 refine ae Tryz.func80 ?_
 repeat' (conv=>whnf
          first
  |(refine aA (fun h=>?_) (fun h=>?_))
  |(refine LD rfl rfl ?_;simp only[FD];first|(simp;omega)|omega))
 all_goals (conv=>whnf)
theorem EH (s:Sp):Tg 205 [ij s] (KQ (¬FD s)):=by
 refine ae Tryz.func205 ?_
 repeat' (conv=>whnf
          first
  |(refine aA (fun h=>?_) (fun h=>?_))
  |(refine LD rfl rfl ?_;simp only[FD];first|(simp;omega)|omega))
 all_goals (conv=>whnf)
def ZL (p:Prop) (ts:List W):Prop:= ∃b,ts=[.one (.t (.val (.bool b)))]∧(b=false→p)
theorem gBq {P:Program} {rs:List ResultVar} {tm:TS} {hp:HS} {t:Nat} {b:Bool} {p:Prop} (hr:rs=[.tmp t]) (h:find tm t=some (bV b)) (hp2:b=false→p): ∃us ts,aM P hp tm rs=some us∧bu (bB hp) us=some ts∧ZL p ts:=g1 hr h ⟨b,rfl,hp2⟩
def T7 (f:Nat):Prop:= ∀s, ∃ts,Fn Tryz.prog f [ij s] [] (aQ ts) []∧(aQ ts).bY=true∧KQ (¬FD s) ts
abbrev fV (f:Nat):W:= .one (.t (.val (.func (.func f) #[] #[])))
def D7 (xs:Lz) (m:Nat) (vs:List V):Prop:= ∃i:Nat,i≤xs.length∧(∀j e,j < i→xs[j]? =some e→KN e)∧m=xs.length - i∧vs=[iV .i64 (i:Int)]
theorem D7.succ {xs:Lz} {i:Nat} {a b:Int} (h:i < xs.length) (hN:xs.length≤1000000) (ha: ∀j e,j < i→xs[j]? =some e→KN e) (hs:xs[((i:Int)).toNat]? =some [tI a,tI b]) (hi:FD (a,b)):
 D7 xs (xs.length - (i+1)) [iV .i64 (IntKind.i64.wrap ((i:Int)+1))]:=by
 refine⟨i+1,h,fun j e hj he=>?_,rfl,by rw[aa (by omega) (by omega)];rfl⟩
 by_cases eF:j=i
 · subst eF
   rw[show((j:Int)).toNat=j by omega]at hs
   rw[hs]at he
   exact⟨a,b,(Option.some.inj he).symm,hi⟩
 · exact ha j e (by omega) he
theorem N9 {xs:Lz} {i:Nat} (h: ∀j e,j < i→xs[j]? =some e→KN e) (hi:xs.length≤i): ∀e,e∈xs→KN e:=by
 intro e he
 obtain⟨j,hj,rfl⟩:=List.getElem_of_mem he
 exact h j _ (by omega) (by simp[hj])
theorem lj (f:Nat) (mP:enters Tryz.prog f=true) (hf:T7 f) (xs:Lz) (hx:bZ xs) (hl:xs.length≤1000000):Tg 105 [oL 2 xs,fV f] (nP (fun n=> -1≤n∧(n < 0→ ∀e,e∈xs→KN e))):=by
 refine ae Tryz.func105 ?_
 repeat' (conv=>whnf
          first
  |(refine aA (fun h=>?_) (fun h=>?_))
  |(refine aG (fun h=>?_) (fun h=>?_))
  |(refine And.intro mP ?_)
  |(refine au hx (by first|omega|exact cC (by first|omega|(simp (disch:=omega) only[aa];omega))|(simp (disch:=omega) only[aa];omega)) (by first|omega|exact cr (by omega)|(simp (disch:=omega) only[aa];omega)) ?_;rintro _ ⟨a,b,rfl⟩ hs)
  |(refine ag rfl (hf (_,_)) ?_;rintro _ ⟨b,rfl,hb⟩)
  |(refine iK rfl rfl ⟨by omega,fun h=>?_⟩;first|omega|exact N9 ha (by omega))
  |(apply aL [0,1,7,8] [] [8] (D7 xs) (xs.length) [iV .i64 0];(conv=>whnf);exact⟨rfl,rfl,rfl,rfl⟩;exact rfl;exact rfl;exact⟨0,by omega,fun j e hj=>by omega,rfl,rfl⟩;rintro _ _ ⟨i,hi,ha,rfl,rfl⟩)
  |(refine aj [0,1,7,8] [] ?_;(conv=>whnf);exact⟨rfl,_,[_],D7.succ (by omega) hl ha hs (by simp_all),rfl,rfl,rfl,by omega⟩))
 all_goals (conv=>whnf)
theorem dB (f:Nat) (mP:enters Tryz.prog f=true) (hf:T7 f) (xs:Lz) (hx:bZ xs) (hl:xs.length≤1000000):Tg 79 [oL 2 xs,fV f] (ZL (∀e,e∈xs→KN e)):=by
 refine ae Tryz.func79 ?_
 repeat' (conv=>whnf
          first
  |(refine ag rfl (lj f mP hf xs hx hl) ?_;rintro _ ⟨n,rfl,hn⟩)
  |exact gBq rfl rfl (fun h=>hn.2 (by simpa using h)))
 all_goals (conv=>whnf)
theorem LI:enters Tryz.prog 80=true:=by kernel_rfl
theorem TI:enters Tryz.prog 205=true:=by kernel_rfl
def Iq (xs:Lz):Prop:=3≤xs.length∧xs.length≤40∧ ∀e,e∈xs→KN e
def ep (xs:Lz):Prop:=2≤xs.length∧xs.length≤40∧ ∀e,e∈xs→KN e
theorem wy (xs:Lz) (hx:bZ xs) (hl:xs.length≤1000000):Tg 55 [oL 2 xs] (nP (fun n=>n=0→Iq xs)):=by
 refine ae Tryz.func55 ?_
 repeat' (conv=>whnf
          first
  |(refine aA (fun h=>?_) (fun h=>?_))
  |(refine aG (fun h=>?_) (fun h=>?_))
  |(refine ag rfl (dB _ LI xD xs hx hl) ?_;rintro _ ⟨c,rfl,hc⟩)
  |(refine ag rfl (ux xs hx hl) ?_;rintro _ ⟨d,rfl⟩)
  |(refine iK rfl rfl (fun h0=>?_);first|(exfalso;omega)|exact⟨by omega,by omega,hc (by simp_all)⟩))
 all_goals (conv=>whnf)
theorem wz (xs:Lz) (hx:bZ xs) (hl:xs.length≤1000000):Tg 193 [oL 2 xs] GI:=by
 refine ae Tryz.func193 ?_
 repeat' (conv=>whnf
          first
  |(refine bR (fun h=>?_) (fun h=>?_))
  |(refine ag rfl (wy xs hx hl) ?_;rintro _ ⟨c,rfl,hc⟩)
  |(refine ag rfl (pD xs hx hl) ?_;rintro _ ⟨d,rfl⟩)
  |exact gI rfl rfl)
 all_goals (conv=>whnf)
theorem uw (xs:Lz) (hx:bZ xs) (hl:xs.length≤1000000):Tg 182 [oL 2 xs] (nP (fun n=>n=0→ep xs)):=by
 have hw:=aa (n:=(xs.length:Int) - 1) (by omega) (by omega)
 refine ae Tryz.func182 ?_
 repeat' (conv=>whnf
          first
  |(refine aA (fun h=>?_) (fun h=>?_))
  |(refine aG (fun h=>?_) (fun h=>?_))
  |(refine au hx (by first|omega|exact cC (by first|omega|(simp (disch:=omega) only[aa];omega))|(simp (disch:=omega) only[aa];omega)) (by first|omega|exact cr (by omega)|(simp (disch:=omega) only[aa];omega)) ?_;rintro _ ⟨a,b,rfl⟩ hs)
  |(refine And.intro (by kernel_rfl) ?_)
  |(refine ag rfl (dB _ TI EH xs hx hl) ?_;rintro _ ⟨c,rfl,hc⟩)
  |(refine iK rfl rfl (fun h0=>?_);first|(exfalso;omega)|exact⟨by omega,by omega,hc (by simp_all)⟩)
  |(apply aL [0,14,15] [] [15] (RI (xs.length - 1)) (xs.length - 1) [iV .i64 0];(conv=>whnf);exact⟨rfl,rfl,rfl,rfl⟩;exact rfl;exact rfl;exact RI.zero;rintro _ _ ⟨i,hi,rfl,rfl⟩)
  |(refine aj [0,14,15] [] ?_;(conv=>whnf);exact⟨rfl,_,[_],RI.succ (N:=xs.length - 1) (i:=i) (by omega) (by simp only[maxLen];omega),rfl,rfl,rfl,by omega⟩))
 all_goals (conv=>whnf)
end Go.aS.Cd
end
section
namespace Go.aS.Cd
open Go Go.Proofs
set_option maxRecDepth 100000
theorem Zb:iQ Tryz.prog 57=some true:=by kernel_rfl
theorem UC:cG Tryz.prog 57=some 2:=by kernel_rfl
theorem aTu:iQ Tryz.prog 56=some true:=by kernel_rfl
theorem zTu:cG Tryz.prog 56=some 2:=by kernel_rfl
theorem aRp:iQ Tryz.prog 31=some true:=by kernel_rfl
theorem zRp:cG Tryz.prog 31=some 2:=by kernel_rfl
def Oz (p:Sp→Prop) (ts:List W):Prop:= ∃a b,ts=[ij (a,b)]∧p (a,b)
abbrev R5 (f:Bool) (q:Int):W:= .agg [.t (tB f), .t (tI q)]
def GTu (p:Bool→Int→Prop) (ts:List W):Prop:= ∃f q,ts=[R5 f q]∧p f q
theorem U6 {rs:List ResultVar} {tm:TS} {hp:HS} {b:Nat} {c:C} {cs:List C} {j:Nat} {x y:Int} {p:Sp→Prop} (hr:rs=[.cell b 57]) (h:find tm b=some (.w (.one c))) (hd:deref hp c=some (cs,j)) (hl:j+2≤cs.length) (hts:(cs.drop j).take 2=[.t (tI x), .t (tI y)]) (hg:p (x,y)):
 ∃us ts,aM Tryz.prog hp tm rs=some us∧bu (bB hp) us=some ts∧Oz p ts:=gC hr Zb UC h hd hl (ts:=[tI x,tI y]) (by rw[hts];rfl) ⟨x,y,rfl,hg⟩
theorem gRp {rs:List ResultVar} {tm:TS} {hp:HS} {b:Nat} {c:C} {cs:List C} {j:Nat} {x y:Int} {p:Sp→Prop} (hr:rs=[.cell b 31]) (h:find tm b=some (.w (.one c))) (hd:deref hp c=some (cs,j)) (hl:j+2≤cs.length) (hts:(cs.drop j).take 2=[.t (tI x), .t (tI y)]) (hg:p (x,y)):
 ∃us ts,aM Tryz.prog hp tm rs=some us∧bu (bB hp) us=some ts∧Oz p ts:=gC hr aRp zRp h hd hl (ts:=[tI x,tI y]) (by rw[hts];rfl) ⟨x,y,rfl,hg⟩
theorem gTu {rs:List ResultVar} {tm:TS} {hp:HS} {b:Nat} {c:C} {cs:List C} {j:Nat} {f:Bool} {q:Int} {p:Bool→Int→Prop} (hr:rs=[.cell b 56]) (h:find tm b=some (.w (.one c))) (hd:deref hp c=some (cs,j)) (hl:j+2≤cs.length) (hts:(cs.drop j).take 2=[.t (tB f), .t (tI q)]) (hg:p f q):
 ∃us ts,aM Tryz.prog hp tm rs=some us∧bu (bB hp) us=some ts∧GTu p ts:=gC hr aTu zTu h hd hl (ts:=[tB f,tI q]) (by rw[hts];rfl) ⟨f,q,rfl,hg⟩
theorem Ej (f:Bool) (q:Int):Tg 136 [R5 f q] (GTu (fun _ _=>True)):=by
 refine ae Tryz.func136 ?_
 repeat' (conv=>whnf
          first
  |exact gTu rfl rfl rfl (by simp) rfl trivial)
 all_goals (conv=>whnf)
theorem yp (g:Int) (m f:Bool) (q:Int):Tg 102 [oI g, .one (.t (tB m)),R5 f q] GB:=by
 refine ae Tryz.func102 ?_
 repeat' (conv=>whnf
          first
  |(refine aA (fun h=>?_) (fun h=>?_))
  |(refine aG (fun h=>?_) (fun h=>?_))
  |(refine ag rfl (Ej _ _) ?_;rintro _ ⟨f,q,rfl,_⟩)
  |exact gB rfl rfl)
 all_goals (conv=>whnf)
theorem wk (n:Int):Tg 216 [oI n] (nP (fun r=>0≤r∧r≤1048576)):=by
 refine ae Tryz.func216 ?_
 repeat' (conv=>whnf
          first
  |(refine aA (fun h=>?_) (fun h=>?_))
  |exact iK rfl rfl (by omega))
 all_goals (conv=>whnf)
theorem tT (n:Int):Tg 196 [oI n] (nP (fun r=> -1048576≤r∧r≤1048576)):=by
 refine ae Tryz.func196 ?_
 repeat' (conv=>whnf
          first
  |(refine iK rfl rfl ?_;(repeat' split)<;>omega))
 all_goals (conv=>whnf)
theorem wl (n p:Int) (hp:0≤p):Tg 195 [oI n,oI p] GI:=by
 refine ae Tryz.func195 ?_
 repeat' (conv=>whnf
          first
  |(refine aA (fun h=>?_) (fun h=>?_))
  |(refine And.intro (by omega) ?_)
  |exact gI rfl rfl)
 all_goals (conv=>whnf)
theorem Am (r:Sp):Tg 194 [ij r] (Oz (fun r=>0≤r.1∧0≤r.2)):=by
 refine ae Tryz.func194 ?_
 repeat' (conv=>whnf
          first
  |(refine And.intro (by kernel_rfl) ?_)
  |(refine aB rfl (wk _) ?_;rintro _ ⟨n,rfl,h1,h2⟩)
  |exact gRp rfl rfl rfl (by simp) rfl ⟨by simp only;omega,by simp only;omega⟩)
 all_goals (conv=>whnf)
theorem yx (r a:Sp):Tg 171 [ij r,ij a] (Oz (fun _=>True)):=by
 refine ae Tryz.func171 ?_
 repeat' (conv=>whnf
          first
  |(refine And.intro (by kernel_rfl) ?_)
  |(refine ag rfl (Am (_,_)) ?_;rintro _ ⟨x,y,rfl,h1,h2⟩)
  |(refine aB rfl (tT _) ?_;rintro _ ⟨n,rfl,_⟩)
  |(refine aB rfl (wl _ _ (by simp only at *;omega)) ?_;rintro _ ⟨n,rfl⟩)
  |exact U6 rfl rfl rfl (by simp) rfl trivial)
 all_goals (conv=>whnf)
theorem Al (r a b:Sp):Tg 137 [ij r,ij a,ij b] GB:=by
 refine ae Tryz.func137 ?_
 repeat' (conv=>whnf
          first
  |(refine And.intro (by kernel_rfl) ?_)
  |(refine aB rfl (yx (_,_) (_,_)) ?_;rintro _ ⟨x,y,rfl,_⟩)
  |exact gB rfl rfl)
 all_goals (conv=>whnf)
theorem pE (s:Sp):Tg 54 [ij s] (KQ (¬FD s)):=by
 refine ae Tryz.func54 ?_
 repeat' (conv=>whnf
          first
  |(refine aA (fun h=>?_) (fun h=>?_))
  |(refine LD rfl rfl ?_;simp only[FD];first|(simp;omega)|omega))
 all_goals (conv=>whnf)
theorem oe (a b:Sp):Tg 167 [ij a,ij b] (Oz (fun _=>True)):=by
 refine ae Tryz.func167 ?_
 repeat' (conv=>whnf
          first
  |exact U6 rfl rfl rfl (by simp) rfl trivial)
 all_goals (conv=>whnf)
theorem kR (s:Sp) (b:Int):Tg 169 [ij s,oI b] GB:=by
 refine ae Tryz.func169 ?_
 repeat' (conv=>whnf
          first
  |(refine aA (fun h=>?_) (fun h=>?_))
  |exact gB rfl rfl)
 all_goals (conv=>whnf)
theorem zw (n b:Int):Tg 159 [oI n,oI b] (KQ (IntKind.i64.wrap (0 - b)≤n∧n≤b)):=by
 refine ae Tryz.func159 ?_
 repeat' (conv=>whnf
          first
  |(refine aA (fun h=>?_) (fun h=>?_))
  |(refine LD rfl rfl ?_;constructor<;>intro hh<;>first|exact⟨h,of_decide_eq_true hh⟩|exact decide_eq_true hh.2|exact absurd hh.1 h|exact absurd hh (by simp)))
 all_goals (conv=>whnf)
theorem gu (a b c:Sp):Tg 122 [ij a,ij b,ij c] GI:=by
 refine ae Tryz.func122 ?_
 repeat' (conv=>whnf
          first
  |exact gI rfl rfl)
 all_goals (conv=>whnf)
theorem qx (s:Sp):Tg 152 [ij s] GB:=by
 refine ae Tryz.func152 ?_
 repeat' (conv=>whnf
          first
  |(refine aA (fun h=>?_) (fun h=>?_))
  |exact gB rfl rfl)
 all_goals (conv=>whnf)
end Go.aS.Cd
end
section
namespace Go.aS.Cd
open Go Go.Proofs
set_option maxRecDepth 100000
abbrev Dw (q:Int):Int:=IntKind.i64.wrap ((BitVec.ofInt IntKind.i64.bits q&&& BitVec.ofInt IntKind.i64.bits 3).toNat:Int)
theorem kY (f:Bool) (q:Int) (s:Sp):Tg 83 [R5 f q,ij s] (Oz (fun _=>True)):=by
 have hq:=rB ((BitVec.ofInt IntKind.i64.bits q&&& BitVec.ofInt IntKind.i64.bits 3).toNat:Int)
 have XX:Dw q=IntKind.i64.wrap ((BitVec.ofInt IntKind.i64.bits q&&& BitVec.ofInt IntKind.i64.bits 3).toNat:Int):=rfl
 refine ae Tryz.func83 ?_
 repeat' (conv=>whnf
          first
  |(refine aA (fun h=>?_) (fun h=>?_))
  |(refine aG (fun h=>?_) (fun h=>?_))
  |exact U6 rfl rfl rfl (by simp) rfl trivial
  |(apply bW [3,4,13,14] [] [14] (fun m vs hq=> ∃ (i:Nat) (a b:Int),i≤(Dw q).toNat∧m=(Dw q).toNat - i∧vs=[iV .i64 (i:Int)]∧hq=[(4, .row 2 [[.t (tI a), .t (tI b)]]),(8, .row 2 [[.t (tI 0), .t (tI 0)]])]) ((Dw q).toNat) [iV .i64 0];(conv=>whnf);exact⟨rfl,rfl,rfl,rfl⟩;exact rfl;exact rfl;exact⟨0,_,_,by omega,rfl,rfl,rfl⟩;rintro _ _ _ ⟨i,a,b,hi,rfl,rfl,rfl⟩)
  |(refine aj [3,4,13,14] [] ?_;(conv=>whnf);exact⟨rfl,_,[_],⟨i+1,_,_,by omega,rfl,by rw[aa (n:=(i:Int)+1) (by omega) (by omega)];rfl,rfl⟩,rfl,rfl,by omega⟩))
 all_goals (conv=>whnf)
theorem wx (xs:Lz) (d:Sp) (hx:bZ xs) (hl:xs.length≤1000000):Tg 82 [oL 2 xs,ij d] (GL 2 (fun ys=>ys.length=xs.length∧bZ ys)):=by
 refine ae Tryz.func82 ?_
 repeat' (conv=>whnf
          first
  |(refine aA (fun h=>?_) (fun h=>?_))
  |(refine And.intro ⟨by omega,by omega,by omega,by omega⟩ ?_)
  |(refine And.intro ⟨by omega,by omega⟩ ?_)
  |(refine au hx (by first|omega|exact cC (by first|omega|(simp (disch:=omega) only[aa];omega))|(simp (disch:=omega) only[aa];omega)) (by first|omega|exact cr (by omega)|(simp (disch:=omega) only[aa];omega)) ?_;rintro _ ⟨a,b,rfl⟩ hs)
  |(refine Da hc (by omega) ?_;rintro _ ⟨a,b,rfl⟩ hs)
  |exact gL rfl rfl rfl (by omega) hc (fun ys h1 h2=>⟨by omega,h2⟩)
  |(apply bW [3,5,11,12,13] [] [13] (fun m vs hq=> ∃ (i:Nat) (rows:List (List C)),i≤xs.length∧m=xs.length - i∧vs=[iV .i64 (i:Int)]∧hq=[(4, .row 2 [[.t (tI d.1), .t (tI d.2)]]),(8, .row 2 rows)]∧rows.length=xs.length∧kq KL rows) (xs.length) [iV .i64 0];(conv=>whnf);exact⟨rfl,rfl,rfl,rfl⟩;exact rfl;exact rfl;exact⟨0,_,by omega,rfl,rfl,rfl,by simp,(kq.replicate (e:=[tI 0,tI 0]) ⟨0,0,rfl⟩).ak _⟩;rintro _ _ _ ⟨i,rows,hi,rfl,rfl,rfl,OQ,hc⟩)
  |(refine aj [3,5,11,12,13] [] ?_;(conv=>whnf);exact⟨rfl,_,[_],⟨i+1,_,by omega,rfl,by rw[aa (n:=(i:Int)+1) (by omega) (by omega)];rfl,rfl,by simp[OQ],(hc.set (e:=[_,_]) ⟨_,_,rfl⟩).ak _⟩,rfl,rfl,by omega⟩))
 all_goals (conv=>whnf)
theorem yP (xs:Lz) (d:Sp) (hx:bZ xs) (hl:xs.length≤1000000):Tg 56 [oL 2 xs,ij d] (GL 2 (fun ys=>ys.length=xs.length∧bZ ys)):=by
 refine ae Tryz.func56 ?_
 repeat' (conv=>whnf
          first
  |(refine ag rfl (wx xs (_,_) hx hl) ?_;rintro _ ⟨ys,rfl,h1,h2⟩)
  |exact U7 rfl rfl ⟨h1,h2⟩)
 all_goals (conv=>whnf)
theorem qv (f:Bool) (q:Int) (xs:Lz) (hx:bZ xs) (hl:xs.length≤1000000):Tg 57 [R5 f q,oL 2 xs] (GL 2 (fun ys=>ys.length=xs.length∧bZ ys)):=by
 have EY:=aa (n:=(xs.length:Int) - 1) (by omega) (by omega)
 refine ae Tryz.func57 ?_
 repeat' (conv=>whnf
          first
  |(refine aA (fun h=>?_) (fun h=>?_))
  |(refine aG (fun h=>?_) (fun h=>?_))
  |(refine And.intro ⟨by omega,by omega,by omega,by omega⟩ ?_)
  |(refine And.intro ⟨by first|omega|(rw[EY,aa (n:=(xs.length:Int) - 1 - (i:Int)) (by omega) (by omega)];omega),by first|omega|(rw[EY,aa (n:=(xs.length:Int) - 1 - (i:Int)) (by omega) (by omega)];omega)⟩ ?_)
  |(refine au hx (by first|omega|exact cC (by first|omega|(simp (disch:=omega) only[aa];omega))|(simp (disch:=omega) only[aa];omega)) (by first|omega|exact cr (by omega)|(simp (disch:=omega) only[aa];omega)) ?_;rintro _ ⟨a,b,rfl⟩ hs)
  |(refine ag rfl (kY _ _ (_,_)) ?_;rintro _ ⟨x,y,rfl,_⟩)
  |(refine Da hc (by omega) ?_;rintro _ ⟨a,b,rfl⟩ hs)
  |(refine Da hc (by rw[EY,aa (n:=(xs.length:Int) - 1 - (i:Int)) (by omega) (by omega)];omega) ?_;rintro _ ⟨a,b,rfl⟩ hs)
  |exact gL rfl rfl rfl (by omega) hc (fun ys h1 h2=>⟨by omega,h2⟩)
  |(apply bW [1,2,5,11,12,13] [] [13] (fun m vs hq=> ∃ (i:Nat) (rows:List (List C)),i≤xs.length∧m=xs.length - i∧vs=[iV .i64 (i:Int)]∧hq=[(4, .row 2 [[.t (tB f), .t (tI q)]]),(8, .row 2 rows)]∧rows.length=xs.length∧kq KL rows) (xs.length) [iV .i64 0];(conv=>whnf);exact⟨rfl,rfl,rfl,rfl⟩;exact rfl;exact rfl;exact⟨0,_,by omega,rfl,rfl,rfl,by simp,(kq.replicate (e:=[tI 0,tI 0]) ⟨0,0,rfl⟩).ak _⟩;rintro _ _ _ ⟨i,rows,hi,rfl,rfl,rfl,OQ,hc⟩)
  |(refine aj [1,2,5,11,12,13] [] ?_;(conv=>whnf);exact⟨rfl,_,[_],⟨i+1,_,by omega,rfl,by rw[aa (n:=(i:Int)+1) (by omega) (by omega)];rfl,rfl,by simp[OQ],(hc.set (e:=[_,_]) ⟨_,_,rfl⟩).ak _⟩,rfl,rfl,by omega⟩))
 all_goals (conv=>whnf)
theorem vj (a b:Int) (ha:0≤a) (hb:0 < b) (nw:b≤1000000000000):Tg 184 [oI a,oI b] GI:=by
 refine ae Tryz.func184 ?_
 repeat' (conv=>whnf
          first
  |(refine aA (fun h=>?_) (fun h=>?_))
  |(refine And.intro (by rw[aa (n:=2 * b) (by omega) (by omega)];omega) ?_)
  |exact gI rfl rfl
  |(exfalso;omega))
 all_goals (conv=>whnf)
theorem nZ (a b:Int) (ha: -1000000000000000≤a) (hb:0 < b) (nw:b≤1000000000000):Tg 184 [oI a,oI b] GI:=by
 refine ae Tryz.func184 ?_
 repeat' (conv=>whnf
          first
  |(refine aA (fun h=>?_) (fun h=>?_))
  |(refine And.intro (by rw[aa (n:=2 * b) (by omega) (by omega)];omega) ?_)
  |(refine ag rfl (vj (IntKind.i64.wrap (0 - a)) b (by rw[aa (n:=0 - a) (by omega) (by omega)];omega) hb nw) ?_;rintro _ ⟨n,rfl⟩)
  |exact gI rfl rfl)
 all_goals (conv=>whnf)
theorem o5 (a b:Int) (ha:0≤a) (hb:0 < b) (nw:b≤1000000000000):Tg 188 [oI a,oI b] GI:=by
 refine ae Tryz.func188 ?_
 repeat' (conv=>whnf
          first
  |(refine aA (fun h=>?_) (fun h=>?_))
  |(refine And.intro (by rw[aa (n:=2 * b) (by omega) (by omega)];omega) ?_)
  |exact gI rfl rfl
  |(exfalso;omega))
 all_goals (conv=>whnf)
theorem j0 (a b:Int) (ha: -1000000000000000≤a) (hb:0 < b) (nw:b≤1000000000000):Tg 188 [oI a,oI b] GI:=by
 refine ae Tryz.func188 ?_
 repeat' (conv=>whnf
          first
  |(refine aA (fun h=>?_) (fun h=>?_))
  |(refine And.intro (by rw[aa (n:=2 * b) (by omega) (by omega)];omega) ?_)
  |(refine ag rfl (o5 (IntKind.i64.wrap (0 - a)) b (by rw[aa (n:=0 - a) (by omega) (by omega)];omega) hb nw) ?_;rintro _ ⟨n,rfl⟩)
  |exact gI rfl rfl)
 all_goals (conv=>whnf)
end Go.aS.Cd
end
section
namespace Go.aS.Cd
open Go Go.Proofs
set_option maxRecDepth 100000
abbrev oS (s:ByteArray):W:= .one (.t (.val (.string s)))
abbrev oU8 (n:Int):W:= .one (.t (.val (.int .u8 n)))
theorem nT (xs ys:Lz) (hx:bZ xs) (hy:bZ ys) (hl:xs.length≤1000000) (hm:ys.length≤1000000):Tg 126 [oL 2 xs,oL 2 ys] GI:=by
 refine ae Tryz.func126 ?_
 repeat' (conv=>whnf
          first
  |(refine aA (fun h=>?_) (fun h=>?_))
  |(refine au hx (by first|omega|exact cC (by first|omega|(simp (disch:=omega) only[aa];omega))|(simp (disch:=omega) only[aa];omega)) (by first|omega|exact cr (by omega)|(simp (disch:=omega) only[aa];omega)) ?_;rintro _ ⟨a,b,rfl⟩ hs)
  |(refine au hy (by first|omega|exact cC (by first|omega|(simp (disch:=omega) only[aa];omega))|(simp (disch:=omega) only[aa];omega)) (by first|omega|exact cr (by omega)|(simp (disch:=omega) only[aa];omega)) ?_;rintro _ ⟨a,b,rfl⟩ hs)
  |(refine And.intro (by omega) ?_)
  |(refine ag rfl (iw _ _) ?_;rintro _ ⟨n,rfl⟩)
  |exact gI rfl rfl
  |(apply aL [0,1,5,7,8,9,13,14,15,28,29,30] [] [9,30] (fun m vs=> ∃ (j:Nat) (s:Int),j≤ys.length∧m=ys.length - j∧vs=[iV .i64 s,iV .i64 j]) (ys.length) [iV .i64 (-1),iV .i64 0];(conv=>whnf);exact⟨rfl,rfl,rfl,rfl⟩;exact rfl;exact rfl;exact⟨0, -1,by omega,rfl,rfl⟩;rintro _ _ ⟨j,s',hj,rfl,rfl⟩)
  |(refine aj [0,1,5,7,8,9,13,14,15,28,29,30] [] ?_;(conv=>whnf);exact⟨rfl,_,[_,_],⟨j+1,_,by omega,rfl,by rw[aa (n:=(j:Int)+1) (by omega) (by omega)];rfl⟩,rfl,rfl,rfl,by omega⟩)
  |(apply aL [0,1,5,13,14,15] [] [5,15] (fun m vs=> ∃ (i:Nat) (s:Int),i≤xs.length∧m=xs.length - i∧vs=[iV .i64 s,iV .i64 i]) (xs.length) [iV .i64 1,iV .i64 0];(conv=>whnf);exact⟨rfl,rfl,rfl,rfl⟩;exact rfl;exact rfl;exact⟨0,1,by omega,rfl,rfl⟩;rintro _ _ ⟨i,s,hi,rfl,rfl⟩)
  |(refine aj [0,1,5,13,14,15] [] ?_;(conv=>whnf);exact⟨rfl,_,[_,_],⟨i+1,_,by omega,rfl,by rw[aa (n:=(i:Int)+1) (by omega) (by omega)];rfl⟩,rfl,rfl,rfl,by omega⟩))
 all_goals (conv=>whnf)
theorem lS (xs ys:Lz) (hx:bZ xs) (hy:bZ ys) (hl:xs.length≤1000000) (hm:ys.length≤1000000):Tg 92 [oL 2 xs,oL 2 ys] GI:=by
 refine ae Tryz.func92 ?_
 repeat' (conv=>whnf
          first
  |(refine ag rfl (nT xs ys hx hy hl hm) ?_;rintro _ ⟨n,rfl⟩)
  |(refine ag rfl (nT ys xs hy hx hm hl) ?_;rintro _ ⟨n,rfl⟩)
  |exact gI rfl rfl)
 all_goals (conv=>whnf)
theorem sY (c:Int):Tg 238 [oU8 c] GB:=by
 refine ae Tryz.func238 ?_
 repeat' (conv=>whnf
          first
  |(refine aA (fun h=>?_) (fun h=>?_))
  |exact gB rfl rfl)
 all_goals (conv=>whnf)
theorem vl (s:ByteArray) (hs:s.size≤maxLen):Tg 218 [oS s] GB:=by
 refine ae Tryz.func218 ?_
 repeat' (conv=>whnf
          first
  |(refine aA (fun h=>?_) (fun h=>?_))
  |(refine bR (fun h=>?_) (fun h=>?_))
  |(refine aG (fun h=>?_) (fun h=>?_))
  |(refine ol (by omega) (by omega) ?_;intro bb)
  |(refine ag rfl (sY _) ?_;rintro _ ⟨b,rfl⟩)
  |exact gB rfl rfl
  |(apply aL [0,23,24] [] [24] (RI s.size) (s.size) [iV .i64 0];(conv=>whnf);exact⟨rfl,rfl,rfl,rfl⟩;exact rfl;exact rfl;exact RI.zero;rintro _ _ ⟨i,hi,rfl,rfl⟩)
  |(refine aj [0,23,24] [] ?_;(conv=>whnf);exact⟨rfl,_,[_],RI.succ (N:=s.size) (i:=i) (by omega) hs,rfl,rfl,rfl,by omega⟩))
 all_goals (conv=>whnf)
theorem zM (s:ByteArray) (hs:s.size≤maxLen):Tg 175 [oS s] GB:=by
 refine ae Tryz.func175 ?_
 repeat' (conv=>whnf
          first
  |(refine aA (fun h=>?_) (fun h=>?_))
  |(refine aG (fun h=>?_) (fun h=>?_))
  |(refine ol (by omega) (by omega) ?_;intro bb)
  |exact gB rfl rfl
  |(apply aL [0,7,8] [] [8] (RI s.size) (s.size) [iV .i64 0];(conv=>whnf);exact⟨rfl,rfl,rfl,rfl⟩;exact rfl;exact rfl;exact RI.zero;rintro _ _ ⟨i,hi,rfl,rfl⟩)
  |(refine aj [0,7,8] [] ?_;(conv=>whnf);exact⟨rfl,_,[_],RI.succ (N:=s.size) (i:=i) (by omega) hs,rfl,rfl,rfl,by omega⟩))
 all_goals (conv=>whnf)
def IsI (e:List T):Prop:= ∃a,e=[tI a]
end Go.aS.Cd
end
section
namespace Go.aS.Cd
open Go Go.Proofs
set_option maxRecDepth 100000
abbrev oU (n:Int):W:= .one (.t (.val (.int .u64 n)))
theorem OH (n:Int):0≤IntKind.u8.wrap n∧IntKind.u8.wrap n < 256:=by
 simp[IntKind.wrap,IntKind.bits,IntKind.signed];omega
theorem sP (x:Int):Tg 118 [oU x] (nP (fun n=>0≤n∧n≤64)):=by
 refine ae Tryz.func118 ?_
 repeat' (conv=>whnf
          first
  |(refine aA (fun h=>?_) (fun h=>?_))
  |(refine IW (N:=256) (B:=8) (by kernel_rfl) (by kernel_rfl) (OH _).1 (OH _).2 ?_;intro bb BV)
  |(refine And.intro (by omega) ?_)
  |(refine iK rfl rfl ?_;simp (disch:=omega) only[aa];omega))
 all_goals (conv=>whnf)
theorem wF (x:Int):Tg 87 [oU x] (nP (fun n=>0≤n∧n≤64)):=by
 refine ae Tryz.func87 ?_
 repeat' (conv=>whnf
          first
  |(refine ag rfl (sP _) ?_;rintro _ ⟨n,rfl,h1,h2⟩)
  |exact iK rfl rfl ⟨h1,h2⟩)
 all_goals (conv=>whnf)
theorem Jf (k:Nat) (h:k≤60):IntKind.i64.wrap (1 * 2 ^ (min k IntKind.i64.bits))=((2 ^ k:Nat):Int)∧1≤2 ^ k∧2 ^ k≤1152921504606846976:=by
 have h1:2 ^ k≤2 ^ 60:=Nat.pow_le_pow_right (by omega) h
 have h2:1≤2 ^ k:=Nat.one_le_two_pow
 have e:min k IntKind.i64.bits=k:=by simp only[IntKind.bits];omega
 refine⟨?_,h2,by simpa using h1⟩
 rw[e,Int.one_mul]
 have e2:((2:Int) ^ k)=((2 ^ k:Nat):Int):=by simp
 rw[e2]
 exact aa (by omega) (by omega)
theorem DK {a:Int} (h0:0≤a) (h1:a < 9223372036854775808):IntKind.i64.wrap (a.tdiv 2)=a / 2:=by
 rw[Int.tdiv_eq_ediv_of_nonneg h0,aa (by omega) (by omega)]
theorem Gp {n x:Int} (h0:0≤n) (h1:1≤x):0≤n.tdiv x∧n.tdiv x≤n:=by
 rw[Int.tdiv_eq_ediv_of_nonneg h0]
 exact⟨Int.ediv_nonneg h0 (by omega),Int.ediv_le_self _ h0⟩
theorem Mt {n x:Int} (h0:2≤n) (h1:n≤9223372036854775806) (hx:1≤x) (UL:x≤1152921504606846976):
 1≤IntKind.i64.wrap ((IntKind.i64.wrap (x+IntKind.i64.wrap (n.tdiv x))).tdiv 2):=by
 obtain⟨q0,q1⟩:=Gp (n:=n) (x:=x) (by omega) hx
 have q2:x=1∨n.tdiv x≤4611686018427387903:=by
  by_cases h:x=1
  · exact .inl h
  · right
    rw[Int.tdiv_eq_ediv_of_nonneg (by omega)]
    have h3:n / x * x≤n:=Int.ediv_mul_le _ (by omega)
    have h4:0≤n / x:=Int.ediv_nonneg (by omega) (by omega)
    have h5:n / x * 2≤n / x * x:=Int.mul_le_mul_of_nonneg_left (by omega) h4
    omega
 have q3:x=1→n.tdiv x=n:=fun h=>by subst h;simp
 rw[aa (n:=n.tdiv x) (by omega) (by omega)]
 rw[aa (n:=x+n.tdiv x) (by omega) (by rcases q2 with h|h<;>omega)]
 rw[DK (by omega) (by rcases q2 with h|h<;>omega)]
 rcases q2 with h|h
 · have:=q3 h;omega
 · by_cases qL:x=1
   · have:=q3 qL;omega
   · omega
theorem yG {r:Int} (h1:0≤r) (h2:r≤64):(0≤IntKind.i64.wrap ((IntKind.i64.wrap (r+1)).tdiv 2))∧1≤IntKind.i64.wrap (1 * 2 ^ (min (IntKind.i64.wrap ((IntKind.i64.wrap (r+1)).tdiv 2)).toNat IntKind.i64.bits))∧IntKind.i64.wrap (1 * 2 ^ (min (IntKind.i64.wrap ((IntKind.i64.wrap (r+1)).tdiv 2)).toNat IntKind.i64.bits))≤1152921504606846976:=by
 rw[aa (n:=r+1) (by omega) (by omega),DK (by omega) (by omega)]
 obtain⟨a,b,c⟩:=Jf (((r+1) / 2).toNat) (by omega)
 rw[a]
 omega
theorem ww (n:Int) (h1:n≤9223372036854775806):Tg 226 [oI n] GI:=by
 refine ae Tryz.func226 ?_
 repeat' (conv=>whnf
          first
  |(refine aA (fun h=>?_) (fun h=>?_))
  |(refine And.intro (yG rT qN).1 ?_)
  |(refine And.intro (by omega) ?_)
  |(refine ag rfl (wF _) ?_;rintro _ ⟨r,rfl,rT,qN⟩)
  |exact gI rfl rfl
  |(apply aL [0,3] [] [3] (fun m vs=> ∃x:Int,1≤x∧x≤1152921504606846976∧m=x.toNat∧vs=[iV .i64 x]) ((IntKind.i64.wrap (1 * 2 ^ (min (IntKind.i64.wrap ((IntKind.i64.wrap (r+1)).tdiv 2)).toNat IntKind.i64.bits))).toNat) [_];(conv=>whnf);exact⟨rfl,rfl,rfl,rfl⟩;exact rfl;exact rfl;exact⟨_,(yG rT qN).2.1,(yG rT qN).2.2,rfl,rfl⟩;rintro _ _ ⟨x,qL,UL,rfl,rfl⟩)
  |(refine aj [0,3] [] ?_;(conv=>whnf);exact⟨rfl,_,[_],⟨_,Mt (by omega) h1 qL UL,by omega,rfl,rfl⟩,rfl,rfl,rfl,by omega⟩))
 all_goals (conv=>whnf)
end Go.aS.Cd
end
section
namespace Go.aS
open Go
variable {P:Program}
abbrev iA:T:= .val (.slice none 0 0)
inductive KJ:C→C→Prop
 |refl (c:C):KJ c c
 |nil (sz:Nat):KJ (.t iA) (.t (.av sz []))
inductive cQ:List C→List C→Prop
 |nil:cQ [] []
 |cons {a b:C} {r s:List C} (h:KJ a b) (t:cQ r s):cQ (a::r) (b::s)
inductive wi:W→W→Prop
 |one {a b:C} (h:KJ a b):wi (.one a) (.one b)
 |agg {r s:List C} (h:cQ r s):wi (.agg r) (.agg s)
inductive je:List W→List W→Prop
 |nil:je [] []
 |cons {a b:W} {r s:List W} (h:wi a b) (t:je r s):je (a::r) (b::s)
theorem cQ.refl: ∀l:List C,cQ l l
 | []=> .nil
 |_::r=> .cons (.refl _) (cQ.refl r)
theorem wi.refl: ∀u:W,wi u u
 | .one c=> .one (.refl c)
 | .agg cs=> .agg (cQ.refl cs)
theorem je.refl: ∀l:List W,je l l
 | []=> .nil
 |_::r=> .cons (wi.refl _) (je.refl r)
variable {w:World} {A:Nat→Prop} {ρ:Env}
theorem KJ.rc {a b:C} {x:Value} (h:KJ a b) (hr:RC w A ρ a x):RC w A ρ b x:=by
 cases h with
 |refl=>exact hr
 |nil sz=>
  have dr:RT w A iA x:=hr
  cases dr
  exact RT.nil
theorem cQ.len {r s:List C} (h:cQ r s):r.length=s.length:=by
 induction h with
 |nil=>rfl
 |cons _ _ ih=>simp[ih]
theorem cQ.get {r s:List C} (h:cQ r s): ∀ {k:Nat} {b:C},s[k]? =some b→ ∃a,r[k]? =some a∧KJ a b:=by
 induction h with
 |nil=>intro k b hb;simp at hb
 |cons hh _ ih=>
  intro k c hb
  cases k with
  |zero=>simp only[List.getElem?_cons_zero,Option.some.injEq]at hb;subst hb;exact⟨_,rfl,hh⟩
  |succ k=>exact ih hb
theorem je.len {r s:List W} (h:je r s):r.length=s.length:=by
 induction h with
 |nil=>rfl
 |cons _ _ ih=>simp[ih]
theorem je.get {r s:List W} (h:je r s): ∀ {k:Nat} {b:W},s[k]? =some b→ ∃a,r[k]? =some a∧wi a b:=by
 induction h with
 |nil=>intro k b hb;simp at hb
 |cons hh _ ih=>
  intro k c hb
  cases k with
  |zero=>simp only[List.getElem?_cons_zero,Option.some.injEq]at hb;subst hb;exact⟨_,rfl,hh⟩
  |succ k=>exact ih hb
theorem wi.rw {a b:W} {x:Value} (h:wi a b) (hr:RW w A ρ a x):RW w A ρ b x:=by
 cases h with
 |one h=>exact⟨h.rc hr.1,hr.2⟩
 |agg h=>
  obtain⟨vs,h1,h2,h3⟩:=hr
  refine⟨vs,h1,by rw[←h.len];exact h2,fun k c y hc hy=>?_⟩
  obtain⟨c',Cy,hle⟩:=h.get hc
  exact⟨hle.rc (h3 k c' y Cy hy).1,(h3 k c' y Cy hy).2⟩
theorem je.rws {a b:List W} {xs:List Value} (h:je a b) (hr:wY w A ρ a xs):wY w A ρ b xs:=by
 refine⟨by rw[←h.len];exact hr.1,fun k u x hu hx=>?_⟩
 obtain⟨u',zh,hle⟩:=h.get hu
 exact hle.rw (hr.2 k u' x zh hx)
theorem je.rv {a b:List W} {x:Value} (h:je a b) (hr:RV w A ρ (aQ a) x):RV w A ρ (aQ b) x:=by
 cases h with
 |nil=>exact hr
 |cons h t=>
  cases t with
  |nil=>exact h.rw hr
  |cons h2 t=>
   obtain⟨vs,h1,TD,h3⟩:=hr
   have hh:=je.cons h (je.cons h2 t)
   refine⟨vs,h1,by rw[←hh.len];exact TD,fun k u y hu hy=>?_⟩
   obtain⟨u',zh,hle⟩:=hh.get hu
   exact hle.rw (h3 k u' y zh hy)
theorem Fn.FW {f:FuncId} {args args' ts ts':List W} {hin hout:HS} (h:Fn P f args hin (aQ ts) hout) (ha:je args' args) (hr:je ts ts'):Fn P f args' hin (aQ ts') hout:=by
 intro w A ρ xs hH hx
 refine(h w A ρ xs hH (ha.rws hx)).mono ?_
 rintro e w' ⟨x,A',ρ',F',h1,h2,h3⟩
 exact⟨x,A',ρ',F',h1,hr.rv h2,h3⟩
theorem KJ.bY {a b:C} (h:KJ a b) (hT:a.bY=true):b.bY=true:=by
 cases h with
 |refl=>exact hT
 |nil=>rfl
theorem cQ.bY {a b:List C} (h:cQ a b) (hT:a.all C.bY=true):b.all C.bY=true:=by
 induction h with
 |nil=>rfl
 |cons hh _ ih=>
  simp only[List.all_cons,Bool.and_eq_true]at hT⊢
  exact⟨hh.bY hT.1,ih hT.2⟩
theorem wi.bY {a b:W} (h:wi a b) (hT:a.bY=true):b.bY=true:=by
 cases h with
 |one h=>exact h.bY hT
 |agg h=>exact h.bY hT
theorem je.bY {a b:List W} (h:je a b) (hT:a.all W.bY=true):b.all W.bY=true:=by
 induction h with
 |nil=>rfl
 |cons hh _ ih=>
  simp only[List.all_cons,Bool.and_eq_true]at hT⊢
  exact⟨hh.bY hT.1,ih hT.2⟩
def Wk (Good:List W→Prop) (ts:List W):Prop:= ∃ts',je ts ts'∧ts.all W.bY=true∧Good ts'
theorem aK {f:FuncId} {args:List W} {Good:List W→Prop} (h: ∃ts,Fn P f args [] (aQ ts) []∧(aQ ts).bY=true∧Wk Good ts): ∃ts,Fn P f args [] (aQ ts) []∧(aQ ts).bY=true∧Good ts:=by
 obtain⟨ts,h1,_,ts',h3,h4,h5⟩:=h
 exact⟨ts',h1.FW (je.refl _) h3,uk (h3.bY h4),h5⟩
theorem zB {f:FuncId} {args args':List W} {Good:List W→Prop} (h: ∃ts,Fn P f args [] (aQ ts) []∧(aQ ts).bY=true∧Good ts) (ha:je args' args): ∃ts,Fn P f args' [] (aQ ts) []∧(aQ ts).bY=true∧Good ts:=by
 obtain⟨ts,h1,h2,h3⟩:=h
 exact⟨ts,h1.FW ha (je.refl _),h2,h3⟩
def tr (xs:Lz):List (List C):=xs.map fun e=>e.map .t
def az (rows:List (List C)) (xs:Lz):Prop:=rows=tr xs
theorem eJ (xs:Lz) (f:Nat→Option Nat):(tr xs).map (fun e=>e.map (C.ak f))=tr xs:=by
 unfold tr
 rw[List.map_map]
 apply List.map_congr_left
 intro e _
 exact DB e f
theorem K0 (xs:Lz) (n:Nat):(tr xs).map (fun e=>e.map (C.up n))=tr xs:=by
 unfold tr
 rw[List.map_map]
 apply List.map_congr_left
 intro e _
 simp only[Function.comp,List.map_map]
 rfl
theorem az.ak {rows:List (List C)} {xs:Lz} (h:az rows xs) (f:Nat→Option Nat):az (rows.map fun e=>e.map (C.ak f)) xs:=by
 unfold az at h⊢
 rw[h,eJ]
theorem az.set {rows:List (List C)} {xs:Lz} (h:az rows xs) (i:Nat) (e:List T):az (rows.set i (e.map .t)) (xs.set i e):=by
 unfold az at h⊢
 rw[h]
 unfold tr
 rw[List.map_set]
theorem az.snoc {rows:List (List C)} {xs:Lz} (h:az rows xs) (e:List T):az (rows++[e.map .t]) (xs++[e]):=by
 unfold az at h⊢
 rw[h]
 unfold tr
 simp
theorem az.IP {rows:List (List C)} {xs:Lz} (h:az rows xs) (ys:Lz):az (rows++tr ys) (xs++ys):=by
 unfold az at h⊢
 rw[h]
 unfold tr
 simp
theorem az.replicate (n:Nat) (e:List T):az (List.replicate n (e.map .t)) (List.replicate n e):=by
 unfold az tr
 simp
theorem az.nil:az [] []:=rfl
theorem az.len {rows:List (List C)} {xs:Lz} (h:az rows xs):rows.length=xs.length:=by
 rw[h];simp[tr]
theorem cv {Pd:List T→Prop} {rows:List (List C)} {xs:Lz} {i:Nat} {K:List C→Prop} (h:az rows xs) (hx: ∀e,e∈xs→Pd e) (hi:i < xs.length) (hk: ∀e,Pd e→xs[i]? =some e→K (e.map .t)):sK rows i K:=by
 have e1:xs[i]? =some xs[i]:=by simp[hi]
 have:rows[i]? =some (xs[i].map .t):=by rw[h];simp[tr,hi]
 simp only[sK,this]
 exact hk _ (hx _ (List.getElem_mem hi)) e1
theorem oW {hp:HS} {d:Nat}: ∀ (xs:Lz),bu (bu (cN d hp)) (tr xs)=some xs
 | []=>rfl
 |e::xs=>by
  have hone: ∀e:List T,bu (cN d hp) (e.map .t)=some e:=by
   intro e
   induction e with
   |nil=>rfl
   |cons x e ih=>
    have:cN d hp (.t x)=some x:=by cases d<;>rfl
    simp only[List.map_cons,bu,this,ih]
  have:=oW (hp:=hp) (d:=d) xs
  unfold tr at this⊢
  simp only[List.map_cons,bu,hone,this]
theorem tR (xs:Lz) (i len:Nat):((tr xs).drop i).take len=tr ((xs.drop i).take len):=by
 unfold tr
 simp
theorem lF {hp:HS} {id sz i len:Nat} {rows:List (List C)} {xs:Lz} (hf:find hp id=some (.row sz rows)) (hR:az rows xs) (hl:i+len≤xs.length):
 bB hp (.one (.own id sz i len))=some (.one (.t (.av sz ((xs.drop i).take len)))):=by
 have hl':i+len≤rows.length:=by rw[hR.len];exact hl
 have:cN 6 hp (.own id sz i len)=some (.av sz ((xs.drop i).take len)):=by
  simp only[cN,hf,true_and,hl',if_true]
  rw[hR,tR,oW]
  rfl
 simp only[bB,this,Option.map_some]
def Rs (P:Program) (hp:HS) (tm:TS) (r:ResultVar) (u:W):Prop:= ∃a b,cg P hp tm r=some a∧bB hp a=some b∧wi b u
theorem bX {hp:HS} {tm:TS} {t:Nat} {x:T} (h:find tm t=some (.w (.one (.t x)))):Rs P hp tm (.tmp t) (.one (.t x)):=
 ⟨.one (.t x), .one (.t x),by simp only[cg,h],rfl,wi.refl _⟩
theorem bP {hp:HS} {tm:TS} {t:Nat} (sz:Nat) (h:find tm t=some (.w (.one (.t iA)))):Rs P hp tm (.tmp t) (.one (.t (.av sz []))):=
 ⟨.one (.t iA), .one (.t iA),by simp only[cg,h],rfl, .one (.nil sz)⟩
theorem eR {hp:HS} {tm:TS} {t id sz i len:Nat} {rows:List (List C)} {xs:Lz} (h:find tm t=some (.w (.one (.own id sz i len)))) (hf:find hp id=some (.row sz rows)) (hR:az rows xs) (hl:i+len≤xs.length):Rs P hp tm (.tmp t) (.one (.t (.av sz ((xs.drop i).take len)))):=
 ⟨.one (.own id sz i len),_,by simp only[cg,h],lF hf hR hl,wi.refl _⟩
theorem bF {tm:TS} {hp:HS} {b ty n:Nat} {c:C} {cs:List C} {j:Nat} {ts:List T} {ds:List C} (ha:iQ P ty=some true) (hz:cG P ty=some n)
 (h:find tm b=some (.w (.one c))) (hd:deref hp c=some (cs,j)) (hl:j+n≤cs.length) (hts:bu (cN 6 hp) ((cs.drop j).take n)=some ts) (hle:cQ (ts.map .t) ds):Rs P hp tm (.cell b ty) (.agg ds):=by
 refine⟨.agg ((cs.drop j).take n), .agg (ts.map .t),?_,?_, .agg hle⟩
 · simp only[cg,h,dY,hd,js,ha,hz,if_pos hl,Option.map_some]
 · simp only[bB,hts,Option.map_some]
theorem mh {hp:HS} {tm:TS} {rs:List ResultVar} {r1:ResultVar} {u1:W} {Good:List W→Prop} (hr:rs=[r1]) (h1:Rs P hp tm r1 u1) (hg:Good [u1]):
 ∃us ts,aM P hp tm rs=some us∧bu (bB hp) us=some ts∧Wk Good ts:=by
 subst hr
 obtain⟨a,b,e1,e2,e3⟩:=h1
 exact⟨[a],[b],by simp only[aM,e1],by simp only[bu,e2],[u1], .cons e3 .nil,by simp[gb e2],hg⟩
theorem dA {hp:HS} {tm:TS} {rs:List ResultVar} {r1 r2:ResultVar} {u1 u2:W} {Good:List W→Prop} (hr:rs=[r1,r2]) (h1:Rs P hp tm r1 u1) (h2:Rs P hp tm r2 u2) (hg:Good [u1,u2]):
 ∃us ts,aM P hp tm rs=some us∧bu (bB hp) us=some ts∧Wk Good ts:=by
 subst hr
 obtain⟨a,b,e1,e2,e3⟩:=h1
 obtain⟨c,d,k1,k2,k3⟩:=h2
 exact⟨[a,c],[b,d],by simp only[aM,e1,k1],by simp only[bu,e2,k2],[u1,u2], .cons e3 (.cons k3 .nil),by simp[gb e2,gb k2],hg⟩
theorem Fb {hp:HS} {tm:TS} {rs:List ResultVar} {r1 r2 r3:ResultVar} {u1 u2 u3:W} {Good:List W→Prop} (hr:rs=[r1,r2,r3]) (h1:Rs P hp tm r1 u1) (h2:Rs P hp tm r2 u2) (h3:Rs P hp tm r3 u3) (hg:Good [u1,u2,u3]):
 ∃us ts,aM P hp tm rs=some us∧bu (bB hp) us=some ts∧Wk Good ts:=by
 subst hr
 obtain⟨a,b,e1,e2,e3⟩:=h1
 obtain⟨c,d,k1,k2,k3⟩:=h2
 obtain⟨c',d',j1,j2,j3⟩:=h3
 exact⟨[a,c,c'],[b,d,d'],by simp only[aM,e1,k1,j1],by simp only[bu,e2,k2,j2],[u1,u2,u3], .cons e3 (.cons k3 (.cons j3 .nil)),by simp[gb e2,gb k2,gb j2],hg⟩
def GN (sz:Nat) (p:Lz→Prop) (ts:List W) (hout:HS):Prop:= ∃xs,ts=[.one (.own 0 sz 0 xs.length)]∧hout=[(0, .row sz (tr xs))]∧p xs
theorem gN {hp:HS} {tm:TS} {rs:List ResultVar} {t id sz len:Nat} {rows:List (List C)} {xs:Lz} {p:Lz→Prop} (hr:rs=[.tmp t]) (h:find tm t=some (.w (.one (.own id sz 0 len)))) (hf:find hp id=some (.row sz rows)) (hR:az rows xs) (hl:len=xs.length) (hg:p xs):
 ∃us ids,aM P hp tm rs=some us∧(ids.length≤4∧ids.Nodup)∧GN sz p (us.map (W.ak (bz ids))) (cJ (bz ids) hp 0 ids):=by
 subst hr
 subst hl
 refine⟨[.one (.own id sz 0 xs.length)],[id],by simp only[aM,cg,h],⟨by simp,by simp⟩,xs,?_,?_,hg⟩
 · simp[W.ak,C.ak,bz]
 · simp only[cJ,hf,bi.ak]
   rw[hR,eJ]
theorem B1 {f:FuncId} {us:List W} {hp:HS} {ctr sz:Nat} {K:V→HS→Prop} {p:Lz→Prop} (hT:qe us=true) (h: ∃ts hout,Ab P f us (aQ ts) hout∧GN sz p ts hout)
 (hk: ∀xs,p xs→K (.w (.one (.own (0+ctr) sz 0 xs.length))) ((0+ctr, .row sz (tr xs))::hp)): ∃v aF,eu P hp ctr f us v aF∧K v aF:=by
 obtain⟨ts,hout,h1,xs,rfl,rfl,h2⟩:=h
 refine⟨_,_,CU hT h1,?_⟩
 have:=hk xs h2
 simp only[aQ,V.up,W.up,C.up,fq,bi.up,Nat.zero_lt_succ,if_true,K0]at this⊢
 exact this
theorem Ri {f:FuncId} {us:List W} {hp:HS} {ctr sz:Nat} {K:V→HS→Nat→Prop} {p:Lz→Prop} (hT:qe us=true) (h: ∃ts hout,Ab P f us (aQ ts) hout∧GN sz p ts hout)
 (hk: ∀xs,p xs→K (.w (.one (.own (0+ctr) sz 0 xs.length))) ((0+ctr, .row sz (tr xs))::hp) (ctr+4)): ∃v aF c',dK P f us hp ctr v aF c'∧K v aF c':=by
 obtain⟨v,aF,h1,h2⟩:=B1 (hp:=hp) (ctr:=ctr) (K:=fun v aF=>K v aF (ctr+4)) hT h hk
 exact⟨v,aF,ctr+4,jC h1,h2⟩
theorem MZ {hp:HS} {sz:Nat} {xs ys:Lz} (h:find hp 0=some (.row sz (tr ys))):kp [(0, .row sz (tr xs))] hp [(0, .row sz (tr ys))]:=by
 refine⟨fun k b hk=>?_,fun k blk hk=>?_⟩
 · simp only[find]at hk
   split at hk
   · rename_i e;subst e;exact⟨by omega,_,h⟩
   · simp at hk
 · simp only[find]at hk
   split at hk
   · rename_i e
     subst e
     simp only[Option.some.injEq]at hk
     subst hk
     refine⟨h,rfl,fun e he c hc=>?_⟩
     simp only[tr,List.mem_map]at he
     obtain⟨e',_,rfl⟩:=he
     simp only[List.mem_map]at hc
     obtain⟨c',_,rfl⟩:=hc
     rfl
   · simp at hk
theorem FP {f:FuncId} {us args:List W} {hp:HS} {ctr id sz:Nat} {rows:List (List C)} {xs:Lz} {K:V→HS→Prop} {Good:List W→HS→Prop} (hsub:(us.flatMap W.ids).head? =some id) (hf:find hp id=some (.row sz rows)) (h: ∃ts hout,Fn P f args [(0, .row sz (tr xs))] (aQ ts) hout∧hout=[(0, .row sz (tr xs))]∧Good ts hout)
 (ha:us.map (W.ak (bz [id]))=args) (hR:az rows xs)
 (hk: ∀ts,Good ts [(0, .row sz (tr xs))]→K ((aQ ts).ak (fun j=>[id][j]?)) hp): ∃v aF,eu P hp ctr f us v aF∧K v aF:=by
 obtain⟨ts,hout,h1,rfl,h2⟩:=h
 refine⟨_,_, .inr ⟨rfl,CV [id] (by simp) (by simp) (fun i hi=>?_) h1 ha ?_ (fun i hi=>?_)⟩,hk ts h2⟩
 · simp only[List.mem_singleton]at hi
   subst hi
   exact List.mem_of_mem_head? (by rw[hsub];rfl)
 · simp only[cJ,hf,bi.ak]
   rw[hR,eJ]
 · simp only[List.mem_singleton]at hi
   subst hi
   refine⟨_,hf,?_⟩
   simp only[bi.ak]
   rw[hR,eJ,eJ]
theorem Eg {f:FuncId} {us args:List W} {hp:HS} {ctr id sz:Nat} {rows:List (List C)} {xs:Lz} {K:V→HS→Nat→Prop} {Good:List W→HS→Prop} (hsub:(us.flatMap W.ids).head? =some id) (hf:find hp id=some (.row sz rows)) (h: ∃ts hout,Fn P f args [(0, .row sz (tr xs))] (aQ ts) hout∧hout=[(0, .row sz (tr xs))]∧Good ts hout)
 (ha:us.map (W.ak (bz [id]))=args) (hR:az rows xs)
 (hk: ∀ts,Good ts [(0, .row sz (tr xs))]→K ((aQ ts).ak (fun j=>[id][j]?)) hp (ctr+4)): ∃v aF c',dK P f us hp ctr v aF c'∧K v aF c':=by
 obtain⟨v,aF,h1,h2⟩:=FP (hp:=hp) (ctr:=ctr) (K:=fun v aF=>K v aF (ctr+4)) hsub hf h ha hR hk
 exact⟨v,aF,ctr+4,jC h1,h2⟩
abbrev Ul (sz:Nat) (xs:Lz) (G:List W→Prop) (ts:List W) (hout:HS):Prop:=hout=[(0, .row sz (tr xs))]∧G ts
theorem Cp {hp:HS} {sz:Nat} {rows:List (List C)} {xs ys:Lz} (h:find hp 0=some (.row sz rows)) (hR:az rows ys):kp [(0, .row sz (tr xs))] hp [(0, .row sz (tr ys))]:=MZ (by rw[h,hR])
theorem TG {hp:HS} {tm:TS} {rs:List ResultVar} {t sz i len:Nat} {rows:List (List C)} {xs:Lz} {G:List W→Prop} (hr:rs=[.tmp t]) (h:find tm t=some (.w (.one (.own 0 sz i len)))) (hf:find hp 0=some (.row sz rows)) (hR:az rows xs) (hg:G [.one (.own 0 sz i len)]):
 ∃us ts hout,aM P hp tm rs=some us∧bu (yJ [(0, .row sz (tr xs))] hp) us=some ts∧kp [(0, .row sz (tr xs))] hp hout∧Ul sz xs G ts hout:=by
 subst hr
 refine⟨[.one (.own 0 sz i len)],[.one (.own 0 sz i len)],_,by simp only[aM,cg,h],?_,Cp hf hR,rfl,hg⟩
 simp only[bu,yJ,SC,G1,find,if_true,Option.isSome_some]
theorem YW {hp:HS} {tm:TS} {rs:List ResultVar} {t id sz cV i len:Nat} {rows fZ:List (List C)} {xs ys:Lz} {G:List W→Prop} (hr:rs=[.tmp t]) (h:find tm t=some (.w (.one (.own id cV i len)))) (bJ:Nat.blt id 4=false) (A3:find (pX hp) id=some (.row cV fZ)) (U4:az fZ ys) (hl:i+len≤ys.length)
 (hf:find hp 0=some (.row sz rows)) (hR:az rows xs) (hg:G [.one (.t (.av cV ((ys.drop i).take len)))]):
 ∃us ts hout,aM P hp tm rs=some us∧bu (yJ [(0, .row sz (tr xs))] hp) us=some ts∧kp [(0, .row sz (tr xs))] hp hout∧Ul sz xs G ts hout:=by
 subst hr
 have JR:¬id < 4:=by
  intro hlt
  have:Nat.blt id 4=true:=by simpa using hlt
  rw[bJ]at this
  simp at this
 refine⟨[.one (.own id cV i len)],_,_,by simp only[aM,cg,h],?_,Cp hf hR,rfl,hg⟩
 have hne:SC [(0,bi.row sz (tr xs))] (.one (.own id cV i len))=false:=by
  have:¬ (0=id):=by omega
  simp only[SC,G1,find,this,if_false,Option.isSome_none]
 simp only[bu,yJ,hne,Bool.false_eq_true,if_false,lF A3 U4 hl]
def Sm:List (Nat×Nat)→List (Lz)→HS
 |(id,sz)::L,xs::xss=>(id, .row sz (tr xs))::Sm L xss
 |_,_=>[]
inductive nj:List (Nat×Nat)→HS→List (Lz)→Prop
 |nil:nj [] [] []
 |cons {id sz:Nat} {L:List (Nat×Nat)} {rows:List (List C)} {xs:Lz} {hp:HS} {xss:List (Lz)} (h:az rows xs) (t:nj L hp xss):nj ((id,sz)::L) ((id, .row sz rows)::hp) (xs::xss)
theorem nj.eq {L:List (Nat×Nat)} {hp:HS} {xss:List (Lz)} (h:nj L hp xss):hp=Sm L xss:=by
 induction h with
 |nil=>rfl
 |cons h _ ih=>simp only[Sm];rw[h,ih]
theorem bH {n:Nat} {b:Rc} {Q:Exit→TS→HS→Nat→Prop} {tm:TS} {hp:HS} {ctr:Nat} (keys:List Nat) (nest:List (Nat×Nat)) (ks:List Nat) (L:List (Nat×Nat)) (R:Nat→List V→List (Lz)→Prop) (m0:Nat) (ym:List V) {hJ:List (Lz)} {lc:TS} {o6:HS} {cB:Nat}
 (hB:Bb (vQ keys nest tm hp) fun S=>pS (S.tm tm) fun t=>qT (S.hp hp) fun q=>S.ok=true∧t=lc∧q=o6∧S.ctr=cB)
 (D4:lc.length=keys.length) (h0:lc=j5 ks ym lc) (hH:nj L o6 hJ) (J0:R m0 ym hJ)
 (hstep: ∀m vs xss,R m vs xss→pS (j5 ks vs lc) fun nF=>qT (Sm L xss) fun hq=>X P n b (gU (bM fun bf aF c'=> ∃m' vs' xss',nj L aF xss'∧R m' vs' xss'∧bf=j5 ks vs' lc∧c'=cB∧m' < m) Q) nF hq cB):
 ∃I:Nat→TS→HS→Nat→Prop,bM (fun tm hp c=> ∃m,I m tm hp c) tm hp ctr∧
  ∀m tm hp c,I m tm hp c→X P n b (gU (bM fun tm hp c=> ∃m',m' < m∧I m' tm hp c) Q) tm hp c:=by
 rw[nx,fO,iz]at hB
 obtain⟨hS,e1,e2,e3⟩:=hB
 refine⟨fun m bf aF c'=> ∃vs' xss',nj L aF xss'∧R m vs' xss'∧bf=j5 ks vs' lc∧c'=cB,bM.mk' ⟨vQ keys nest tm hp,hS,m0,ym,hJ,by rw[e2];exact hH,J0,e1.trans h0,e3⟩,?_⟩
 rintro m bf hq c' ⟨vs,xss,YT,hR,rfl,rfl⟩
 have:=hstep m vs xss hR
 rw[fO,iz, ←YT.eq]at this
 refine(congrArg (fun J=>X P n b (gU (bM J) Q) _ _ _) ?_).mp this
 funext bf aF Vc
 exact propext ⟨fun⟨m',vs',xss',h1,h2,h3,h4,h5⟩=>⟨m',h5,vs',xss',h1,h2,h3,h4⟩,fun⟨m',h5,vs',xss',h1,h2,h3,h4⟩=>⟨m',vs',xss',h1,h2,h3,h4,h5⟩⟩
theorem xj (xs ys:Lz) (i:Nat):aX (tr xs) i (tr ys)=tr (aX xs i ys):=by
 unfold aX tr
 simp
theorem yq (xs:Lz):(tr xs).length=xs.length:=by simp[tr]
theorem tu (xs:Lz) (n:Nat):(tr xs).take n=tr (xs.take n):=by simp[tr]
theorem FU {n d s t1 t2 ty e id sz i len ctr:Nat} {tm:TS} {hp:HS} {c:C} {rows:List (List C)} {xs ys:Lz} {K:V→HS→Prop}
 (hd:find tm d=some (.w (.one (.own id sz i len)))) (hs:find tm s=some (.w (.one c))) (hn:isNil c=false) (he:elems hp c=some (sz,tr ys))
 (ht:P.underlying t1=some (.slice e)) (hz:cG P e=some sz) (hf:find hp id=some (.row sz rows)) (hR:az rows xs) (hl:i+len≤xs.length)
 (hk:K (iV .i64 (((ys.take len).length:Nat):Int)) (jJ hp id (.row sz (tr (aX xs i (ys.take len)))))):
 ∃v aF,gR P n (.call ⟨.builtin .copy, #[.tmp d, .tmp s], #[t1,t2]⟩) ty tm hp ctr v aF∧K v aF:=by
 refine⟨_,_,?_,hk⟩
 rintro⟨dst',op',ty',pos',after',guard'⟩ rfl rfl
 have CB:rows=tr xs:=hR
 subst CB
 by_cases h0:(ys.take len).length=0
 · have dJ:ai P (St.get ⟨n,tm,hp⟩) hp ctr ⟨dst', .call ⟨.builtin .copy, #[.tmp d, .tmp s], #[t1,t2]⟩,ty',pos',after',guard'⟩=some (.w (.one (.t (.val (goInt 0)))),hp):=by
    simp only[ai,St.get,hd,hs,Option.getD_some,eB,ht,hz,hn,he,Bool.false_eq_true,if_false,tu,yq,h0,if_true]
   intro M A ρ a w hr
   obtain⟨x,w',A',ρ',g1,g2,g3⟩:=lI dJ M A ρ a w hr
   refine⟨x,w',A',ρ',g1,g2.forget rfl (fun _ _ h=>h) (fun k b hb=>?_),by rw[h0];exact g3⟩
   simp only[bQ]at hb
   split at hb
   · rename_i ek
     subst ek
     rw[hf]at hb
     simp only[Option.map_some,Option.some.injEq]at hb
     rw[←hb,hf,List.eq_nil_of_length_eq_zero h0]
     simp[aX]
   · exact hb
 · have dJ:ai P (St.get ⟨n,tm,hp⟩) hp ctr ⟨dst', .call ⟨.builtin .copy, #[.tmp d, .tmp s], #[t1,t2]⟩,ty',pos',after',guard'⟩=some (.w (.one (.t (.val (goInt ((ys.take len).length:Int))))),jJ hp id (.row sz (tr (aX xs i (ys.take len))))):=by
    have hl':True∧True∧True∧i+len≤xs.length:=⟨trivial,trivial,trivial,hl⟩
    simp only[ai,St.get,hd,hs,Option.getD_some,eB,ht,hz,hn,he,hf,Bool.false_eq_true,if_false,tu,yq,h0,xj]
    rw[if_pos hl']
   exact lI dJ
end Go.aS
end
section
namespace Go.aS.Cd
open Go
abbrev tU (n:Int):T:= .val (.int .u32 n)
def VW (e:List T):Prop:= ∃n:Int,e=[tU n]∧0≤n∧n < 4294967296
abbrev Us (xs:Lz):Prop:= ∀e,e∈xs→VW e
def lb:List T→Nat
 | [.val (.int _ n)]=>n.toNat
 |_=>0
def nv:Lz→Nat
 | []=>0
 |e::r=>lb e+4294967296 * nv r
theorem jR (n:Int):lb [tU n]=n.toNat:=rfl
theorem VW.lt {e:List T} (h:VW e):lb e < 4294967296:=by obtain⟨n,rfl,h0,h1⟩:=h;rw[jR];omega
theorem yU: ∀ (xs ys:Lz),nv (xs++ys)=nv xs+4294967296 ^ xs.length * nv ys
 | [],ys=>by simp[nv]
 |e::xs,ys=>by
  simp only[List.cons_append,nv,yU xs ys,List.length_cons,Nat.pow_succ]
  grind
theorem yS: ∀ {xs:Lz},(∀e,e∈xs→lb e=0)→nv xs=0
 | [],_=>rfl
 |e::xs,h=>by
  simp only[nv]
  rw[h e List.mem_cons_self,yS (fun q hq=>h q (List.mem_cons_of_mem _ hq))]
theorem uE (xs:Lz) (n:Nat):nv xs=nv (xs.take n)+4294967296 ^ (xs.take n).length * nv (xs.drop n):=by
 rw[←yU,List.take_append_drop]
theorem xE: ∀ {xs:Lz},Us xs→nv xs < 4294967296 ^ xs.length
 | [],_=>by simp[nv]
 |e::xs,h=>by
  have h1:=(h e List.mem_cons_self).lt
  have h2:=xE (xs:=xs) (fun q hq=>h q (List.mem_cons_of_mem _ hq))
  simp only[nv,List.length_cons,Nat.pow_succ]
  omega
theorem Us.take {xs:Lz} (h:Us xs) (n:Nat):Us (xs.take n):=fun e he=>h e (List.mem_of_mem_take he)
theorem Us.drop {xs:Lz} (h:Us xs) (n:Nat):Us (xs.drop n):=fun e he=>h e (List.mem_of_mem_drop he)
theorem Us.cut {xs:Lz} (h:Us xs) (a b:Nat):Us ((xs.drop a).take b):=(h.drop a).take b
theorem Us.set {xs:Lz} (h:Us xs) {i:Nat} {n:Int} (h0:0≤n) (hn:n < 4294967296):Us (xs.set i [tU n]):=by
 intro e he
 rcases List.mem_or_eq_of_mem_set he with he|rfl
 · exact h e he
 · exact⟨n,rfl,h0,hn⟩
theorem Us.snoc {xs:Lz} (h:Us xs) {n:Int} (h0:0≤n) (hn:n < 4294967296):Us (xs++[[tU n]]):=by
 intro e he
 simp only[List.mem_append,List.mem_singleton]at he
 rcases he with he|rfl
 · exact h e he
 · exact⟨n,rfl,h0,hn⟩
theorem Us.replicate (k:Nat):Us (List.replicate k [tU (0:Int)]):=by
 intro e he
 obtain⟨_,rfl⟩:=List.mem_replicate.1 he
 exact⟨0,rfl,by omega,by omega⟩
theorem Us.nil:Us []:=fun e he=>by simp at he
theorem yT (k:Nat):nv (List.replicate k [tU (0:Int)])=0:=by
 apply yS
 intro e he
 obtain⟨_,rfl⟩:=List.mem_replicate.1 he
 rfl
def BJ (xs ys:Lz):Prop:=ys.length≤xs.length∧Us ys∧nv ys=nv xs∧(∀e,ys.getLast? =some e→lb e≠0)∧ ∃k,ys=xs.take k
theorem Ah {xs:Lz} {n:Nat} (hx:Us xs) (hn:n≤xs.length) (hz: ∀e,e∈xs.drop n→lb e=0) (hl:n=0∨ ∃e,xs[n - 1]? =some e∧lb e≠0):BJ xs (xs.take n):=by
 refine⟨by simp;omega,hx.take n,?_,?_,n,rfl⟩
 · rw[uE xs n,yS hz];simp
 · intro e he
   rcases hl with rfl|⟨e',h1,h2⟩
   · simp at he
   · have:(xs.take n).getLast? =xs[n - 1]? :=by
      rw[List.getLast?_eq_getElem?,List.getElem?_take]
      have h0:0 < n:=by
       rcases Nat.eq_zero_or_pos n with h|h
       · subst h;simp at he
       · exact h
      rw[if_pos (by simp;omega)]
      congr 1
      simp;omega
     rw[this,h1]at he
     simp only[Option.some.injEq]at he
     subst he
     exact h2
theorem drop_zero {xs:Lz} {n:Nat} {e:List T} (h:xs[n]? =some e) (he:lb e=0) (hz: ∀e,e∈xs.drop (n+1)→lb e=0): ∀e,e∈xs.drop n→lb e=0:=by
 obtain⟨hlt,rfl⟩:=List.getElem?_eq_some_iff.1 h
 intro q hq
 rw[List.drop_eq_getElem_cons hlt]at hq
 rcases List.mem_cons.1 hq with rfl|hq
 · exact he
 · exact hz q hq
theorem Az: ∀ {xs:Lz},(∀e,xs.getLast? =some e→lb e≠0)→xs≠ []→4294967296 ^ (xs.length - 1)≤nv xs
 | [],_,h=>absurd rfl h
 | [e],h,_=>by
   have:=h e rfl
   simp only[nv,List.length_singleton,Nat.sub_self,Nat.pow_zero]
   omega
 |e::e'::r,h,_=>by
  have ih:=Az (xs:=e'::r) (fun q hq=>h q (by simpa using hq)) (by simp)
  simp only[nv,List.length_cons]at ih⊢
  have e1:r.length+1+1 - 1=(r.length+1 - 1)+1:=by omega
  rw[e1,Nat.pow_succ]
  omega
theorem kX (n:Int):IntKind.u32.wrap n=n % 4294967296:=by simp[IntKind.wrap,IntKind.bits,IntKind.signed]
theorem qu (n:Int):IntKind.u64.wrap n=n % 18446744073709551616:=by simp[IntKind.wrap,IntKind.bits,IntKind.signed]
theorem ee (n:Int):0≤IntKind.u32.wrap n:=by rw[kX];omega
theorem eX (n:Int):IntKind.u32.wrap n < 4294967296:=by rw[kX];omega
theorem u64_in {n:Int} (h0:0≤n) (h1:n < 18446744073709551616):IntKind.u64.wrap n=n:=by rw[qu];omega
theorem u32_in {n:Int} (h0:0≤n) (h1:n < 4294967296):IntKind.u32.wrap n=n:=by rw[kX];omega
theorem qB (a:Int) (k:Nat) (hk:k≤64):a.fdiv (2 ^ (min ((k:Int)).toNat IntKind.u64.bits))=a / ((2 ^ k:Nat):Int):=by
 have:min ((k:Int)).toNat IntKind.u64.bits=k:=by simp only[IntKind.bits,Int.toNat_natCast];omega
 rw[this,Int.fdiv_eq_ediv_of_nonneg]
 · simp
 · exact Int.pow_nonneg (by omega)
theorem Ds (a:Int):a.fdiv (2 ^ (min (32:Int).toNat IntKind.u64.bits))=a / 4294967296:=qB a 32 (by omega)
theorem RD (a:Int):a.fdiv (2 ^ (min (63:Int).toNat IntKind.u64.bits))=a / 9223372036854775808:=qB a 63 (by omega)
theorem Gd (a:Int) (k:Nat) (hk:k≤64):IntKind.u64.wrap (a * 2 ^ (min ((k:Int)).toNat IntKind.u64.bits))=(a * ((2 ^ k:Nat):Int)) % 18446744073709551616:=by
 have:min ((k:Int)).toNat IntKind.u64.bits=k:=by simp only[IntKind.bits,Int.toNat_natCast];omega
 rw[this,qu]
 simp
theorem Ge (a:Int):IntKind.u64.wrap (a * 2 ^ (min (32:Int).toNat IntKind.u64.bits))=(a * 4294967296) % 18446744073709551616:=Gd a 32 (by omega)
theorem Gz {a b:Nat} (k:Nat) (ha:a < 2 ^ k):a|||(b * 2 ^ k)=a+b * 2 ^ k:=by
 have h:=Nat.two_pow_add_eq_or_of_lt ha b
 rw[Nat.mul_comm,Nat.or_comm, ←h,Nat.add_comm]
theorem MH {a b:Int} (ha0:0≤a) (ha:a < 4294967296) (hb0:0≤b) (hb:b < 4294967296):
 IntKind.u64.wrap ((BitVec.ofInt IntKind.u64.bits (b * 4294967296)|||BitVec.ofInt IntKind.u64.bits a).toNat:Int)=b * 4294967296+a:=by
 have e: ∀x:Int,0≤x→x < 18446744073709551616→(BitVec.ofInt IntKind.u64.bits x).toNat=x.toNat:=by
  intro x h0 h1
  simp only[BitVec.toNat_ofInt,IntKind.bits]
  congr 1
  omega
 rw[BitVec.toNat_or,e _ (by omega) (by omega),e _ (by omega) (by omega),Nat.or_comm]
 have:=Gz (a:=a.toNat) (b:=b.toNat) 32 (by omega)
 rw[show(b * 4294967296).toNat=b.toNat * 2 ^ 32 by omega,this,u64_in (by omega) (by omega)]
 omega
def Nm (k:Nat) (ys:Lz):Prop:=ys.length≤k∧Us ys∧(∀e,ys.getLast? =some e→lb e≠0)
theorem BJ.nm {xs ys:Lz} {k:Nat} (h:BJ xs ys) (hk:xs.length≤k):Nm k ys:=⟨by have:=h.1;omega,h.2.1,h.2.2.2.1⟩
theorem zL {aZ_ bs:Lz} (ha:Us aZ_) (hb: ∀e,bs.getLast? =some e→lb e≠0) (h:aZ_.length < bs.length):nv aZ_ < nv bs:=by
 have h1:=xE ha
 have h2:=Az hb (by intro e;subst e;simp at h)
 have h3:4294967296 ^ aZ_.length≤4294967296 ^ (bs.length - 1):=Nat.pow_le_pow_right (by omega) (by omega)
 omega
theorem AA {xs:Lz} {k:Nat} {x:Int} (h:xs[k]? =some [tU x]):nv xs=nv (xs.take k)+4294967296 ^ k * (x.toNat+4294967296 * nv (xs.drop (k+1))):=by
 obtain⟨hlt,he⟩:=List.getElem?_eq_some_iff.1 h
 rw[uE xs k,List.drop_eq_getElem_cons hlt,he]
 simp only[nv,jR,List.length_take]
 rw[Nat.min_eq_left (by omega)]
theorem H7 {aZ_ bs:Lz} {k:Nat} {x y:Int} (ha:Us aZ_) (hd:aZ_.drop (k+1)=bs.drop (k+1)) (h1:aZ_[k]? =some [tU x]) (h2:bs[k]? =some [tU y]) (h0:0≤x) (h:x < y):nv aZ_ < nv bs:=by
 rw[AA h1,AA h2,hd]
 have hlt:=xE (ha.take k)
 have hk:(aZ_.take k).length=k:=by
  have:=(List.getElem?_eq_some_iff.1 h1).1
  simp;omega
 rw[hk]at hlt
 have:4294967296 ^ k * (x.toNat+1+4294967296 * nv (bs.drop (k+1)))≤4294967296 ^ k * (y.toNat+4294967296 * nv (bs.drop (k+1))):=Nat.mul_le_mul_left _ (by omega)
 rw[show x.toNat+1+4294967296 * nv (bs.drop (k+1))=(x.toNat+4294967296 * nv (bs.drop (k+1)))+1 by omega,Nat.mul_add]at this
 omega
theorem Fu {aZ_ bs:Lz} {k:Nat} {x:Int} (hd:aZ_.drop (k+1)=bs.drop (k+1)) (h1:aZ_[k]? =some [tU x]) (h2:bs[k]? =some [tU x]):aZ_.drop k=bs.drop k:=by
 obtain⟨g1,e1⟩:=List.getElem?_eq_some_iff.1 h1
 obtain⟨g2,e2⟩:=List.getElem?_eq_some_iff.1 h2
 rw[List.drop_eq_getElem_cons g1,List.drop_eq_getElem_cons g2,e1,e2,hd]
def FA (n:Int) (a b:Nat):Prop:=(n < 0↔a < b)∧(n=0↔a=b)
end Go.aS.Cd
end
section
namespace Go.aS.Cd
open Go Go.Proofs
set_option maxRecDepth 100000
def yf (xs:Lz) (m:Nat) (vs:List V):Prop:= ∃n:Nat,n≤xs.length∧(∀e,e∈xs.drop n→lb e=0)∧m=n∧vs=[iV .i64 (n:Int)]
theorem yf.next {xs:Lz} {n:Nat} {a:Int} (hn:n≤xs.length) (h0:(n:Int) > 0) (hz: ∀e,e∈xs.drop n→lb e=0) (hs:xs[(IntKind.i64.wrap ((n:Int) - 1)).toNat]? =some [tU a]) (ha:a=0) (hl:xs.length≤1000000):
 yf xs (n - 1) [iV .i64 (IntKind.i64.wrap ((n:Int) - 1))]:=by
 have e1:IntKind.i64.wrap ((n:Int) - 1)=((n - 1:Nat):Int):=by rw[aa (by omega) (by omega)];omega
 rw[e1]at hs
 refine⟨n - 1,by omega,?_,rfl,by rw[e1]⟩
 refine drop_zero hs ?_ ?_
 · subst ha
   rfl
 · rw[show n - 1+1=n by omega]
   exact hz
theorem xh {xs:Lz} {n:Nat} (hx:Us xs) (hn:n≤xs.length) (hz: ∀e,e∈xs.drop n→lb e=0) (h:¬ (n:Int) > 0):BJ xs ((xs.drop 0).take ((n:Int).toNat - 0)):=by
 have:=Ah hx hn hz (.inl (by omega))
 simpa using this
theorem xg {xs:Lz} {n:Nat} {a:Int} (hx:Us xs) (hn:n≤xs.length) (hz: ∀e,e∈xs.drop n→lb e=0) (h:(n:Int) > 0) (hs:xs[(IntKind.i64.wrap ((n:Int) - 1)).toNat]? =some [tU a]) (h0:0≤a) (ha:a≠0) (hl:xs.length≤1000000):BJ xs ((xs.drop 0).take ((n:Int).toNat - 0)):=by
 have e1:IntKind.i64.wrap ((n:Int) - 1)=((n - 1:Nat):Int):=by rw[aa (by omega) (by omega)];omega
 rw[e1]at hs
 have:=Ah hx hn hz (.inr ⟨_,hs,by rw[jR];omega⟩)
 simpa using this
theorem cI (xs:Lz) (hx:Us xs) (hl:xs.length≤1000000):Tg 239 [oL 1 xs] (GL 1 (BJ xs)):=by
 refine ae Tryz.func239 ?_
 repeat' (conv=>whnf
          first
  |(refine aA (fun h=>?_) (fun h=>?_))
  |(refine eW (Nat.zero_le _) (by omega) ?_)
  |(refine au hx (by first|omega|exact cC (by first|omega|(simp (disch:=omega) only[aa];omega))|(simp (disch:=omega) only[aa];omega)) (by first|omega|exact cr (by omega)|(simp (disch:=omega) only[aa];omega)) ?_;rintro _ ⟨a,rfl,ha0,ha1⟩ hs)
  |(refine And.intro (by omega) ?_)
  |(first|exact U7 rfl rfl (xh hx hn hz (by omega))|exact U7 rfl rfl (xg hx hn hz (by omega) hs ha0 (by omega) hl))
  |(apply aL [0,3] [] [3] (yf xs) (xs.length) [iV .i64 (xs.length:Int)];(conv=>whnf);exact⟨rfl,rfl,rfl,rfl⟩;exact rfl;exact rfl;exact⟨xs.length,by omega,by simp,rfl,rfl⟩;rintro _ _ ⟨n,hn,hz,rfl,rfl⟩)
  |(refine aj [0,3] [] ?_;(conv=>whnf);exact⟨rfl,_,[_],yf.next hn (by omega) hz hs (by omega) hl,rfl,rfl,rfl,by omega⟩))
 all_goals (conv=>whnf)
def Uj (xs:Lz) (ts:List W):Prop:= ∃k,ts=[.one (.own 0 1 0 k)]∧k≤xs.length∧BJ xs (xs.take k)
theorem PK (n:Nat):0+n=n:=Nat.zero_add n
theorem dM (xs:Lz) (hx:Us xs) (hl:xs.length≤1000000): ∃ts hout,Fn Tryz.prog 239 [.one (.own 0 1 0 xs.length)] [(0, .row 1 (tr xs))] (aQ ts) hout∧Ul 1 xs (Uj xs) ts hout:=by
 refine gH Tryz.func239 ?_
 repeat' (conv=>whnf
          first
  |(refine aA (fun h=>?_) (fun h=>?_))
  |(refine mo (Nat.zero_le _) (by omega) (.inr rfl) ?_)
  |(refine And.intro ⟨by(simp (disch:=omega) only[aa];omega),by(simp (disch:=omega) only[aa];omega)⟩ ?_)
  |(refine And.intro (by omega) ?_)
  |(refine cv (xs:=xs) rfl hx (by(simp (disch:=omega) only[aa];omega)) ?_;rintro _ ⟨a,rfl,ha0,ha1⟩ hs)
  |(first|exact TG rfl rfl rfl rfl ⟨_,rfl,by omega,by have:=xh hx hn hz (by omega);simpa using this⟩|exact TG rfl rfl rfl rfl ⟨_,rfl,by omega,by have:=xg hx hn hz (by omega) (by rw[PK]at hs;exact hs) ha0 (by omega) hl;simpa using this⟩)
  |(apply bH [0,3] [] [3] [(0,1)] (fun m vs xss=>yf xs m vs∧xss=[xs]) (xs.length) [iV .i64 (xs.length:Int)];(conv=>whnf);exact⟨rfl,rfl,rfl,rfl⟩;exact rfl;exact rfl;exact .cons (az.ak rfl _) .nil;exact⟨⟨xs.length,by omega,by simp,rfl,rfl⟩,rfl⟩;rintro _ _ _ ⟨⟨n,hn,hz,rfl,rfl⟩,rfl⟩)
  |(refine aj [0,3] [] ?_;(conv=>whnf);exact⟨rfl,_,[_],_, .cons (az.ak rfl _) .nil,⟨yf.next hn (by omega) hz (by rw[PK]at hs;exact hs) (by omega) hl,rfl⟩,rfl,rfl,by omega⟩))
 all_goals (conv=>whnf)
theorem mq {a b:Int}:Us [[tU (IntKind.u32.wrap a)],[tU (IntKind.u32.wrap b)]]:=by
 intro e he
 simp only[List.mem_cons,List.not_mem_nil,or_false]at he
 rcases he with rfl|rfl
 · exact⟨_,rfl,ee _,eX _⟩
 · exact⟨_,rfl,ee _,eX _⟩
theorem MJ {n:Int} (h0:0≤n) (h1:n < 18446744073709551616):nv [[tU (IntKind.u32.wrap n)],[tU (IntKind.u32.wrap (n.fdiv (2 ^ (min (32:Int).toNat IntKind.u64.bits))))]]=n.toNat:=by
 simp only[nv,jR,Ds,kX]
 omega
theorem oJ (n:Int) (h0:0≤n) (h1:n < 18446744073709551616):Tg 221 [oU n] (GL 1 (fun ys=>Nm 2 ys∧nv ys=n.toNat)):=by
 refine aK ?_
 refine ae Tryz.func221 ?_
 repeat' (conv=>whnf
          first
  |(refine And.intro (by omega) ?_)
  |(refine Eg rfl rfl (dM [[tU (IntKind.u32.wrap n)],[tU (IntKind.u32.wrap (n.fdiv (2 ^ (min (32:Int).toNat IntKind.u64.bits))))]] mq (by simp)) rfl rfl ?_;rintro _ ⟨k,rfl,hk,hT⟩)
  |exact mh rfl (eR rfl rfl (xs:=[[_],[_]]) rfl (by simp at hk⊢;omega)) ⟨_,rfl,by simpa using hT.nm (by simp),by simpa using hT.2.2.1.trans (MJ h0 h1)⟩)
 all_goals (conv=>whnf)
theorem Rm:Tryz.prog.underlying 276=some (.slice 238):=by kernel_rfl
theorem Ry:cG Tryz.prog 238=some 1:=by kernel_rfl
abbrev EI (n:Int):W:= .one (.t (tU n))
theorem iY (xs:Lz) (hx:Us xs) (hl:xs.length≤1000000):Tg 241 [oL 1 xs] (GL 1 (fun ys=>Nm xs.length ys∧nv ys=nv xs)):=by
 refine aK ?_
 refine ae Tryz.func241 ?_
 repeat' (conv=>whnf
          first
  |(refine And.intro ⟨by omega,by omega,by have:=hT.1;omega,by have:=hT.1;omega⟩ ?_)
  |(refine ag rfl (cI xs hx hl) ?_;rintro _ ⟨ys,rfl,hT⟩)
  |(refine FU (ys:=ys) rfl rfl rfl rfl Rm Ry rfl (az.replicate _ [tU 0]) (by simp) ?_)
  |exact mh rfl (eR rfl rfl rfl (by simp[aX])) ⟨_,rfl,by have h:=hT.nm (Nat.le_refl _);simpa[aX]using h,by have h:=hT.2.2.1;simpa[aX]using h⟩)
 all_goals (conv=>whnf)
theorem JJ (n:Int):Tg 248 [EI n] (KQ False):=by
 refine ae Tryz.func248 ?_
 repeat' (conv=>whnf
          first
  |(refine LD rfl rfl ?_;simp))
 all_goals (conv=>whnf)
theorem FE (a b:Int):Tg 240 [EI a,EI b] (nP (fun n=>(n < 0↔a < b)∧(n=0↔a=b))):=by
 refine ae Tryz.func240 ?_
 repeat' (conv=>whnf
          first
  |(refine aA (fun h=>?_) (fun h=>?_))
  |(refine aG (fun h=>?_) (fun h=>?_))
  |(refine ag rfl (JJ _) ?_;rintro _ ⟨c,rfl,hc⟩)
  |(first|(refine iK rfl rfl ?_;omega)|(exfalso;simp_all;done)))
 all_goals (conv=>whnf)
theorem GY (n:Int):Tg 88 [oI n] (KQ False):=by
 refine ae Tryz.func88 ?_
 repeat' (conv=>whnf
          first
  |(refine LD rfl rfl ?_;simp))
 all_goals (conv=>whnf)
theorem Iv (a b:Int):Tg 65 [oI a,oI b] (nP (fun n=>(n < 0↔a < b)∧(n=0↔a=b))):=by
 refine ae Tryz.func65 ?_
 repeat' (conv=>whnf
          first
  |(refine aA (fun h=>?_) (fun h=>?_))
  |(refine aG (fun h=>?_) (fun h=>?_))
  |(refine ag rfl (GY _) ?_;rintro _ ⟨c,rfl,hc⟩)
  |(first|(refine iK rfl rfl ?_;omega)|(exfalso;simp_all;done)))
 all_goals (conv=>whnf)
def KC (ps qs:Lz) (m:Nat) (vs:List V):Prop:= ∃k:Nat,k≤ps.length∧ps.drop k=qs.drop k∧m=k∧vs=[iV .i64 ((k:Int) - 1)]
theorem KC.next {ps qs:Lz} {k:Nat} {x y:Int} (hk:k≤ps.length) (hl:ps.length≤1000000) (h0:(k:Int) - 1≥0) (hd:ps.drop k=qs.drop k) (h1:ps[((k:Int) - 1).toNat]? =some [tU x]) (h2:qs[((k:Int) - 1).toNat]? =some [tU y]) (he:x=y):
 KC ps qs (k - 1) [iV .i64 (IntKind.i64.wrap ((k:Int) - 1 - 1))]:=by
 subst he
 have e1:((k:Int) - 1).toNat=k - 1:=by omega
 rw[e1]at h1 h2
 have e2:IntKind.i64.wrap ((k:Int) - 1 - 1)=((k - 1:Nat):Int) - 1:=by rw[aa (by omega) (by omega)];omega
 exact⟨k - 1,by omega,Fu (by rw[show k - 1+1=k by omega];exact hd) h1 h2,rfl,by rw[e2]⟩
theorem Ki {ps qs:Lz} {k:Nat} {x y n:Int} (ha:Us ps) (hb:Us qs) (h0:(k:Int) - 1≥0) (hd:ps.drop k=qs.drop k) (h1:ps[((k:Int) - 1).toNat]? =some [tU x]) (h2:qs[((k:Int) - 1).toNat]? =some [tU y]) (hx:0≤x) (hy:0≤y)
 (hn:n≠0) (hc:(n < 0↔x < y)∧(n=0↔x=y)):FA n (nv ps) (nv qs):=by
 have e1:((k:Int) - 1).toNat=k - 1:=by omega
 have e2:k - 1+1=k:=by omega
 rw[e1]at h1 h2
 rcases Int.lt_trichotomy x y with h|h|h
 · have:=H7 ha (by rw[e2];exact hd) h1 h2 hx h
   exact⟨by omega,by omega⟩
 · omega
 · have:=H7 hb (by rw[e2];exact hd.symm) h2 h1 hy h
   exact⟨by omega,by omega⟩
theorem H6 {ps qs:Lz} {n:Int} (ha:Us ps) (hb:Us qs) (ha2: ∀e,ps.getLast? =some e→lb e≠0) (nw: ∀e,qs.getLast? =some e→lb e≠0) (hn:n≠0) (hc:(n < 0↔(ps.length:Int) < (qs.length:Int))∧(n=0↔(ps.length:Int)=(qs.length:Int))):FA n (nv ps) (nv qs):=by
 rcases Nat.lt_trichotomy ps.length qs.length with h|h|h
 · have:=zL ha nw h
   exact⟨by omega,by omega⟩
 · omega
 · have:=zL hb ha2 h
   exact⟨by omega,by omega⟩
theorem HZ {ps qs:Lz} {k:Nat} (hd:ps.drop k=qs.drop k) (hk:¬ ((k:Int) - 1≥0)):FA 0 (nv ps) (nv qs):=by
 have:k=0:=by omega
 subst this
 simp only[List.drop_zero]at hd
 rw[hd]
 exact⟨by omega,by omega⟩
theorem iC (xs ys:Lz) (hx:Us xs) (hy:Us ys) (hl:xs.length≤1000000) (hm:ys.length≤1000000):Tg 223 [oL 1 xs,oL 1 ys] (nP (fun n=>FA n (nv xs) (nv ys))):=by
 refine ae Tryz.func223 ?_
 repeat' (conv=>whnf
          first
  |(refine aA (fun h=>?_) (fun h=>?_))
  |(refine bR (fun h=>?_) (fun h=>?_))
  |(refine au ua (by omega) (by omega) ?_;rintro _ ⟨x,rfl,hx0,qL⟩ hs1)
  |(refine au ub (by omega) (by omega) ?_;rintro _ ⟨y,rfl,hy0,xM⟩ bO)
  |(refine And.intro (by kernel_rfl) ?_)
  |(refine ag rfl (cI xs hx hl) ?_;rintro _ ⟨ps,rfl,⟨la,ua,va,ta,_⟩⟩)
  |(refine ag rfl (cI ys hy hm) ?_;rintro _ ⟨qs,rfl,⟨lb',ub,vb,tb,_⟩⟩)
  |(refine ag rfl (Iv _ _) ?_;rintro _ ⟨c,rfl,hc⟩)
  |(refine aB rfl (FE _ _) ?_;rintro _ ⟨d,rfl,OY⟩)
  |(refine iK rfl rfl ?_;rw[←va, ←vb];first|exact H6 ua ub ta tb (by omega) hc|exact Ki ua ub (by omega) hd hs1 bO hx0 hy0 (by omega) OY|exact HZ hd (by omega))
  |(apply aL [0,1,6] [] [6] (KC ps qs) (ps.length) [iV .i64 (IntKind.i64.wrap ((ps.length:Int) - 1))];(conv=>whnf);exact⟨rfl,rfl,rfl,rfl⟩;exact rfl;exact rfl;exact⟨ps.length,by omega,by rw[List.drop_length,List.drop_eq_nil_of_le (by omega)],rfl,by rw[aa (by omega) (by omega)]⟩;rintro _ _ ⟨k,hk,hd,rfl,rfl⟩)
  |(refine aj [0,1,6] [] ?_;(conv=>whnf);exact⟨rfl,_,[_],KC.next hk (by omega) (by omega) hd hs1 bO (by omega),rfl,rfl,rfl,by omega⟩))
 all_goals (conv=>whnf)
end Go.aS.Cd
end
section
namespace Go.aS.Cd
open Go
def dz (xs:Lz) (i k:Nat):Nat:=nv ((xs.drop i).take k)
theorem Aq (xs:Lz) (i:Nat):dz xs i 0=0:=by simp[dz,nv]
theorem ic {α:Type} {l:List α} {k:Nat} {e:α} (h:l[k]? =some e):l.take (k+1)=l.take k++[e]:=by
 rw[List.take_add_one,h];rfl
theorem dI {xs:Lz} {i k:Nat} {x:Int} (h:xs[i+k]? =some [tU x]):dz xs i (k+1)=dz xs i k+4294967296 ^ k * x.toNat:=by
 have h':(xs.drop i)[k]? =some [tU x]:=by rw[List.getElem?_drop];exact h
 have hk:((xs.drop i).take k).length=k:=by
  have:=(List.getElem?_eq_some_iff.1 h').1
  rw[List.length_take];omega
 unfold dz
 rw[ic h',yU,hk]
 simp[nv,jR]
theorem Gg {xs:Lz} {i k:Nat} {x:Int} (h:xs[i]? =some [tU x]):dz xs i (k+1)=x.toNat+4294967296 * dz xs (i+1) k:=by
 obtain⟨hlt,he⟩:=List.getElem?_eq_some_iff.1 h
 unfold dz
 rw[List.drop_eq_getElem_cons hlt,he,List.take_succ_cons]
 simp[nv,jR]
theorem Et {xs ys:Lz} {i k:Nat} (h: ∀j,i≤j→j < i+k→xs[j]? =ys[j]?):dz xs i k=dz ys i k:=by
 unfold dz
 congr 1
 apply List.ext_getElem?
 intro n
 rw[List.getElem?_take,List.getElem?_take]
 split
 · rw[List.getElem?_drop,List.getElem?_drop];exact h _ (by omega) (by omega)
 · rfl
theorem pB {xs:Lz} {i k j:Nat} {e:List T} (h:j < i∨i+k≤j):dz (xs.set j e) i k=dz xs i k:=
 Et fun n h1 h2=>by rw[List.getElem?_set_ne (by omega)]
theorem qD {xs:Lz} (hx:Us xs) (i k:Nat):dz xs i k < 4294967296 ^ k:=by
 have h:=xE (hx.cut i k)
 exact Nat.lt_of_lt_of_le h (Nat.pow_le_pow_right (by omega) (by simp only[List.length_take];omega))
theorem L4 (k:Nat):0 < 4294967296 ^ k:=Nat.pow_pos (by omega)
theorem Fl {U V X top v1 q Q:Nat} (hU:U < (top+1) * X) (hV:v1 * X≤V) (hq:q=top / v1) (h1:1≤v1) (hQ:Q * V≤U):Q≤q:=by
 subst hq
 rw[Nat.le_div_iff_mul_le (by omega)]
 have h2:Q * v1 * X≤U:=by
  rw[Nat.mul_assoc]
  exact Nat.le_trans (Nat.mul_le_mul_left _ hV) hQ
 have h3:Q * v1 * X < (top+1) * X:=by omega
 have:=Nat.lt_of_mul_lt_mul_right h3
 omega
theorem HJ {U V X B top v1 v0 u0 q r Q:Nat} (hU:U < (top * B+u0+1) * X) (hV:(v1 * B+v0) * X≤V) (ht:q * v1+r=top) (hQ:Q * V≤U) (hQB:Q < B) (hqQ:Q≤q) (hc:B≤q∨r * B+u0 < q * v0):Q < q:=by
 rcases Nat.lt_or_eq_of_le hqQ with h|h
 · exact h
 · subst h
   rcases hc with h|h
   · omega
   · exfalso
     have h2:Q * (v1 * B+v0) * X < (top * B+u0+1) * X:=by
      rw[Nat.mul_assoc]
      exact Nat.lt_of_le_of_lt (Nat.le_trans (Nat.mul_le_mul_left _ hV) hQ) hU
     have h3:=Nat.lt_of_mul_lt_mul_right h2
     have h4:Q * (v1 * B+v0)=Q * v1 * B+Q * v0:=by rw[Nat.mul_add,Nat.mul_assoc]
     have h5:top * B=Q * v1 * B+r * B:=by rw[←ht,Nat.add_mul]
     omega
theorem J6 {U V X B top v1 v0 u0 q r:Nat} (hX:0 < X) (hB:0 < B) (hU:(top * B+u0) * X≤U) (Tv:(v1 * B+v0) * X≤V) (U2:V < (v1 * B+v0+1) * X) (FJ:v0 < B) (h1:1≤v1) (SK:top < v1 * B+B) (ht:q * v1+r=top)
 (hc:¬ (r < B∧(B≤q∨r * B+u0 < q * v0))):q < B∧q * V < U+V:=by
 have hBX:B * X≤V:=by
  refine Nat.le_trans ?_ Tv
  refine Nat.mul_le_mul_right X ?_
  have:1 * B≤v1 * B:=Nat.mul_le_mul_right B h1
  omega
 have amZ:0 < B * X:=Nat.mul_pos hB hX
 by_cases hr:r < B
 · have hq:q < B:=by
    apply Nat.lt_of_not_le
    intro h
    exact hc ⟨hr, .inl h⟩
   have AW:q * v0≤r * B+u0:=by
    apply Nat.le_of_not_lt
    intro h
    exact hc ⟨hr, .inr h⟩
   refine⟨hq,?_⟩
   have e1:q * (v1 * B+v0)≤top * B+u0:=by
    have e2:q * (v1 * B+v0)=q * v1 * B+q * v0:=by rw[Nat.mul_add,Nat.mul_assoc]
    have e3:top * B=q * v1 * B+r * B:=by rw[←ht,Nat.add_mul]
    omega
   have e4:q * V≤q * ((v1 * B+v0+1) * X):=Nat.mul_le_mul_left q (Nat.le_of_lt U2)
   have e5:q * ((v1 * B+v0+1) * X)=q * (v1 * B+v0) * X+q * X:=by
    rw[←Nat.mul_assoc,Nat.mul_add q (v1 * B+v0) 1,Nat.mul_one,Nat.add_mul]
   have e6:q * (v1 * B+v0) * X≤(top * B+u0) * X:=Nat.mul_le_mul_right X e1
   have e7:q * X < B * X:=Nat.mul_lt_mul_of_pos_right hq hX
   omega
 · have hv:q * v1 < v1 * B:=by omega
   have hq:q < B:=by
    rw[Nat.mul_comm q v1]at hv
    exact Nat.lt_of_mul_lt_mul_left hv
   refine⟨hq,?_⟩
   have e1:(v1 * B+v0+1) * X≤(v1+1) * (B * X):=by
    rw[←Nat.mul_assoc]
    refine Nat.mul_le_mul_right X ?_
    rw[Nat.add_mul];omega
   have e2:q * V≤q * ((v1+1) * (B * X)):=Nat.mul_le_mul_left q (by omega)
   have e3:q * ((v1+1) * (B * X))=(q * v1+q) * (B * X):=by rw[←Nat.mul_assoc,Nat.mul_add q v1 1,Nat.mul_one]
   have e4:(q * v1+q) * (B * X)≤top * (B * X):=Nat.mul_le_mul_right _ (by omega)
   have e5:top * (B * X)=top * B * X:=by rw[Nat.mul_assoc]
   have e6:top * B * X≤(top * B+u0) * X:=Nat.mul_le_mul_right X (by omega)
   omega
theorem F6 {a b c q y u Bi d borrow zQ carry lo hi:Nat} (ha:a+(borrow+carry) * Bi=b+q * c) (hc:carry+q * y=lo+hi * 4294967296) (hd:u+zQ * 4294967296=d+lo+borrow):(a+Bi * u)+(zQ+hi) * (4294967296 * Bi)=(b+Bi * d)+q * (c+Bi * y):=by
 have h1:Bi * (u+zQ * 4294967296)=Bi * (d+lo+borrow):=by rw[hd]
 have h2:Bi * (carry+q * y)=Bi * (lo+hi * 4294967296):=by rw[hc]
 grind
theorem Ig {a b c y u Bi d carry CT:Nat} (ha:a+c=b+carry * Bi) (hd:carry+u+y=d+CT * 4294967296):(a+Bi * u)+(c+Bi * y)=(b+Bi * d)+CT * (4294967296 * Bi):=by
 have h1:Bi * (carry+u+y)=Bi * (d+CT * 4294967296):=by rw[hd]
 grind
theorem Jb {U V q Q un carry borrow lo new Bn:Nat} (hU:U=lo+Bn * un) (h:lo+(borrow+carry) * Bn=new+q * V) (hQ:U < (Q+1) * V) (hq:Q≤q) (hge:carry+borrow≤un):new < V:=by
 obtain⟨k,rfl⟩: ∃k,un=carry+borrow+k:=⟨un - (carry+borrow),by omega⟩
 have e1:Bn * (carry+borrow+k)=(borrow+carry) * Bn+Bn * k:=by
  rw[Nat.mul_add,Nat.mul_comm,Nat.add_comm carry borrow]
 have e2:(Q+1) * V≤(q+1) * V:=Nat.mul_le_mul_right V (by omega)
 have e3:(q+1) * V=q * V+V:=by rw[Nat.add_mul,Nat.one_mul]
 have e4:0≤Bn * k:=Nat.zero_le _
 omega
theorem F8 {U V q un carry borrow lo new MO c2 Bn:Nat} (hU:U=lo+Bn * un) (h:lo+(borrow+carry) * Bn=new+q * V) (hV:V < Bn) (hq:q * V < U+V) (hlt:un < carry+borrow) (h2:new+V=MO+c2 * Bn) (hn:new < Bn) (S4:MO < Bn):MO < V:=by
 obtain⟨k,hk⟩: ∃k,borrow+carry=un+1+k:=⟨borrow+carry - un - 1,by omega⟩
 rw[hk]at h
 have e1:(un+1+k) * Bn=Bn * un+Bn+k * Bn:=by
  rw[Nat.add_mul,Nat.add_mul,Nat.one_mul,Nat.mul_comm un Bn]
 match c2,h2 with
 |0,h2=>simp only[Nat.zero_mul,Nat.add_zero]at h2;have:=Nat.zero_le (k * Bn);omega
 |1,h2=>simp only[Nat.one_mul]at h2;omega
 |c+2,h2=>
  have e2:(c+2) * Bn=c * Bn+2 * Bn:=by rw[Nat.add_mul]
  have:=Nat.zero_le (c * Bn)
  omega
end Go.aS.Cd
end
section
namespace Go.aS.Cd
open Go Go.Proofs
set_option maxRecDepth 100000
theorem bj {n:Int} (h0: -9223372036854775808≤n) (h1:n < 9223372036854775808):IntKind.i64.wrap n=n:=aa h0 h1
abbrev bG (id sz len:Nat):V:= .w (.one (.own id sz 0 len))
def C2 (N:Nat) (m:Nat) (vs:List V) (xss:List (Lz)):Prop:= ∃ (i:Nat) (zs:Lz) (c:Int),i≤N∧m=N - i∧vs=[bG 4 1 i,iV .u64 c,iV .i64 (i:Int)]∧xss=[zs]∧zs.length=i∧Us zs
theorem C2.zero {N:Nat}:C2 N N [bG 4 1 0,iV .u64 0,iV .i64 0] [[]]:=⟨0,[],0,by omega,rfl,rfl,rfl,rfl,Us.nil⟩
theorem C2.next {N i k:Nat} {zs:Lz} {c d:Int} (h:i < N) (hN:N≤1000001) (hl:zs.length=i) (hU:Us zs) (hk:k=i+1):C2 N (N - (i+1)) [bG 4 1 k,iV .u64 d,iV .i64 (IntKind.i64.wrap ((i:Int)+1))] [zs++[[tU (IntKind.u32.wrap c)]]]:=
 ⟨i+1,_,d,by omega,rfl,by rw[bj (by omega) (by omega),hk];rfl,rfl,by simp[hl],hU.snoc (ee _) (eX _)⟩
theorem jQ (xs ys:Lz) (hx:Us xs) (hy:Us ys) (hl:xs.length≤400000) (hm:ys.length≤400000):Tg 245 [oL 1 xs,oL 1 ys] (GL 1 (Nm (max xs.length ys.length+1))):=by
 refine aK ?_
 refine ae Tryz.func245 ?_
 repeat' (conv=>whnf
          first
  |(refine aA (fun h=>?_) (fun h=>?_))
  |(refine au ua (by omega) (by omega) ?_;rintro _ ⟨x,rfl,hx0,qL⟩ hs1)
  |(refine au ub (by omega) (by omega) ?_;rintro _ ⟨y,rfl,hy0,xM⟩ bO)
  |(refine And.intro ⟨(by first|omega|(simp (disch:=omega) only[aa];omega)),(by first|omega|(simp (disch:=omega) only[aa];omega)),(by first|omega|(simp (disch:=omega) only[aa];omega)),(by first|omega|(simp (disch:=omega) only[aa];omega))⟩ ?_)
  |(refine And.intro ⟨by simp[tr,hz],by simp[tr,aU];omega,by simp[tr,maxLen];omega⟩ ?_)
  |(refine And.intro (by omega) ?_)
  |(refine ag rfl (cI xs hx (by omega)) ?_;rintro _ ⟨ps,rfl,⟨la,ua,va,ta,_⟩⟩)
  |(refine ag rfl (cI ys hy (by omega)) ?_;rintro _ ⟨qs,rfl,⟨lb',ub,vb,tb,_⟩⟩)
  |(refine Eg rfl rfl (dM (zs++[[tU (IntKind.u32.wrap c)]]) (hU.snoc (ee _) (eX _)) (by simp;omega)) (by simp[W.ak,C.ak,bz,tr]) (az.snoc (xs:=zs) rfl [tU _]) ?_;rintro _ ⟨k,rfl,hk,hT⟩)
  |exact mh rfl (eR rfl rfl (az.snoc (xs:=zs) rfl [tU _]) (by simp at hk⊢;omega)) ⟨_,rfl,by simpa using hT.nm (by simp;omega)⟩
  |(apply bH [1,5,6,24,25,26] [] [5,6,26] [(4,1)] (C2 (max ps.length qs.length)) (max ps.length qs.length) [bG 4 1 0,iV .u64 0,iV .i64 0];(conv=>whnf);exact⟨rfl,rfl,rfl,rfl⟩;exact rfl;exact rfl;exact .cons (az.ak (az.replicate 0 [tU 0]) _) .nil;exact C2.zero;rintro _ _ _ ⟨i,zs,c,hi,rfl,rfl,rfl,hz,hU⟩)
  |(refine aj [1,5,6,24,25,26] [] ?_;(conv=>whnf);exact⟨rfl,_,[_,_,_],_, .cons (az.ak (az.snoc (xs:=zs) rfl [tU _]) _) .nil,C2.next (by omega) (by omega) hz hU (by simp[tr,hz]),rfl,rfl,by omega⟩))
 all_goals (conv=>whnf)
def wZ (N L:Nat) (m:Nat) (vs:List V) (xss:List (Lz)):Prop:= ∃ (i:Nat) (zs:Lz) (c:Int),i≤N∧m=N - i∧vs=[iV .u64 c,iV .i64 (i:Int)]∧xss=[zs]∧zs.length=L∧Us zs
theorem wZ.zero {N L:Nat} {zs:Lz} (hz:zs.length=L) (hU:Us zs):wZ N L N [iV .u64 0,iV .i64 0] [zs]:=⟨0,zs,0,by omega,rfl,rfl,rfl,hz,hU⟩
theorem wZ.next {N L i j:Nat} {zs:Lz} {c d:Int} (h:i < N) (hN:N≤1000001) (hl:zs.length=L) (hU:Us zs):wZ N L (N - (i+1)) [iV .u64 d,iV .i64 (IntKind.i64.wrap ((i:Int)+1))] [zs.set j [tU (IntKind.u32.wrap c)]]:=
 ⟨i+1,_,d,by omega,rfl,by rw[bj (by omega) (by omega)];rfl,rfl,by simp[hl],hU.set (ee _) (eX _)⟩
def GLB (p:Lz→Prop) (ts:List W):Prop:= ∃xs b,ts=[.one (.t (.av 1 xs)), .one (.t (.val (.bool b)))]∧p xs
theorem rL (xs ys:Lz) (hx:Us xs) (hy:Us ys) (hl:xs.length≤400000) (hm:ys.length≤400000):Tg 254 [oL 1 xs,oL 1 ys] (GLB (Nm xs.length)):=by
 refine aK ?_
 refine ae Tryz.func254 ?_
 repeat' (conv=>whnf
          first
  |(refine aA (fun h=>?_) (fun h=>?_))
  |(refine au ua (by omega) (by omega) ?_;rintro _ ⟨x,rfl,hx0,qL⟩ hs1)
  |(refine au ub (by omega) (by omega) ?_;rintro _ ⟨y,rfl,hy0,xM⟩ bO)
  |(refine And.intro ⟨(by first|omega|(simp (disch:=omega) only[aa];omega)),(by first|omega|(simp (disch:=omega) only[aa];omega)),(by first|omega|(simp (disch:=omega) only[aa];omega)),(by first|omega|(simp (disch:=omega) only[aa];omega))⟩ ?_)
  |(refine And.intro ⟨by omega,by omega⟩ ?_)
  |(refine And.intro (by omega) ?_)
  |(refine ag rfl (cI xs hx (by omega)) ?_;rintro _ ⟨ps,rfl,⟨la,ua,va,ta,_⟩⟩)
  |(refine ag rfl (cI ys hy (by omega)) ?_;rintro _ ⟨qs,rfl,⟨lb',ub,vb,tb,_⟩⟩)
  |(refine ag rfl (iC ps qs ua ub (by omega) (by omega)) ?_;rintro _ ⟨n,rfl,hn⟩)
  |(refine cv (xs:=zs) rfl hU (by omega) ?_;rintro _ ⟨a,rfl,ha0,ha1⟩ hs)
  |(refine Eg rfl rfl (dM zs hU (by omega)) (by simp[W.ak,C.ak,bz,hz]) rfl ?_;rintro _ ⟨k,rfl,hk,hT⟩)
  |exact dA rfl (eR rfl rfl (xs:=zs) rfl (by simp at hk⊢;omega)) (bX rfl) ⟨_,_,rfl,by simpa using hT.nm (by omega)⟩
  |exact dA rfl (bP 1 rfl) (bX rfl) ⟨_,_,rfl,by simp,Us.nil,by simp⟩
  |(apply bH [1,6,7,22,23,24] [] [7,24] [(4,1)] (wZ ps.length ps.length) (ps.length) [iV .u64 0,iV .i64 0];(conv=>whnf);exact⟨rfl,rfl,rfl,rfl⟩;exact rfl;exact rfl;exact .cons (az.ak (az.replicate ps.length [tU 0]) _) .nil;exact wZ.zero (by simp) (Us.replicate _);rintro _ _ _ ⟨i,zs,c,hi,rfl,rfl,rfl,hz,hU⟩)
  |(refine aj [1,6,7,22,23,24] [] ?_;(conv=>whnf);exact⟨rfl,_,[_,_],_, .cons (az.ak (az.set (xs:=zs) rfl _ [tU _]) _) .nil,wZ.next (by omega) (by omega) hz hU,rfl,rfl,by omega⟩))
 all_goals (conv=>whnf)
theorem jm (n:Int):0≤IntKind.u64.wrap n:=by rw[qu];omega
def CY (N L:Nat) (m:Nat) (vs:List V) (xss:List (Lz)):Prop:= ∃ (i:Nat) (zs:Lz),i≤N∧m=N - i∧vs=[iV .i64 (i:Int)]∧xss=[zs]∧zs.length=L∧Us zs
theorem CY.zero {N L:Nat} {zs:Lz} (hz:zs.length=L) (hU:Us zs):CY N L N [iV .i64 0] [zs]:=⟨0,zs,by omega,rfl,rfl,rfl,hz,hU⟩
theorem CY.next {N L i j:Nat} {zs:Lz} {c:Int} (h:i < N) (hN:N≤1000001) (hl:zs.length=L) (hU:Us zs):CY N L (N - (i+1)) [iV .i64 (IntKind.i64.wrap ((i:Int)+1))] [zs.set j [tU (IntKind.u32.wrap c)]]:=
 ⟨i+1,_,by omega,rfl,by rw[bj (by omega) (by omega)];rfl,rfl,by simp[hl],hU.set (ee _) (eX _)⟩
theorem iB (xs ys:Lz) (hx:Us xs) (hy:Us ys) (hl:xs.length≤400000) (hm:ys.length≤400000):Tg 225 [oL 1 xs,oL 1 ys] (GL 1 (Nm (xs.length+ys.length))):=by
 refine aK ?_
 refine ae Tryz.func225 ?_
 repeat' (conv=>whnf
          first
  |(refine aA (fun h=>?_) (fun h=>?_))
  |(refine au ua (by omega) (by omega) ?_;rintro _ ⟨x,rfl,hx0,qL⟩ hs1)
  |(refine au ub (by omega) (by omega) ?_;rintro _ ⟨y,rfl,hy0,xM⟩ bO)
  |(refine And.intro ⟨(by first|omega|(simp (disch:=omega) only[aa];omega)),(by first|omega|(simp (disch:=omega) only[aa];omega)),(by first|omega|(simp (disch:=omega) only[aa];omega)),(by first|omega|(simp (disch:=omega) only[aa];omega))⟩ ?_)
  |(refine And.intro ⟨(by first|omega|(simp (disch:=omega) only[aa];omega)),(by first|omega|(simp (disch:=omega) only[aa];omega))⟩ ?_)
  |(refine And.intro (by omega) ?_)
  |(refine ag rfl (cI xs hx (by omega)) ?_;rintro _ ⟨ps,rfl,⟨la,ua,va,ta,_⟩⟩)
  |(refine ag rfl (cI ys hy (by omega)) ?_;rintro _ ⟨qs,rfl,⟨lb',ub,vb,tb,_⟩⟩)
  |(refine cv (xs:=zs) rfl hU (by first|omega|(simp (disch:=omega) only[aa];omega)) ?_;rintro _ ⟨a,rfl,ha0,ha1⟩ hs)
  |(refine Eg rfl rfl (dM zs hU (by omega)) (by simp (disch:=omega) [W.ak,C.ak,bz,hz,aa];omega) rfl ?_;rintro _ ⟨k,rfl,hk,hT⟩)
  |exact mh rfl (eR rfl rfl (xs:=zs) rfl (by simp at hk⊢;omega)) ⟨_,rfl,by simpa using hT.nm (by omega)⟩
  |(apply bH [1,5,6,7,8,21,22,23,28,29,30] [] [8,30] [(4,1)] (wZ qs.length (ps.length+qs.length)) (qs.length) [iV .u64 0,iV .i64 0];(conv=>whnf);exact⟨rfl,rfl,rfl,rfl⟩;exact rfl;exact rfl;exact .cons (az.ak rfl _) .nil;exact wZ.zero hz hU;rintro _ _ _ ⟨k,zs,c,Hl,rfl,rfl,rfl,hz,hU⟩)
  |(refine aj [1,5,6,7,8,21,22,23,28,29,30] [] ?_;(conv=>whnf);exact⟨rfl,_,[_,_],_, .cons (az.ak (az.set (xs:=zs) rfl _ [tU _]) _) .nil,wZ.next (by omega) (by omega) hz hU,rfl,rfl,by omega⟩)
  |(apply bH [1,5,21,22,23] [] [23] [(4,1)] (CY ps.length (ps.length+qs.length)) (ps.length) [iV .i64 0];(conv=>whnf);exact⟨rfl,rfl,rfl,rfl⟩;exact rfl;exact rfl;exact .cons (az.ak (az.replicate _ [tU 0]) _) .nil;exact CY.zero (by simp (disch:=omega) only[List.length_replicate,aa];omega) (Us.replicate _);rintro _ _ _ ⟨i,zs,hi,rfl,rfl,rfl,hz,hU⟩)
  |(refine aj [1,5,21,22,23] [] ?_;(conv=>whnf);exact⟨rfl,_,[_],_, .cons (az.ak (az.set (xs:=zs) rfl _ [tU _]) _) .nil,CY.next (by omega) (by omega) hz hU,rfl,rfl,by omega⟩))
 all_goals (conv=>whnf)
def Oh (d:Int) (N:Nat) (m:Nat) (vs:List V) (xss:List (Lz)):Prop:= ∃ (k:Nat) (zs:Lz) (r:Int),k≤N∧m=k∧0≤r∧r < d∧vs=[iV .u64 r,iV .i64 ((k:Int) - 1)]∧xss=[zs]∧zs.length=N∧Us zs
theorem Oh.zero {d:Int} {N:Nat} {zs:Lz} (hd:1≤d) (hN:N≤1000000) (hz:zs.length=N) (hU:Us zs):Oh d N N [iV .u64 0,iV .i64 (IntKind.i64.wrap ((N:Int) - 1))] [zs]:=⟨N,zs,0,by omega,rfl,by omega,by omega,by rw[bj (by omega) (by omega)],rfl,hz,hU⟩
theorem Oh.next {d X c:Int} {N k j:Nat} {zs:Lz} (hd:1≤d) (OY:d < 4294967296) (hX:0≤X) (hk:k≤N) (hN:N≤1000000) (h0:(k:Int) - 1≥0) (hz:zs.length=N) (hU:Us zs):Oh d N (k - 1) [iV .u64 (X.tmod (IntKind.u64.wrap d)),iV .i64 (IntKind.i64.wrap ((k:Int) - 1 - 1))] [zs.set j [tU (IntKind.u32.wrap c)]]:=by
 have e:IntKind.u64.wrap d=d:=u64_in (by omega) (by omega)
 refine⟨k - 1,_,_,by omega,rfl,?_,?_,by rw[bj (by omega) (by omega)];congr 3;omega,rfl,by simp[hz],hU.set (ee _) (eX _)⟩
 · exact Int.tmod_nonneg _ hX
 · rw[e];exact Int.tmod_lt_of_pos _ (by omega)
def GSh (n:Nat) (d:Int) (ts:List W):Prop:= ∃zs r,ts=[.one (.t (.av 1 zs)), .one (.t (tU r))]∧Nm n zs∧0≤r∧r < d
theorem Mg {d:Int} (hd:1≤d) (OY:d < 4294967296):IntKind.u64.wrap d≠0:=by rw[u64_in (by omega) (by omega)];omega
theorem wC (xs:Lz) (d:Int) (hx:Us xs) (hl:xs.length≤400000) (hd:1≤d) (OY:d < 4294967296):Tg 249 [oL 1 xs,EI d] (GSh xs.length d):=by
 refine aK ?_
 refine ae Tryz.func249 ?_
 repeat' (conv=>whnf
          first
  |(refine aA (fun h=>?_) (fun h=>?_))
  |(refine au hx (by omega) (by omega) ?_;rintro _ ⟨x,rfl,hx0,qL⟩ hs1)
  |(refine And.intro ⟨(by first|omega|(simp (disch:=omega) only[aa];omega)),(by first|omega|(simp (disch:=omega) only[aa];omega)),(by first|omega|(simp (disch:=omega) only[aa];omega)),(by first|omega|(simp (disch:=omega) only[aa];omega))⟩ ?_)
  |(refine And.intro ⟨(by first|omega|(simp (disch:=omega) only[aa];omega)),(by first|omega|(simp (disch:=omega) only[aa];omega))⟩ ?_)
  |(refine And.intro (Mg hd OY) ?_)
  |(refine And.intro (by omega) ?_)
  |(refine cv (xs:=zs) rfl hU (by first|omega|(simp (disch:=omega) only[aa];omega)) ?_;rintro _ ⟨a,rfl,ha0,ha1⟩ hs)
  |(refine Eg rfl rfl (dM zs hU (by omega)) (by simp[W.ak,C.ak,bz,hz]) rfl ?_;rintro _ ⟨k,rfl,hk,hT⟩)
  |exact dA rfl (eR rfl rfl (xs:=zs) rfl (by simp at hk⊢;omega)) (bX rfl) ⟨_,_,rfl,by simpa using hT.nm (by omega),ee _,by rw[u32_in (by omega) (by omega)];omega⟩
  |(apply bH [0,1,6,7,8] [] [7,8] [(4,1)] (Oh d xs.length) (xs.length) [iV .u64 0,iV .i64 (IntKind.i64.wrap ((xs.length:Int) - 1))];(conv=>whnf);exact⟨rfl,rfl,rfl,rfl⟩;exact rfl;exact rfl;exact .cons (az.ak (az.replicate _ [tU 0]) _) .nil;exact Oh.zero hd (by omega) (by simp) (Us.replicate _);rintro _ _ _ ⟨k,zs,r,Hl,rfl,uU,rT,rfl,rfl,hz,hU⟩)
  |(refine aj [0,1,6,7,8] [] ?_;(conv=>whnf);exact⟨rfl,_,[_,_],_, .cons (az.ak (az.set (xs:=zs) rfl _ [tU _]) _) .nil,Oh.next hd OY (jm _) Hl (by omega) (by omega) hz hU,rfl,rfl,by omega⟩))
 all_goals (conv=>whnf)
theorem IV {s:ByteArray} {n:Int} {N B:Nat} {K:UInt8→Prop} (hN:s.size=N) (hQ:(List.range N).all (fun i=>match s[i]? with|some b=>Nat.blt i (2 ^ b.toNat)&&Nat.ble b.toNat B|none=>false)=true) (h0:0≤n) (h1:n < (N:Int)) (hk: ∀b:UInt8,b.toNat≤B→n.toNat < 2 ^ b.toNat→K b):0≤n∧ ∃b,s[n.toNat]? =some b∧K b:=by
 have hlt:n.toNat < s.size:=by omega
 have h2:=List.all_eq_true.1 hQ n.toNat (by simp;omega)
 have e:s[n.toNat]? =some s[n.toNat]:=by simp[hlt]
 rw[e]at h2
 simp only[Bool.and_eq_true,Nat.blt_eq,Nat.ble_eq]at h2
 exact⟨h0,_,e,hk _ h2.2 h2.1⟩
theorem Gc (a:Int) (k:Nat) (hk:k≤32):a.fdiv (2 ^ (min (k:Int).toNat IntKind.u32.bits))=a / 2 ^ k:=by
 have e:min (k:Int).toNat IntKind.u32.bits=k:=by simp only[IntKind.bits];omega
 rw[e,Int.fdiv_eq_ediv_of_nonneg _ (Int.le_of_lt (Int.pow_pos (by omega)))]
theorem u8_in {n:Int} (h0:0≤n) (h1:n < 256):IntKind.u8.wrap n=n:=by simp[IntKind.wrap,IntKind.bits,IntKind.signed];omega
theorem sr8 (x:Int):x.fdiv (2 ^ min (Int.toNat 8) IntKind.u32.bits)=x / 256:=Gc x 8 (by omega)
theorem WH (x:Int):x.fdiv (2 ^ min (Int.toNat 16) IntKind.u32.bits)=x / 65536:=Gc x 16 (by omega)
theorem tx {x y n D:Int} {k:Nat} {b:UInt8} (hD:(2:Int) ^ k=D) (h0:0≤x) (hk:k≤24) (hy:y=x / D) (Xx:y < 256) (hb:b.toNat≤8) (hq:(IntKind.u8.wrap y).toNat < 2 ^ b.toNat) (hn:n=(k+b.toNat:Nat)):0≤n∧n≤32∧x.toNat < 2 ^ n.toNat:=by
 have hp:(0:Int) < 2 ^ k:=Int.pow_pos (by omega)
 rw[←hD]at hy
 have hy0:0≤y:=by rw[hy];exact Int.ediv_nonneg h0 (by omega)
 rw[u8_in hy0 Xx]at hq
 refine⟨by omega,by omega,?_⟩
 have e:n.toNat=k+b.toNat:=by omega
 rw[e,Nat.pow_add]
 have h3:y+1≤((2 ^ b.toNat:Nat):Int):=by omega
 have h4:x < (y+1) * 2 ^ k:=by
  rw[hy]
  exact Int.lt_ediv_add_one_mul_self x hp
 have h5:(y+1) * 2 ^ k≤((2 ^ b.toNat:Nat):Int) * 2 ^ k:=Int.mul_le_mul_of_nonneg_right h3 (by omega)
 have h6:((2 ^ b.toNat:Nat):Int) * 2 ^ k=((2 ^ k * 2 ^ b.toNat:Nat):Int):=by
  rw[Nat.mul_comm];simp
 omega
theorem i8:(2:Int) ^ 8=256:=by decide
theorem i16:(2:Int) ^ 16=65536:=by decide
theorem i24:(2:Int) ^ 24=16777216:=by decide
theorem sQ (x:Int) (h0:0≤x) (h1:x < 4294967296):Tg 117 [EI x] (nP (fun n=>0≤n∧n≤32∧x.toNat < 2 ^ n.toNat)):=by
 refine ae Tryz.func117 ?_
 repeat' (conv=>whnf
          first
  |(refine aA (fun h=>?_) (fun h=>?_))
  |(refine IV (N:=256) (B:=8) (by kernel_rfl) (by kernel_rfl) (OH _).1 (OH _).2 ?_;intro bb BV hq)
  |(refine And.intro (by omega) ?_)
  |(refine iK rfl rfl ?_;(try simp only[sr8,WH]at *);first|exact tx (k:=0) (y:=x) (D:=1) (by decide) h0 (by omega) (by omega) (by omega) BV hq (by simp (disch:=omega) only[aa];omega)|exact tx i8 h0 (by omega) rfl (by omega) BV hq (by simp (disch:=omega) only[aa];omega)|exact tx i16 h0 (by omega) rfl (by omega) BV hq (by simp (disch:=omega) only[aa];omega)|exact tx i24 h0 (by omega) (by omega) (by omega) BV hq (by simp (disch:=omega) only[aa];omega)))
 all_goals (conv=>whnf)
theorem ki (x:Int) (h0:0 < x) (h1:x < 4294967296):Tg 250 [EI x] (nP (fun n=>0≤n∧n≤31∧x.toNat < 2 ^ (32 - n.toNat))):=by
 refine ae Tryz.func250 ?_
 repeat' (conv=>whnf
          first
  |(refine ag rfl (sQ x (by omega) h1) ?_;rintro _ ⟨n,rfl,E1,rV,hx⟩)
  |(refine iK rfl rfl ?_;rw[aa (by omega) (by omega)];refine⟨by omega,?_,?_⟩;(rcases Int.lt_or_le 0 n with h|h;omega;(have e:n.toNat=0:=by omega);rw[e]at hx;omega);rw[show 32 - (32 - n).toNat=n.toNat by omega];exact hx))
 all_goals (conv=>whnf)
end Go.aS.Cd
end
section
namespace Go.aS.Cd
open Go
def BT:Lz→Nat
 | []=>0
 |y::_=>lb y
def rt (s:Nat):Lz→Lz
 | []=>[]
 |x::r=>[tU (((lb x+4294967296 * BT r) / 2 ^ s % 4294967296:Nat):Int)]::rt s r
theorem Gi (s:Nat): ∀xs,(rt s xs).length=xs.length
 | []=>rfl
 |_::r=>by simp[rt,Gi s r]
theorem Sa {xs:Lz} (h:Us xs):nv xs % 4294967296=BT xs:=by
 cases xs with
 |nil=>rfl
 |cons y r=>
  have:=(h y List.mem_cons_self).lt
  simp only[nv,BT]
  omega
theorem Jj {x m P Q:Nat} (hP:0 < P) (hx:x < P * Q):(x+P * Q * (m % (P * Q))) / P % (P * Q)+P * Q * (m / P)=(x+P * Q * m) / P:=by
 have e1: ∀n,(x+P * Q * n) / P=x / P+Q * n:=fun n=>by rw[Nat.mul_assoc,Nat.add_mul_div_left _ _ hP]
 rw[e1,e1]
 have hm:=Nat.div_add_mod m P
 have h1:m % (P * Q) % P=m % P:=Nat.mod_mul_right_mod m P Q
 have qm:=Nat.div_add_mod (m % (P * Q)) P
 rw[h1]at qm
 have hlt:x / P < Q:=Nat.div_lt_of_lt_mul hx
 have ht:m % P < P:=Nat.mod_lt _ hP
 have e2:x / P+Q * (m % (P * Q))=(x / P+Q * (m % P))+P * Q * (m % (P * Q) / P):=by
  have:Q * (m % (P * Q))=Q * (P * (m % (P * Q) / P)+m % P):=by rw[qm]
  rw[this];grind
 have e3:x / P+Q * (m % P) < P * Q:=by
  have:Q * (m % P+1)≤Q * P:=Nat.mul_le_mul_left Q ht
  rw[Nat.mul_add,Nat.mul_one,Nat.mul_comm Q P]at this
  omega
 rw[e2,Nat.add_mul_mod_self_left,Nat.mod_eq_of_lt e3]
 have:Q * m=Q * (P * (m / P)+m % P):=by rw[hm]
 rw[this];grind
theorem nt {s:Nat} (h:s≤32):2 ^ s * 2 ^ (32 - s)=4294967296:=by
 rw[←Nat.pow_add,show s+(32 - s)=32 by omega]
theorem Lb {s:Nat} (hs:s≤32): ∀ {xs:Lz},Us xs→nv (rt s xs)=nv xs / 2 ^ s
 | [],_=>by simp[rt,nv]
 |x::r,h=>by
  have hr:Us r:=fun e he=>h e (List.mem_cons_of_mem _ he)
  have hx:=(h x List.mem_cons_self).lt
  have ih:=Lb hs hr
  have hB:=nt hs
  have:=Jj (x:=lb x) (m:=nv r) (P:=2 ^ s) (Q:=2 ^ (32 - s)) (Nat.pow_pos (by omega)) (by rw[hB];exact hx)
  rw[hB,Sa hr]at this
  simp only[rt,nv,jR,ih,Int.toNat_natCast]
  exact this
theorem Gj {s:Nat}: ∀ {xs:Lz} {i:Nat} {x:List T},xs[i]? =some x→(rt s xs)[i]? =some [tU (((lb x+4294967296 * BT (xs.drop (i+1))) / 2 ^ s % 4294967296:Nat):Int)]
 | [],i,x,h=>by simp at h
 |y::r,0,x,h=>by
  simp only[List.getElem?_cons_zero,Option.some.injEq]at h
  subst h
  simp[rt]
 |y::r,i+1,x,h=>by
  simp only[List.getElem?_cons_succ]at h
  simp only[rt,List.getElem?_cons_succ,List.drop_succ_cons]
  exact Gj h
theorem wj {α:Type} {zs ws:List α} {i:Nat} {e:α} (h:zs.take i=ws.take i) (hi:i < zs.length) (he:ws[i]? =some e):(zs.set i e).take (i+1)=ws.take (i+1):=by
 rw[ic he, ←h]
 have:(zs.set i e)[i]? =some e:=by simp[hi]
 rw[ic this]
 congr 1
 apply List.ext_getElem?
 intro n
 rw[List.getElem?_take,List.getElem?_take]
 split
 · rw[List.getElem?_set_ne (by omega)]
 · rfl
theorem JU {xs:Lz} {i:Nat} {y:Int} (h:xs[i]? =some [tU y]):BT (xs.drop i)=y.toNat:=by
 obtain⟨hlt,he⟩:=List.getElem?_eq_some_iff.1 h
 rw[List.drop_eq_getElem_cons hlt,he]
 rfl
theorem JV {xs:Lz} {i:Nat} (h:xs.length≤i):BT (xs.drop i)=0:=by
 rw[List.drop_eq_nil_of_le h];rfl
theorem GF {xs:Lz} {k:Nat} {x y:Int} (h:xs[k]? =some [tU x]):nv (xs.set k [tU y])+4294967296 ^ k * x.toNat=nv xs+4294967296 ^ k * y.toNat:=by
 have hlt:=(List.getElem?_eq_some_iff.1 h).1
 have h2:(xs.set k [tU y])[k]? =some [tU y]:=by simp[hlt]
 have e1:(xs.set k [tU y]).take k=xs.take k:=by
  apply List.ext_getElem?
  intro n
  rw[List.getElem?_take,List.getElem?_take]
  split
  · rw[List.getElem?_set_ne (by omega)]
  · rfl
 have e2:(xs.set k [tU y]).drop (k+1)=xs.drop (k+1):=by
  apply List.ext_getElem?
  intro n
  rw[List.getElem?_drop,List.getElem?_drop,List.getElem?_set_ne (by omega)]
 rw[AA h,AA h2,e1,e2]
 simp only[Nat.mul_add]
 omega
def Lf (xs:Lz) (s i:Nat) (zs:Lz):Prop:=
 zs.length=xs.length+1∧Us zs∧nv zs=nv (xs.take i) * 2 ^ s∧(∃z:Int,zs[i]? =some [tU z]∧0≤z∧z < ((2 ^ s:Nat):Int))∧ ∀j,i < j→j < zs.length→zs[j]? =some [tU 0]
theorem Lf.zero {xs:Lz} {s:Nat}:Lf xs s 0 (List.replicate (xs.length+1) [tU 0]):=by
 refine⟨by simp,Us.replicate _,by rw[yT];simp[nv],⟨0,by simp,by omega,?_⟩,fun j _ hj=>?_⟩
 · have:0 < 2 ^ s:=Nat.pow_pos (by omega)
   omega
 · simp only[List.length_replicate]at hj
   simp[List.getElem?_replicate,hj]
theorem pN {x s:Nat} (hs:s≤32):x * 2 ^ s % 4294967296=(x % 2 ^ (32 - s)) * 2 ^ s:=by
 rw[←nt hs,Nat.mul_comm x (2 ^ s),Nat.mul_mod_mul_left,Nat.mul_comm]
theorem xI {x s:Nat} (hx:x < 4294967296):x * 2 ^ s / 4294967296 < 2 ^ s:=by
 rw[Nat.div_lt_iff_lt_mul (by omega),Nat.mul_comm (2 ^ s)]
 exact Nat.mul_lt_mul_of_pos_right hx (Nat.pow_pos (by omega))
theorem Lh {x s:Nat} (hs:s≤32):x * 2 ^ s % 4294967296+2 ^ s≤4294967296:=by
 rw[pN hs]
 have h1:x % 2 ^ (32 - s)+1≤2 ^ (32 - s):=Nat.mod_lt _ (Nat.pow_pos (by omega))
 have h2:=Nat.mul_le_mul_right (2 ^ s) h1
 rw[Nat.add_mul,Nat.one_mul,Nat.mul_comm (2 ^ (32 - s)),nt hs]at h2
 exact h2
theorem MW {X X' lo hi z w n0 n1 n2 a B:Nat} (hX:X'=X * B) (e3:lo+B * hi=z+w) (a1:n1+X * z=n0+X * lo) (a2:n2+X' * 0=n1+X' * hi) (h3:n0=a):n2=a+X * w:=by
 have e4:X * (lo+B * hi)=X * (z+w):=by rw[e3]
 rw[Nat.mul_add,Nat.mul_add, ←Nat.mul_assoc, ←hX]at e4
 omega
theorem Su {x:Nat} {s:Nat} {z lo hi:Int} (hs:s≤31) (qL:x < 4294967296) (h5:0≤z) (h6:z < ((2 ^ s:Nat):Int)) (hlo:lo=z+((x * 2 ^ s % 4294967296:Nat):Int)) (hhi:hi=((x * 2 ^ s / 4294967296:Nat):Int)):
 (0≤lo∧lo < 4294967296)∧(0≤hi∧hi < ((2 ^ s:Nat):Int))∧hi < 4294967296∧lo.toNat+4294967296 * hi.toNat=z.toNat+x * 2 ^ s:=by
 have hB:2 ^ s≤2147483648:=Nat.pow_le_pow_right (n:=2) (by omega) hs
 have hh:=xI (x:=x) (s:=s) (by omega)
 have hlw:=Lh (x:=x) (s:=s) (by omega)
 have UZ:=Nat.mod_add_div (x * 2 ^ s) 4294967296
 generalize x * 2 ^ s=W at *
 generalize 2 ^ s=Q at *
 omega
theorem Jy {xs:Lz} {i:Nat} {x:Int} (hx:xs[i]? =some [tU x]):nv (xs.take (i+1))=nv (xs.take i)+4294967296 ^ i * x.toNat:=by
 have JS:=(List.getElem?_eq_some_iff.1 hx).1
 rw[ic hx,yU]
 simp only[nv,jR,List.length_take,Nat.mul_zero,Nat.add_zero]
 rw[Nat.min_eq_left (by omega)]
theorem Ss {xs zs:Lz} {s i:Nat} {x z lo hi:Int} (hx:xs[i]? =some [tU x]) (hz:zs[i]? =some [tU z]) (Cr:(zs.set i [tU lo])[i+1]? =some [tU 0]) (h3:nv zs=nv (xs.take i) * 2 ^ s) (e3:lo.toNat+4294967296 * hi.toNat=z.toNat+x.toNat * 2 ^ s):
 nv ((zs.set i [tU lo]).set (i+1) [tU hi])=nv (xs.take (i+1)) * 2 ^ s:=by
 have a1:=GF (y:=lo) hz
 have a2:=GF (y:=hi) Cr
 rw[Jy hx,Nat.add_mul,Nat.mul_assoc]
 exact MW (B:=4294967296) (X':=4294967296 ^ (i+1)) (Nat.pow_succ ..) e3 a1 a2 h3
theorem Lf.next {xs zs:Lz} {s i:Nat} {x:Int} (h:Lf xs s i zs) (hs:s≤31) (hx:xs[i]? =some [tU x]) (hx0:0≤x) (qL:x < 4294967296) {z lo hi:Int} (hz:zs[i]? =some [tU z])
 (hlo:lo=z+((x.toNat * 2 ^ s % 4294967296:Nat):Int)) (hhi:hi=((x.toNat * 2 ^ s / 4294967296:Nat):Int)):Lf xs s (i+1) ((zs.set i [tU lo]).set (i+1) [tU hi]):=by
 obtain⟨h1,h2,h3,⟨z',h4,h5,h6⟩,h7⟩:=h
 rw[hz]at h4
 simp only[Option.some.injEq,List.cons.injEq,T.val.injEq,Value.int.injEq,true_and,and_true]at h4
 subst h4
 have JS:=(List.getElem?_eq_some_iff.1 hx).1
 have Cr:(zs.set i [tU lo])[i+1]? =some [tU 0]:=by
  rw[List.getElem?_set_ne (by omega)]
  exact h7 (i+1) (by omega) (by omega)
 obtain⟨⟨c1,c2⟩,⟨c3,c4⟩,c5,e3⟩:=Su hs (by omega) h5 h6 hlo hhi
 refine⟨by simp[h1],(h2.set c1 c2).set c3 c5,Ss hx hz Cr h3 e3,⟨hi,by rw[List.getElem?_set_self (by simp;omega)],c3,c4⟩,fun j hj hl=>?_⟩
 simp only[List.length_set]at hl
 rw[List.getElem?_set_ne (by omega),List.getElem?_set_ne (by omega)]
 exact h7 j (by omega) hl
theorem Lf.fin {xs zs:Lz} {s:Nat} (h:Lf xs s xs.length zs):zs.length=xs.length+1∧Us zs∧nv zs=nv xs * 2 ^ s:=by
 refine⟨h.1,h.2.1,?_⟩
 rw[h.2.2.1,List.take_length]
theorem Mq {xs:Lz} (i k:Nat):4294967296 ^ i * dz xs i k≤nv xs:=by
 by_cases hi:i≤xs.length
 · rw[uE xs i]
   have:(xs.take i).length=i:=by simp;omega
   rw[this]
   have h2:=uE (xs.drop i) k
   have h3:dz xs i k≤nv (xs.drop i):=by unfold dz;omega
   have:=Nat.mul_le_mul_left (4294967296 ^ i) h3
   omega
 · unfold dz
   rw[List.drop_eq_nil_of_le (by omega)]
   simp[nv]
theorem Mi {us aZ_ bs:Lz} {s n i:Nat} (ha:Us aZ_) (hu:nv us=nv aZ_ * 2 ^ s) (hb: ∀e,bs.getLast? =some e→lb e≠0) (hn:bs.length=n) (rV:1≤n) (hi:i+n=aZ_.length+1) {V:Nat} (hV:V=nv bs * 2 ^ s):dz us i n < V:=by
 have h1:=xE ha
 have h2:=Az hb (by intro e;subst e;simp at hn;omega)
 have h3:=Mq (xs:=us) i n
 rw[hu]at h3
 have h4:nv aZ_ * 2 ^ s < 4294967296 ^ aZ_.length * 2 ^ s:=Nat.mul_lt_mul_of_pos_right h1 (Nat.pow_pos (by omega))
 have e:aZ_.length=i+(n - 1):=by omega
 rw[e,Nat.pow_add,Nat.mul_assoc]at h4
 have h5:=Nat.lt_of_mul_lt_mul_left (Nat.lt_of_le_of_lt h3 h4)
 rw[hV]
 refine Nat.lt_of_lt_of_le h5 (Nat.mul_le_mul_right _ ?_)
 rw[←hn];exact h2
theorem NL {bs:Lz} {s n:Nat} {x:Int} (hb:Us bs) (hn:bs.length=n) (rV:1≤n) (hx:bs[n - 1]? =some [tU x]) (hs:s≤32) (hxs:x.toNat < 2 ^ (32 - s)):nv bs * 2 ^ s < 4294967296 ^ n:=by
 have h1:=AA hx
 rw[List.drop_eq_nil_of_le (by omega)]at h1
 simp only[nv,Nat.mul_zero,Nat.add_zero]at h1
 have h2:=xE (hb.take (n - 1))
 have e:(bs.take (n - 1)).length=n - 1:=by simp;omega
 rw[e]at h2
 have h3:nv bs < 4294967296 ^ (n - 1) * 2 ^ (32 - s):=by
  have:4294967296 ^ (n - 1) * (x.toNat+1)≤4294967296 ^ (n - 1) * 2 ^ (32 - s):=Nat.mul_le_mul_left _ hxs
  rw[Nat.mul_add,Nat.mul_one]at this
  omega
 have h4:=Nat.mul_lt_mul_of_pos_right h3 (Nat.pow_pos (n:=s) (show 0 < 2 by omega))
 rw[Nat.mul_assoc,Nat.mul_comm (2 ^ (32 - s)),nt hs]at h4
 have e2:4294967296 ^ n=4294967296 ^ (n - 1) * 4294967296:=by rw[←Nat.pow_succ];congr 1;omega
 rw[e2]
 exact h4
theorem Jg {vs:Lz} {n:Nat} (h:nv vs < 4294967296 ^ n) (hl:n≤vs.length):dz vs 0 n=nv vs:=by
 have h1:=uE vs n
 have e:(vs.take n).length=n:=by simp;omega
 rw[e]at h1
 unfold dz
 rw[List.drop_zero]
 have:nv (vs.drop n)=0:=by
  apply Nat.eq_zero_of_not_pos
  intro hp
  have:4294967296 ^ n * 1≤4294967296 ^ n * nv (vs.drop n):=Nat.mul_le_mul_left _ hp
  omega
 rw[this]at h1
 simpa using h1.symm
theorem Ju {us:Lz} {i n V:Nat} {x:Int} (hU:Us us) (hx:us[i]? =some [tU x]) (h:dz us (i+1) n < V):dz us i (n+1) < 4294967296 * V:=by
 rw[Gg hx]
 have h1:VW [tU x]:=hU _ (List.mem_of_getElem? hx)
 have:=h1.lt
 rw[jR]at this
 have:=Nat.mul_le_mul_left 4294967296 (Nat.succ_le_of_lt h)
 rw[Nat.succ_eq_add_one,Nat.mul_add]at this
 omega
end Go.aS.Cd
end
section
namespace Go.aS
open Go
variable {P:Program} {M A:Nat→Prop} {ρ:Env} {F:Nat→Prop} {st:St} {a:Act} {w:World}
abbrev EK:V:= .w (.one (.t iA))
theorem dZ.refl (A:Nat→Prop) (w:World):dZ A A w w:=⟨Nat.le_refl _,fun _ _ hn=>⟨rfl,hn⟩⟩
theorem dP.iU {tm:TS} {hp:HS} {ctr:Nat} (t sz:Nat) (h:find tm t=some EK):dP tm hp ctr ((t, .w (.one (.own ctr sz 0 0)))::tm) ((ctr, .row sz [])::hp) (ctr+4):=by
 intro M A ρ n a w hr
 have hfr:ρ ctr=none:=hr.fresh ctr (Nat.le_refl _)
 have cF:cU ρ (dg ρ ctr .iU):=cU.jJ hfr
 have hne: ∀ {id:Nat},id≠ctr→dg ρ ctr .iU id=ρ id:=fun bJ=>by simp[dg,bJ]
 refine⟨A,dg ρ ctr .iU,⟨hr.size,hr.defers,fun u v hv=>?_,fun id blk hb=>?_,fun id id' blk fp b h1 h2 r1 r2=>?_,fun id bJ=>?_,hr.bound,hr.may,hr.dX⟩,cF.K3,fM.refl M A w⟩
 · simp only[aq]at hv
   split at hv
   · rename_i e
     subst e
     simp only[Option.some.injEq]at hv
     subst hv
     have hx:RW w A ρ (.one (.t iA)) (a.tmps.getD t undef):=hr.tmps t _ h
     obtain⟨h1,h2⟩:=hx
     have IN:RT w A iA (a.tmps.getD t undef):=h1
     generalize a.tmps.getD t undef=x at IN h2
     cases IN
     exact⟨.inr ⟨by simp[dg],rfl,rfl,rfl⟩,rfl⟩
   · exact(hr.tmps u v hv).keeps (dZ.refl _ _) (fun _ _=>rfl) cF
 · simp only[aq]at hb
   split at hb
   · rename_i e
     subst e
     simp only[Option.some.injEq]at hb
     subst hb
     exact⟨by simp, .inr ⟨by simp[dg],rfl⟩⟩
   · exact(hr.heap id blk hb).keeps (dZ.refl _ _) (fun _ _=>rfl) cF (fun _ h=>h) (fun _ _=>rfl)
 · simp only[aq]at h1 h2
   have n1:id≠ctr:=by intro e;subst e;simp[dg]at r1
   have n2:id'≠ctr:=by intro e;subst e;simp[dg]at r2
   rw[if_neg (fun e=>n1 e.symm)]at h1
   rw[if_neg (fun e=>n2 e.symm)]at h2
   rw[hne n1]at r1
   rw[hne n2]at r2
   exact hr.inj id id' blk fp b h1 h2 r1 r2
 · simp only[bt]at bJ
   rw[hne (by omega)]
   exact hr.fresh id (by simp only[bt];omega)
theorem dP.av {tm:TS} {hp:HS} {ctr:Nat} (t sz:Nat) (h:find tm t=some EK):dP tm hp ctr ((t, .w (.one (.t (.av sz []))))::tm) hp ctr:=by
 intro M A ρ n a w hr
 refine⟨A,ρ,⟨hr.size,hr.defers,fun u v hv=>?_,hr.heap,hr.inj,hr.fresh,hr.bound,hr.may,hr.dX⟩,iJ.refl _,fM.refl M A w⟩
 simp only[aq]at hv
 split at hv
 · rename_i e
   subst e
   simp only[Option.some.injEq]at hv
   subst hv
   exact(wi.one (.nil sz)).rw (hr.tmps t _ h)
 · exact hr.tmps u v hv
theorem Ai {α:Type} {l:List α} {k i:Nat} {e:α} (h:(l.take k)[i]? =some e):l[i]? =some e:=by
 rw[List.getElem?_take]at h
 split at h
 · exact h
 · simp at h
theorem eP {n:Nat} {b:Rc} {Q:Exit→TS→HS→Nat→Prop} {tm sI:TS} {hp zj:HS} {ctr c0:Nat} (keys:List Nat) (nest:List (Nat×Nat)) (ks:List Nat) (L:List (Nat×Nat)) (R:Nat→List V→List (Lz)→Prop) (m0:Nat) (ym:List V) {hJ:List (Lz)} {lc:TS} {o6:HS} {cB:Nat}
 (hW:dP tm hp ctr sI zj c0)
 (hB:Bb (vQ keys nest sI zj) fun S=>pS (S.tm sI) fun t=>qT (S.hp zj) fun q=>S.ok=true∧t=lc∧q=o6∧S.ctr=cB)
 (D4:lc.length=keys.length) (h0:lc=j5 ks ym lc) (hH:nj L o6 hJ) (J0:R m0 ym hJ)
 (hstep: ∀m vs xss,R m vs xss→pS (j5 ks vs lc) fun nF=>qT (Sm L xss) fun hq=>X P n b (gU (bM fun bf aF c'=> ∃m' vs' xss',nj L aF xss'∧R m' vs' xss'∧bf=j5 ks vs' lc∧c'=cB∧m' < m) Q) nF hq cB):
 ∃I:Nat→TS→HS→Nat→Prop,bM (fun tm hp c=> ∃m,I m tm hp c) tm hp ctr∧
  ∀m tm hp c,I m tm hp c→X P n b (gU (bM fun tm hp c=> ∃m',m' < m∧I m' tm hp c) Q) tm hp c:=by
 rw[nx,fO,iz]at hB
 obtain⟨hS,e1,e2,e3⟩:=hB
 refine⟨fun m bf aF c'=> ∃vs' xss',nj L aF xss'∧R m vs' xss'∧bf=j5 ks vs' lc∧c'=cB, .sem hW (.mk' ⟨vQ keys nest sI zj,hS,m0,ym,hJ,by rw[e2];exact hH,J0,e1.trans h0,e3⟩),?_⟩
 rintro m bf hq c' ⟨vs,xss,YT,hR,rfl,rfl⟩
 have:=hstep m vs xss hR
 rw[fO,iz, ←YT.eq]at this
 refine(congrArg (fun J=>X P n b (gU (bM J) Q) _ _ _) ?_).mp this
 funext bf aF Vc
 exact propext ⟨fun⟨m',vs',xss',h1,h2,h3,h4,h5⟩=>⟨m',h5,vs',xss',h1,h2,h3,h4⟩,fun⟨m',h5,vs',xss',h1,h2,h3,h4⟩=>⟨m',vs',xss',h1,h2,h3,h4,h5⟩⟩
theorem Rel.shrink {A A':Nat→Prop} {hp:HS} (h:Rel M A' ρ F st a w) (hA: ∀b,A b→A' b) (hsub: ∀id b,find hp id=some b→find st.heap id=some b) (hb: ∀id blk b,find hp id=some blk→ρ id=some (.fz b)→A b):Rel M A ρ F ⟨st.n,st.tmps,hp⟩ a w:=by
 have hk:dZ A' A w w:=⟨Nat.le_refl _,fun b _ hn=>⟨rfl,fun h=>hn (hA b h)⟩⟩
 refine⟨h.size,h.defers,fun t v hv=>(h.tmps t v hv).keeps hk (fun _ _=>rfl) (cU.refl _),fun id blk hf=>?_,fun id id' blk fp b h1 h2=>h.inj id id' blk fp b (hsub _ _ h1) (hsub _ _ h2),h.fresh,fun b hb=>h.bound b (hA b hb),h.may,h.dX.sub (fun _ _ h=>h) hA⟩
 have hh:=h.heap id blk (hsub _ _ hf)
 cases blk with
 |row sz xs=>
  obtain⟨h1,h2⟩:=hh
  refine⟨h1,?_⟩
  rcases h2 with⟨b,c,e,k1,k2,k3,k4,k5,k6⟩|h2
  · refine .inl ⟨b,c,e,k1,k2,hb id _ b hf k1,k4,k5,fun i el j k hi hj=>?_⟩
    obtain⟨x,hx,hc,hcell⟩:=k6 i el j k hi hj
    exact⟨x,hx,hc.keeps hk (fun _ _=>rfl) (cU.refl _),hcell⟩
  · exact .inr h2
 |mp es clock=>
  obtain⟨b,en,k1,k2,k3,k4,k5,k6⟩:=hh
  refine⟨b,en,k1,k2,hb id _ b hf k1,k4,k5,fun i k c n hi=>?_⟩
  obtain⟨e,h1,h2,h3,h4,h5⟩:=k6 i k c n hi
  exact⟨e,h1,h2,h3,h4.keeps hk (fun _ _=>rfl) (cU.refl _),h5⟩
theorem zq {id:Nat} {blk:bi} {b:Nat} (h:HB w M A ρ id blk) (hρ:ρ id=some (Loc.fz b)):A b∧b < w.heap.size:=by
 cases blk with
 |row sz xs=>
  obtain⟨_,h2⟩:=h
  rcases h2 with⟨b',c,e,k1,k2,k3,k4,_⟩|⟨h2,_⟩
  · rw[hρ]at k1
    simp only[Option.some.injEq,Loc.fz.injEq]at k1
    subst k1
    refine⟨k3,?_⟩
    rcases Nat.lt_or_ge b w.heap.size with h|h
    · exact h
    · rw[Array.getElem?_eq_none h]at k4;simp at k4
  · rw[hρ]at h2;simp at h2
 |mp es clock=>
  obtain⟨b',en,k1,k2,k3,k4,_⟩:=h
  rw[hρ]at k1
  simp only[Option.some.injEq,Loc.fz.injEq]at k1
  subst k1
  refine⟨k3,?_⟩
  rcases Nat.lt_or_ge b w.heap.size with h|h
  · exact h
  · rw[Array.getElem?_eq_none h]at k4;simp at k4
set_option maxHeartbeats 1000000 in
theorem Ji {t len n ctr ty sz:Nat} {ps:Array (Nat×Operand)} {l:List (Nat×W)} {tm:TS} {hp:HS} {xs:Lz} (hl:fQ (St.get ⟨n,tm,hp⟩) ps.toList=some l)
 (he:dw P t len l ctr=some (.w (.one (.own ctr sz 0 len)),(ctr, .row sz (tr xs)))) (hlen:xs.length=len):gR P n (.buildSlice t len ps) ty tm hp ctr (.w (.one (.t (.av sz xs)))) hp:=by
 rintro⟨dst',op',ty',pos',after',guard'⟩ rfl rfl
 intro M A ρ a w hr
 have hn:bt ctr ctr:=Nat.le_refl _
 have aF:Il w A ρ l (ps.map fun p=>(p.1,a.eval p.2)).toList:=by simpa using iW hr hl
 unfold dw at he
 split at he
 · rename_i e hu
   split at he
   · rename_i z hz
     split at he
     · rename_i hc
       simp only[Option.map_eq_some_iff,Prod.mk.injEq,V.w.injEq,W.one.injEq,C.own.injEq,bi.row.injEq,true_and,and_true]at he
       obtain⟨ys,hxs,rfl,_,rfl⟩:=he
       obtain⟨i,zv,hi,G4,hzs,JN,uU⟩:=ec hz w A ρ
       obtain⟨vs,hvs,hE⟩:=mV hxs (mj uU len) aF
       have S9:=qV hxs
       simp only[List.length_replicate]at S9
       have hle:(tr xs).length * z.length≤vs.size:=by rw[hE.2.1];exact Nat.le_refl _
       obtain⟨h1,h2⟩:=hr.alloc hn (sz:=z.length) (xs:=tr xs) (c:=vs) (e:=e) hE.1 hle hE.2.2
       have hold: ∀id blk b,find hp id=some blk→dg ρ ctr (.fz w.heap.size) id=some (.fz b)→A b:=by
        intro id blk b hf hρ
        have hh:=hr.heap id blk hf
        by_cases bJ:id=ctr
        · subst bJ
          exfalso
          have hfr:=hr.fresh id hn
          cases blk with
          |row sz xs=>
           rcases hh.2 with⟨b',_,_,k1,_⟩|⟨k1,_⟩
           · rw[hfr]at k1;simp at k1
           · rw[hfr]at k1;simp at k1
          |mp es clock=>
           obtain⟨b',en,k1,_⟩:=hh
           rw[hfr]at k1;simp at k1
        · have:ρ id=some (.fz b):=by simpa[dg,bJ]using hρ
          exact(zq hh this).1
       have cE:Rel M A (dg ρ ctr (.fz w.heap.size)) (bt (ctr+4)) ⟨n,tm,hp⟩ a (w.alloc (.cells vs e)):=by
        refine Rel.sub (Rel.shrink h1 (A:=A) (hp:=hp) (fun b hb=> .inl hb) (fun id b hf=>?_) hold) (fun id bJ=>⟨by simp only[bt]at bJ⊢;omega,by simp only[bt]at bJ;omega⟩)
        simp only[aq]
        split
        · rename_i e1
          subst e1
          exfalso
          have hh:=hr.heap ctr b hf
          have hfr:=hr.fresh ctr hn
          cases b with
          |row sz xs=>
           rcases hh.2 with⟨b',_,_,k1,_⟩|⟨k1,_⟩
           · rw[hfr]at k1;simp at k1
           · rw[hfr]at k1;simp at k1
          |mp es clock=>
           obtain⟨b',en,k1,_⟩:=hh
           rw[hfr]at k1;simp at k1
        · exact hf
       have rV:¬ (len * i.size > 2 ^ 24):=by rw[JN];have:=hc.1;omega
       have hsize:(sizeOf e).run P w= .ok i.size w:=by simp[sizeOf,typeInfo,hi]
       rw[←JN]at hvs
       have hrun:(Instr.buildSlice t len (ps.map fun p=>(p.1,a.eval p.2))).run P w= .ok (.slice (some ⟨w.heap.size,0,none⟩) len len) (w.alloc (.cells vs e)):=by
        generalize (ps.map fun p=>(p.1,a.eval p.2))=qs at hvs
        simp only[Instr.buildSlice,Sem.run_bind,run_underlying hu,Result.andThen_ok,hsize,rV,if_false]
        by_cases h0:len * i.size=0
        · rw[h0,uq,Array.map_empty]at hvs
          simp[h0,uq,hvs,newRow]
        · simp[h0,di hi G4,hvs,newRow]
       have hnew:(w.alloc (.cells vs e)).heap[w.heap.size]? =some (.cells vs e (0,0)):=heap_alloc_new w _
       have hkA:dZ A A w (w.alloc (.cells vs e)):=⟨by simp,fun b hlt hn=>⟨RowKit.Below.heap_alloc w _ b hlt,hn⟩⟩
       have hval:RV (w.alloc (.cells vs e)) A (dg ρ ctr (.fz w.heap.size)) (.w (.one (.t (.av z.length xs)))) (.slice (some ⟨w.heap.size,0,none⟩) len len):=by
        refine⟨RT.av (fun i j=>vs.getD (i * z.length+j) undef) hlen.symm (Nat.le_refl _) (by simp) (fun hb=>by have:=hr.bound _ hb;omega) (fun el hel=>?_) (fun i el j c hi hj=>?_) (fun i el j c hi hj=>?_),rfl⟩
        · have:=hE.1 (el.map .t) (by simp only[tr,List.mem_map];exact⟨el,hel,rfl⟩)
          simpa using this
        · obtain⟨x,hx,_,_⟩:=hE.2.2 i (el.map .t) j (.t c) (by simp[tr,hi]) (by simp[hj])
          simp only[World.cell?,hnew,Option.isSome_none,Bool.false_eq_true,if_false,Nat.zero_add,hx,Array.getD_eq_getD_getElem?,Option.getD_some]
        · obtain⟨x,hx,hrc,_⟩:=hE.2.2 i (el.map .t) j (.t c) (by simp[tr,hi]) (by simp[hj])
          simp only[Array.getD_eq_getD_getElem?,hx,Option.getD_some]
          have XW:RT w A c x:=hrc
          exact XW.keeps hkA
       exact nO.of (s:=Instr.buildSlice t len (ps.map fun p=>(p.1,a.eval p.2))) (by
        show(Bind.bind (Instr.buildSlice t len (ps.map fun p=>(p.1,a.eval p.2))) fun v=>Pure.pure (Next.value v)).run P w=_
        rw[Sem.run_bind]
        simp only[Sem.run_pure]) hrun cE hval (df.alloc M w _) h2 (bE.refl A w)
     · simp at he
   · simp at he
 · simp at he
end Go.aS
end
section
namespace Go.aS.Cd
open Go Go.Proofs
set_option maxRecDepth 100000
theorem WN (a:Int) (s:Nat) (h0:0≤a) (h1:a < 4294967296) (hs:s≤31):IntKind.u64.wrap (a * 2 ^ (min ((s:Int)).toNat IntKind.u64.bits))=((a.toNat * 2 ^ s:Nat):Int):=by
 rw[Gd a s (by omega)]
 have hB:2 ^ s≤2147483648:=Nat.pow_le_pow_right (n:=2) (by omega) hs
 have h2:a.toNat * 2 ^ s≤4294967295 * 2147483648:=Nat.mul_le_mul (by omega) hB
 have e:a * ((2 ^ s:Nat):Int)=((a.toNat * 2 ^ s:Nat):Int):=by
  rw[Int.natCast_mul];congr 1;omega
 rw[e]
 omega
theorem MF {z:Int} {b k:Nat} (zf:0≤z) (hz:z < ((2 ^ k:Nat):Int)) (hb:b * 2 ^ k < 4294967296) (hk:2 ^ k≤4294967296):
 IntKind.u32.wrap ((BitVec.ofInt IntKind.u32.bits z|||BitVec.ofInt IntKind.u32.bits ((b * 2 ^ k:Nat):Int)).toNat:Int)=IntKind.u32.wrap (z+((b * 2 ^ k:Nat):Int)):=by
 have e: ∀x:Int,0≤x→x < 4294967296→(BitVec.ofInt IntKind.u32.bits x).toNat=x.toNat:=by
  intro x h0 h1
  simp only[BitVec.toNat_ofInt,IntKind.bits]
  congr 1
  omega
 rw[BitVec.toNat_or,e _ zf (by omega),e _ (by omega) (by omega)]
 have:=Gz (a:=z.toNat) (b:=b) k (by omega)
 rw[Int.toNat_natCast,this]
 congr 1
 omega
def D6 (xs:Lz) (s:Nat) (m:Nat) (vs:List V) (xss:List (Lz)):Prop:= ∃ (i:Nat) (zs:Lz),i≤xs.length∧m=xs.length - i∧vs=[iV .i64 (i:Int)]∧xss=[zs]∧Lf xs s i zs
theorem D6.next {xs zs:Lz} {s i:Nat} {x z:Int} (h:Lf xs s i zs) (hs:s≤31) (hl:xs.length≤1000000) (hi:i < xs.length) (hx:xs[((i:Int)).toNat]? =some [tU x]) (hx0:0≤x) (qL:x < 4294967296) (hz:zs[0+((i:Int)).toNat]? =some [tU z]):
 D6 xs s (xs.length - (i+1)) [iV .i64 (IntKind.i64.wrap ((i:Int)+1))]
  [(zs.set (0+((i:Int)).toNat) [tU (IntKind.u32.wrap ((BitVec.ofInt IntKind.u32.bits z|||BitVec.ofInt IntKind.u32.bits (IntKind.u32.wrap (IntKind.u64.wrap (IntKind.u64.wrap x * 2 ^ (min ((s:Int)).toNat IntKind.u64.bits))))).toNat:Int))]).set (0+(IntKind.i64.wrap ((i:Int)+1)).toNat)
    [tU (IntKind.u32.wrap ((IntKind.u64.wrap (IntKind.u64.wrap x * 2 ^ (min ((s:Int)).toNat IntKind.u64.bits))).fdiv (2 ^ (min (32:Int).toNat IntKind.u64.bits))))]]:=by
 have e0:((i:Int)).toNat=i:=by omega
 have e1:IntKind.i64.wrap ((i:Int)+1)=((i+1:Nat):Int):=by rw[bj (by omega) (by omega)];rfl
 rw[e0]at hx
 rw[e0,Nat.zero_add]at hz
 rw[u64_in (n:=x) hx0 (by omega),WN x s hx0 qL hs,e1,e0,Nat.zero_add,Int.toNat_natCast,Nat.zero_add,Ds]
 refine⟨i+1,_,by omega,rfl,rfl,rfl,h.next hs hx hx0 qL hz ?_ ?_⟩
 · have hh:=h
   obtain⟨_,_,_,⟨z',h4,h5,h6⟩,_⟩:=hh
   rw[hz]at h4
   simp only[Option.some.injEq,List.cons.injEq,T.val.injEq,Value.int.injEq,true_and,and_true]at h4
   subst h4
   have hB:2 ^ s≤2147483648:=Nat.pow_le_pow_right (n:=2) (by omega) hs
   have e2:IntKind.u32.wrap ((x.toNat * 2 ^ s:Nat):Int)=((x.toNat * 2 ^ s % 4294967296:Nat):Int):=by
    rw[kX];omega
   have hlw:=Lh (x:=x.toNat) (s:=s) (by omega)
   rw[e2,pN (by omega),MF h5 h6 (by rw[←pN (by omega)];omega) (by omega),u32_in (by omega) (by rw[←pN (by omega)];omega)]
 · have:=xI (x:=x.toNat) (s:=s) (by omega)
   have hB:2 ^ s≤2147483648:=Nat.pow_le_pow_right (n:=2) (by omega) hs
   rw[u32_in (by omega) (by omega)]
   omega
theorem Jz {xs zs:Lz} {s i:Nat} (h:Lf xs s i zs) (e:i=xs.length):zs.length=xs.length+1∧Us zs∧nv zs=nv xs * 2 ^ s:=by subst e;exact h.fin
theorem yY (xs:Lz) (s:Nat) (hx:Us xs) (hl:xs.length≤400000) (hs:s≤31): ∃ts hout,Ab Tryz.prog 251 [oL 1 xs,oI s] (aQ ts) hout∧GN 1 (fun ys=>ys.length=xs.length+1∧Us ys∧nv ys=nv xs * 2 ^ s) ts hout:=by
 refine vq Tryz.func251 ?_
 repeat' (conv=>whnf
          first
  |(refine aA (fun h=>?_) (fun h=>?_))
  |(refine au hx (by omega) (by omega) ?_;rintro _ ⟨x,rfl,hx0,qL⟩ hs1)
  |(refine And.intro ⟨(by first|omega|(simp (disch:=omega) only[aa];omega)),(by first|omega|(simp (disch:=omega) only[aa];omega)),(by first|omega|(simp (disch:=omega) only[aa];omega)),(by first|omega|(simp (disch:=omega) only[aa];omega))⟩ ?_)
  |(refine And.intro (show(0:Int)≤(s:Int) by omega) ?_)
  |(refine And.intro ⟨(by first|omega|(simp (disch:=omega) only[aa];omega)),(by first|omega|(simp (disch:=omega) only[aa];omega))⟩ ?_)
  |(refine And.intro (by omega) ?_)
  |(refine cv (xs:=zs) rfl hf.2.1 (by have:=hf.1;omega) ?_;rintro _ ⟨z,rfl,zf,sU⟩ bO)
  |(refine cv (xs:=zs.set _ [tU _]) (az.set rfl _ [tU _]) (hf.2.1.set (ee _) (eX _)) (by have:=hf.1;simp (disch:=omega) only[List.length_set,aa];omega) ?_;rintro _ ⟨z3,rfl,_,_⟩ _)
  |exact gN rfl rfl rfl (xs:=zs) rfl (by have:=hf.1;simp (disch:=omega) only[aa];omega) (Jz hf (by omega))
  |(apply bH [1,5,13,14,15] [] [15] [(4,1)] (D6 xs s) (xs.length) [iV .i64 0];(conv=>whnf);exact⟨rfl,rfl,rfl,rfl⟩;exact rfl;exact rfl;exact .cons (az.ak (az.replicate _ [tU 0]) _) .nil;exact⟨0,_,by omega,rfl,rfl,rfl,by rw[bj (by omega) (by omega),show((xs.length:Int)+1).toNat=xs.length+1 by omega];exact Lf.zero⟩;rintro _ _ _ ⟨i,zs,hi,rfl,rfl,rfl,hf⟩)
  |(refine aj [1,5,13,14,15] [] ?_;(conv=>whnf);exact⟨rfl,_,[_],_, .cons (az.ak (az.set (az.set (xs:=zs) rfl _ [tU _]) _ [tU _]) _) .nil,D6.next hf hs (by omega) (by omega) hs1 hx0 qL (by assumption),rfl,rfl,by omega⟩))
 all_goals (conv=>whnf)
theorem R0 {a b:Int} (ha0:0≤a) (ha:a < 4294967296) (hb0:0≤b) (hb:b < 4294967296):
 IntKind.u64.wrap ((BitVec.ofInt IntKind.u64.bits a|||BitVec.ofInt IntKind.u64.bits (b * 4294967296)).toNat:Int)=b * 4294967296+a:=by
 rw[←MH ha0 ha hb0 hb]
 rw[BitVec.toNat_or,BitVec.toNat_or,Nat.or_comm]
theorem xp {W:Int} {N s:Nat} (hs:s≤31) (hW:W=(N:Int)):IntKind.u32.wrap (W.fdiv (2 ^ (min ((s:Int)).toNat IntKind.u64.bits)))=((N / 2 ^ s % 4294967296:Nat):Int):=by
 rw[qB _ s (by omega),kX,hW]
 have e1:(N:Int) / ((2 ^ s:Nat):Int)=((N / 2 ^ s:Nat):Int):=rfl
 rw[e1]
 omega
theorem Ew {x y:Int} {s:Nat} (hx0:0≤x) (qL:x < 4294967296) (hy0:0≤y) (xM:y < 4294967296) (hs:s≤31):
 IntKind.u32.wrap ((IntKind.u64.wrap ((BitVec.ofInt IntKind.u64.bits (IntKind.u64.wrap x)|||BitVec.ofInt IntKind.u64.bits (IntKind.u64.wrap (IntKind.u64.wrap y * 2 ^ (min (32:Int).toNat IntKind.u64.bits)))).toNat:Int)).fdiv (2 ^ (min ((s:Int)).toNat IntKind.u64.bits)))=(((x.toNat+4294967296 * y.toNat) / 2 ^ s % 4294967296:Nat):Int):=by
 apply xp hs
 rw[u64_in hx0 (by omega),u64_in hy0 (by omega),Ge,Int.emod_eq_of_lt (by omega) (by omega),R0 hx0 qL hy0 xM]
 omega
def vW (us:Lz) (n s:Nat) (m:Nat) (vs:List V) (xss:List (Lz)):Prop:= ∃ (i:Nat) (zs:Lz),i≤n∧m=n - i∧vs=[iV .i64 (i:Int)]∧xss=[us,zs]∧zs.length=n∧Us zs∧zs.take i=(rt s (us.take n)).take i
theorem F5 {us:Lz} {n i:Nat} (h:i < n):(us.take n)[i]? =us[i]? :=by rw[List.getElem?_take,if_pos h]
theorem vW.next {us zs:Lz} {n s i:Nat} {x y v:Int} (hn:n≤us.length) (hl:us.length≤1000000) (hz:zs.length=n) (hU:Us zs) (ht:zs.take i=(rt s (us.take n)).take i) (hi:i < n) (hx:us[0+((i:Int)).toNat]? =some [tU x])
 (hy:BT ((us.take n).drop (i+1))=y.toNat) (hv:v=(((x.toNat+4294967296 * y.toNat) / 2 ^ s % 4294967296:Nat):Int)):
 vW us n s (n - (i+1)) [iV .i64 (IntKind.i64.wrap ((i:Int)+1))] [us,zs.set (0+((i:Int)).toNat) [tU v]]:=by
 have e0:0+((i:Int)).toNat=i:=by omega
 rw[e0]at hx⊢
 rw[←F5 hi]at hx
 refine⟨i+1,_,by omega,rfl,by rw[bj (by omega) (by omega)];rfl,rfl,by simp[hz],hU.set (by omega) (by omega),?_⟩
 refine wj ht (by omega) ?_
 rw[Gj hx,jR,hy,hv]
theorem Gm {us:Lz} {n i:Nat} {y:Int} (E3:(i:Int) < n) (hi:IntKind.i64.wrap ((i:Int)+1) < (n:Int)) (h:us[0+(IntKind.i64.wrap ((i:Int)+1)).toNat]? =some [tU y]) (hl:n≤1000000):BT ((us.take n).drop (i+1))=y.toNat:=by
 have e0:0+(IntKind.i64.wrap ((i:Int)+1)).toNat=i+1:=by rw[bj (by omega) (by omega)];omega
 rw[bj (by omega) (by omega)]at hi
 rw[e0, ←F5 (n:=n) (i:=i+1) (by omega)]at h
 exact JU h
theorem Ex {us zs:Lz} {n s i k:Nat} (hs:s≤31) (hU:Us us) (hn:n≤us.length) (hz:zs.length=n) (ht:zs.take i=(rt s (us.take n)).take i) (hi:n≤i) (hT:BJ zs (zs.take k)):Nm n (zs.take k)∧nv (zs.take k)=dz us 0 n / 2 ^ s:=by
 refine⟨hT.nm (by omega),?_⟩
 rw[hT.2.2.1]
 have e:zs=rt s (us.take n):=by
  rw[List.take_of_length_le (by omega),List.take_of_length_le (by rw[Gi];simp;omega)]at ht
  exact ht
 rw[e,Lb (by omega) (hU.take n)]
 simp[dz]
theorem wD (us:Lz) (n s:Nat) (hx:Us us) (hn:n≤us.length) (hl:us.length≤400001) (hs:s≤31): ∃ts hout,Fn Tryz.prog 253 [.one (.own 0 1 0 n),oI s] [(0, .row 1 (tr us))] (aQ ts) hout∧Ul 1 us (fun ts=> ∃ys,ts=[oL 1 ys]∧Nm n ys∧nv ys=dz us 0 n / 2 ^ s) ts hout:=by
 refine gH Tryz.func253 ?_
 repeat' (conv=>whnf
          first
  |(refine aA (fun h=>?_) (fun h=>?_))
  |(refine And.intro ⟨(by first|omega|(simp (disch:=omega) only[aa];omega)),(by first|omega|(simp (disch:=omega) only[aa];omega)),(by first|omega|(simp (disch:=omega) only[aa];omega)),(by first|omega|(simp (disch:=omega) only[aa];omega))⟩ ?_)
  |(refine And.intro (show(0:Int)≤(s:Int) by omega) ?_)
  |(refine And.intro ⟨(by first|omega|(simp (disch:=omega) only[aa];omega)),(by first|omega|(simp (disch:=omega) only[aa];omega))⟩ ?_)
  |(refine And.intro (by omega) ?_)
  |(refine cv (xs:=us) (i:=0+((i:Int)).toNat) rfl hx (by omega) ?_;rintro _ ⟨x,rfl,hx0,qL⟩ hs1)
  |(refine cv (xs:=us) rfl hx (by first|omega|(simp (disch:=omega) only[aa];omega)) ?_;rintro _ ⟨y,rfl,hy0,xM⟩ bO)
  |(refine cv (xs:=zs) rfl hU (by omega) ?_;rintro _ ⟨z,rfl,zf,sU⟩ _)
  |(refine Eg rfl rfl (dM zs hU (by omega)) (by simp[W.ak,C.ak,bz,hz]) rfl ?_;rintro _ ⟨k,rfl,hk,hT⟩)
  |exact YW rfl rfl rfl rfl (ys:=zs) rfl (by omega) rfl rfl ⟨_,rfl,Ex hs hx hn hz ht (by omega) (by simpa using hT)⟩
  |(apply bH [0,1,5,12,13,14] [] [14] [(0,1),(4,1)] (vW us n s) (n) [iV .i64 0];(conv=>whnf);exact⟨rfl,rfl,rfl,rfl⟩;exact rfl;exact rfl;exact .cons (az.ak rfl _) (.cons (az.ak (az.replicate _ [tU 0]) _) .nil);exact⟨0,_,by omega,rfl,rfl,rfl,by simp,Us.replicate _,by simp⟩;rintro _ _ _ ⟨i,zs,hi,rfl,rfl,rfl,hz,hU,ht⟩)
  |(refine aj [0,1,5,12,13,14] [] ?_;(conv=>whnf);exact⟨rfl,_,[_],_, .cons (az.ak rfl _) (.cons (az.ak (az.set (xs:=zs) rfl _ [tU _]) _) .nil),(by first|exact vW.next hn (by omega) hz hU ht (by omega) hs1 (Gm (by omega) h bO (by omega)) (Ew hx0 qL hy0 xM hs)|exact vW.next (y:=0) hn (by omega) hz hU ht (by omega) hs1 (JV (by simp;rw[bj (by omega) (by omega)]at h;omega)) (xp hs (by rw[u64_in hx0 (by omega)];omega))),rfl,rfl,by omega⟩))
 all_goals (conv=>whnf)
end Go.aS.Cd
end
section
namespace Go.aS.Cd
open Go
theorem tP {xs:Lz} (h:Us xs) {k:Nat} (hk:k < xs.length): ∃x:Int,xs[k]? =some [tU x]∧0≤x∧x < 4294967296:=by
 obtain⟨x,e,h0,h1⟩:=h _ (List.getElem_mem hk)
 exact⟨x,by rw[←e];simp[hk],h0,h1⟩
theorem qo {rows:List (List C)} {xs:Lz} {i j:Nat} {e:List T} {K:List C→Prop} (h:az rows xs) (he:xs[j]? =some e) (hij:i=j) (hk:K (e.map .t)):sK rows i K:=by
 subst hij
 have:rows[i]? =some (e.map .t):=by rw[h];simp[tr,he]
 simp only[sK,this]
 exact hk
structure Up (U V un u1 u0 v1 v0:Nat):Prop where
 first:U / V≤(un * 4294967296+u1) / v1
 step: ∀q r,q * v1+r=un * 4294967296+u1→U / V≤q→(4294967296≤q∨r * 4294967296+u0 < q * v0)→U / V < q
 fin: ∀q r,q * v1+r=un * 4294967296+u1→¬ (r < 4294967296∧(4294967296≤q∨r * 4294967296+u0 < q * v0))→q < 4294967296∧q * V < U+V
theorem three {a X B u0 u1 un:Nat}:a+X * u0+X * B * u1+X * B * B * un=a+((un * B+u1) * B+u0) * X:=by grind
theorem two {a X B u0 u1:Nat}:a+X * u0+X * B * u1=a+(u1 * B+u0) * X:=by grind
theorem HK {U V X B un u1 u0 v1 v0 a b:Nat} (hB:0 < B) (hX:0 < X) (hU:U=a+((un * B+u1) * B+u0) * X) (ha:a < X) (hV:V=b+(v1 * B+v0) * X) (hb:b < X) (AU:1≤v1) (FJ:v0 < B) (lC:u0 < B) (hlt:U < B * V):
 U / V≤(un * B+u1) / v1∧(∀q r,q * v1+r=un * B+u1→U / V≤q→(B≤q∨r * B+u0 < q * v0)→U / V < q)∧(∀q r,q * v1+r=un * B+u1→¬ (r < B∧(B≤q∨r * B+u0 < q * v0))→q < B∧q * V < U+V):=by
 generalize un * B+u1=top at *
 have YM:0 < V:=by
  have:0 < (v1 * B+v0) * X:=Nat.mul_pos (Nat.add_pos_left (Nat.mul_pos AU hB) _) hX
  omega
 have hQV:U / V * V≤U:=Nat.div_mul_le_self U V
 have hQB:U / V < B:=by
  rw[Nat.div_lt_iff_lt_mul YM];exact hlt
 have hU1:(top * B+u0) * X≤U:=by omega
 have O0:U < (top * B+u0+1) * X:=by rw[Nat.add_mul (top * B+u0) 1 X,Nat.one_mul];omega
 have Tv:(v1 * B+v0) * X≤V:=by omega
 have U2:V < (v1 * B+v0+1) * X:=by rw[Nat.add_mul (v1 * B+v0) 1 X,Nat.one_mul];omega
 have SK:top < v1 * B+B:=by
  have h1:(top * B+u0) * X < B * ((v1 * B+v0+1) * X):=Nat.lt_of_le_of_lt hU1 (Nat.lt_trans hlt (Nat.mul_lt_mul_of_pos_left U2 hB))
  rw[←Nat.mul_assoc]at h1
  have h2:=Nat.lt_of_mul_lt_mul_right h1
  have h3:B * (v1 * B+v0+1)≤B * (v1 * B+B):=Nat.mul_le_mul_left B (by omega)
  have h4:top * B < (v1 * B+B) * B:=by rw[Nat.mul_comm (v1 * B+B) B];omega
  exact Nat.lt_of_mul_lt_mul_right h4
 refine⟨?_,?_,?_⟩
 · refine Fl (X:=B * X) ?_ ?_ rfl AU hQV
   · refine Nat.lt_of_lt_of_le O0 ?_
     rw[←Nat.mul_assoc]
     refine Nat.mul_le_mul_right X ?_
     rw[Nat.add_mul,Nat.one_mul];omega
   · refine Nat.le_trans ?_ Tv
     rw[←Nat.mul_assoc]
     exact Nat.mul_le_mul_right X (by omega)
 · intro q r h1 h2 h3
   exact HJ O0 Tv h1 hQV hQB h2 h3
 · intro q r h1 h2
   exact J6 hX hB hU1 Tv U2 FJ AU SK h1 h2
theorem NO {us vs:Lz} {i n:Nat} {un u1 u0 v1 v0:Int} (hn:2≤n) (hU:Us us) (hV:Us vs) (h1:us[i+n]? =some [tU un]) (h2:us[i+(n - 1)]? =some [tU u1]) (h3:us[i+(n - 2)]? =some [tU u0]) (h4:vs[n - 1]? =some [tU v1]) (h5:vs[n - 2]? =some [tU v0])
 (AU:0 < v1) (hlt:dz us i (n+1) < 4294967296 * dz vs 0 n):Up (dz us i (n+1)) (dz vs 0 n) un.toNat u1.toNat u0.toNat v1.toNat v0.toNat:=by
 obtain⟨k,rfl⟩: ∃k,n=k+2:=⟨n - 2,by omega⟩
 simp only[Nat.add_sub_cancel,show k+2 - 1=k+1 by omega]at h2 h3 h4 h5
 have b0:=(hU _ (List.mem_of_getElem? h3)).lt
 have c0:=(hV _ (List.mem_of_getElem? h5)).lt
 rw[jR]at b0 c0
 have e1:dz us i (k+2+1)=dz us i k+4294967296 ^ k * u0.toNat+4294967296 ^ k * 4294967296 * u1.toNat+4294967296 ^ k * 4294967296 * 4294967296 * un.toNat:=by
  rw[dI h1,dI h2,dI h3,show 4294967296 ^ (k+2)=4294967296 ^ k * 4294967296 * 4294967296 by rw[Nat.pow_succ,Nat.pow_succ],Nat.pow_succ]
 have h5':vs[0+k]? =some [tU v0]:=by rw[Nat.zero_add];exact h5
 have NA:vs[0+(k+1)]? =some [tU v1]:=by rw[Nat.zero_add];exact h4
 have e2:dz vs 0 (k+2)=dz vs 0 k+4294967296 ^ k * v0.toNat+4294967296 ^ k * 4294967296 * v1.toNat:=by
  rw[dI NA,dI h5',Nat.pow_succ]
 rw[three]at e1
 rw[two]at e2
 obtain⟨a,b,c⟩:=HK (B:=4294967296) (X:=4294967296 ^ k) (by omega) (L4 k) e1 (qD hU i k) e2 (qD hV 0 k) (by omega) c0 b0 hlt
 exact⟨a,b,c⟩
theorem uH {q y:Int} (AW:0≤q) (hq:q < 4294967296) (hy0:0≤y) (hy:y < 4294967296):0≤q * y∧q * y≤18446744065119617025:=by
 refine⟨Int.mul_nonneg AW hy0,?_⟩
 have h1:q * y≤4294967295 * y:=Int.mul_le_mul_of_nonneg_right (by omega) hy0
 omega
theorem Ak {u lo b d:Int} (lC:0≤u) (hu:u < 4294967296) (JP:0≤lo) (hl:lo < 4294967296) (hb0:0≤b) (hb:b≤1) (hd:d=IntKind.u64.wrap (IntKind.u64.wrap (u - lo) - b)):
 ∃b':Int,d.fdiv (2 ^ (min (63:Int).toNat IntKind.u64.bits))=b'∧0≤b'∧b'≤1∧u+b' * 4294967296=IntKind.u32.wrap d+lo+b∧(b'=0↔lo+b≤u):=by
 rw[RD,kX,hd,qu,qu]
 refine⟨_,rfl,?_⟩
 omega
structure mg (us vs fh:Lz) (i k q:Nat) (c b:Int):Prop where
 len:fh.length=us.length
 ok:Us fh
 b0:0≤b
 b1:b≤1
 c0:0≤c
 c1:c < 4294967296
 eq:dz us i k+(b.toNat+c.toNat) * 4294967296 ^ k=dz fh i k+q * dz vs 0 k
 rest: ∀j,i+k≤j→fh[j]? =us[j]?
theorem mg.zero {us vs:Lz} {i q:Nat} (hU:Us us):mg us vs us i 0 q 0 0:=
 ⟨rfl,hU,by omega,by omega,by omega,by omega,by simp[Aq],fun _ _=>rfl⟩
theorem mg.next {us vs fh:Lz} {i k q:Nat} {c b y u c1 d b' c':Int} (h:mg us vs fh i k q c b) (hq:q < 4294967296) (hy:vs[k]? =some [tU y]) (hy0:0≤y) (xM:y < 4294967296) (hu:fh[i+k]? =some [tU u]) (lC:0≤u) (rS:u < 4294967296)
 (mQ:c1=c+(q:Int) * y) (hd:d=IntKind.u64.wrap (IntKind.u64.wrap (u - IntKind.u32.wrap c1) - b)) (hb':b'=d.fdiv (2 ^ (min (63:Int).toNat IntKind.u64.bits))) (Cy:c'=c1 / 4294967296):
 mg us vs (fh.set (i+k) [tU (IntKind.u32.wrap d)]) i (k+1) q c' b':=by
 obtain⟨m0,m1⟩:=uH (q:=(q:Int)) (y:=y) (by omega) (by omega) hy0 xM
 obtain⟨b2,e1,e2,e3,e4,_⟩:=Ak (u:=u) (lo:=IntKind.u32.wrap c1) (b:=b) lC rS (ee _) (eX _) h.b0 h.b1 hd
 rw[e1]at hb'
 subst hb'
 have hlt:=(List.getElem?_eq_some_iff.1 hu).1
 have hlo:IntKind.u32.wrap c1=c1 % 4294967296:=kX _
 have YF:=h.c0
 have YE:=h.c1
 have amK:=h.b0
 refine⟨by simp[h.len],h.ok.set (ee _) (eX _),e2,e3,by omega,?_,?_,fun j hj=>?_⟩
 · omega
 · have g1:dz us i (k+1)=dz us i k+4294967296 ^ k * u.toNat:=dI (by rw[←h.rest (i+k) (Nat.le_refl _)];exact hu)
   have hs:(fh.set (i+k) [tU (IntKind.u32.wrap d)])[i+k]? =some [tU (IntKind.u32.wrap d)]:=by simp[hlt]
   have g2:=dI hs
   rw[pB (.inr (Nat.le_refl _))]at g2
   have hy':vs[0+k]? =some [tU y]:=by rw[Nat.zero_add];exact hy
   have g3:=dI hy'
   rw[g1,g2,g3,Nat.pow_succ,Nat.mul_comm (4294967296 ^ k) 4294967296]
   refine F6 (carry:=c.toNat) (borrow:=b.toNat) (lo:=(c1 % 4294967296).toNat) h.eq ?_ ?_
   · have hm:q * y.toNat=((q:Int) * y).toNat:=by
      rw[show(q:Int) * y=((q * y.toNat:Nat):Int) by rw[Int.natCast_mul];congr 1;omega]
      rfl
     rw[hm,Cy]
     omega
   · have:=ee d
     omega
 · rw[List.getElem?_set_ne (by omega)]
   exact h.rest j (by omega)
structure rA (us vs fh:Lz) (i k:Nat) (c:Int):Prop where
 len:fh.length=us.length
 ok:Us fh
 c0:0≤c
 c1:c≤1
 eq:dz us i k+dz vs 0 k=dz fh i k+c.toNat * 4294967296 ^ k
 rest: ∀j,i+k≤j→fh[j]? =us[j]?
theorem rA.zero {us vs:Lz} {i:Nat} (hU:Us us):rA us vs us i 0 0:=
 ⟨rfl,hU,by omega,by omega,by simp[Aq],fun _ _=>rfl⟩
theorem rA.next {us vs fh:Lz} {i k:Nat} {c y u c1 c':Int} (h:rA us vs fh i k c) (hy:vs[k]? =some [tU y]) (hy0:0≤y) (xM:y < 4294967296) (hu:fh[i+k]? =some [tU u]) (lC:0≤u) (rS:u < 4294967296)
 (mQ:c1=c+(u+y)) (Cy:c'=c1 / 4294967296):rA us vs (fh.set (i+k) [tU (IntKind.u32.wrap c1)]) i (k+1) c':=by
 have hlt:=(List.getElem?_eq_some_iff.1 hu).1
 have YF:=h.c0
 have YE:=h.c1
 refine⟨by simp[h.len],h.ok.set (ee _) (eX _),by omega,by omega,?_,fun j hj=>?_⟩
 · have g1:dz us i (k+1)=dz us i k+4294967296 ^ k * u.toNat:=dI (by rw[←h.rest (i+k) (Nat.le_refl _)];exact hu)
   have hs:(fh.set (i+k) [tU (IntKind.u32.wrap c1)])[i+k]? =some [tU (IntKind.u32.wrap c1)]:=by simp[hlt]
   have g2:=dI hs
   rw[pB (.inr (Nat.le_refl _))]at g2
   have hy':vs[0+k]? =some [tU y]:=by rw[Nat.zero_add];exact hy
   have g3:=dI hy'
   rw[g1,g2,g3,Nat.pow_succ,Nat.mul_comm (4294967296 ^ k) 4294967296]
   refine Ig (carry:=c.toNat) h.eq ?_
   rw[kX,Cy]
   omega
 · rw[List.getElem?_set_ne (by omega)]
   exact h.rest j (by omega)
theorem F7 {us vs fh:Lz} {i n q:Nat} {c b un:Int} {e:List T} (h:mg us vs fh i n q c b) (hun:us[i+n]? =some [tU un]) (hV:0 < dz vs 0 n) (hQ:dz us i (n+1) / dz vs 0 n≤q) (hge:c+b≤un):dz (fh.set (i+n) e) i n < dz vs 0 n:=by
 rw[pB (.inr (Nat.le_refl _))]
 have hb0:=h.b0
 have hc0:=h.c0
 refine Jb (U:=dz us i (n+1)) (un:=un.toNat) (carry:=c.toNat) (borrow:=b.toNat) (Bn:=4294967296 ^ n) (dI hun) h.eq ?_ hQ (by omega)
 rw[Nat.mul_comm,Nat.mul_add,Nat.mul_one]
 exact Nat.lt_mul_div_succ _ hV
theorem Ih {us vs fh yn:Lz} {i n q:Nat} {c b un c2:Int} {e e':List T} (hV:Us vs) (h:mg us vs fh i n q c b) (hun:us[i+n]? =some [tU un]) (hq:q * dz vs 0 n < dz us i (n+1)+dz vs 0 n) (hlt:un < c+b) (h3:rA (fh.set (i+n) e) vs yn i n c2) (akZ:0≤un):dz (yn.set (i+n) e') i n < dz vs 0 n:=by
 rw[pB (.inr (Nat.le_refl _))]
 have hb0:=h.b0
 have hc0:=h.c0
 have e3:=h3.eq
 rw[pB (.inr (Nat.le_refl _))]at e3
 exact F8 (U:=dz us i (n+1)) (un:=un.toNat) (carry:=c.toNat) (borrow:=b.toNat) (Bn:=4294967296 ^ n) (dI hun) h.eq (qD hV 0 n) hq (by omega) e3 (qD h.ok i n) (qD h3.ok i n)
theorem DW {q r v0 u0:Int} (AW:0≤q) (hq:q < 4294967296) (uU:0≤r) (hr:r < 4294967296) (FJ:0≤v0) (hv:v0 < 4294967296) (lC:0≤u0) (hu:u0 < 4294967296):
 (IntKind.u64.wrap (q * IntKind.u64.wrap v0) > IntKind.u64.wrap ((BitVec.ofInt IntKind.u64.bits (IntKind.u64.wrap (r * 2 ^ (min (32:Int).toNat IntKind.u64.bits)))|||BitVec.ofInt IntKind.u64.bits (IntKind.u64.wrap u0)).toNat:Int))↔r.toNat * 4294967296+u0.toNat < q.toNat * v0.toNat:=by
 obtain⟨m0,m1⟩:=uH AW hq FJ hv
 rw[u64_in FJ (by omega),u64_in m0 (by omega),u64_in lC (by omega),Ge,Int.emod_eq_of_lt (by omega) (by omega),MH lC hu uU hr]
 have hm:q.toNat * v0.toNat=(q * v0).toNat:=by
  rw[show q * v0=((q.toNat * v0.toNat:Nat):Int) by rw[Int.natCast_mul];congr 1<;>omega]
  rfl
 rw[hm]
 omega
theorem Mj {un u1:Int} (h0:0≤un) (h1:un < 4294967296) (k0:0≤u1) (k1:u1 < 4294967296):
 IntKind.u64.wrap ((BitVec.ofInt IntKind.u64.bits (IntKind.u64.wrap (IntKind.u64.wrap un * 2 ^ (min (32:Int).toNat IntKind.u64.bits)))|||BitVec.ofInt IntKind.u64.bits (IntKind.u64.wrap u1)).toNat:Int)=((un.toNat * 4294967296+u1.toNat:Nat):Int):=by
 rw[u64_in h0 (by omega),u64_in k0 (by omega),Ge,Int.emod_eq_of_lt (by omega) (by omega),MH k0 k1 h0 h1]
 omega
end Go.aS.Cd
end
section
namespace Go.aS.Cd
open Go Go.Proofs
set_option maxRecDepth 100000
set_option maxHeartbeats 4000000
theorem MY {hp:HS} {sz cV:Nat} {xs ys xs' ys':Lz} (h:find hp 0=some (.row sz (tr xs'))) (h1:find hp 1=some (.row cV (tr ys'))):kp [(0, .row sz (tr xs)),(1, .row cV (tr ys))] hp [(0, .row sz (tr xs')),(1, .row cV (tr ys'))]:=by
 have hrow: ∀ (z:Nat) (zs:Lz),Ij [(0, .row sz (tr xs)),(1, .row cV (tr ys))] (.row z (tr zs)):=by
  intro z zs e he c hc
  simp only[tr,List.mem_map]at he
  obtain⟨e',_,rfl⟩:=he
  simp only[List.mem_map]at hc
  obtain⟨c',_,rfl⟩:=hc
  rfl
 refine⟨fun k b hk=>?_,fun k blk hk=>?_⟩
 · simp only[find]at hk
   split at hk
   · rename_i e;subst e;exact⟨by omega,_,h⟩
   · split at hk
     · rename_i e;subst e;exact⟨by omega,_,h1⟩
     · simp at hk
 · simp only[find]at hk
   split at hk
   · rename_i e
     subst e
     simp only[Option.some.injEq]at hk
     subst hk
     exact⟨h,rfl,hrow _ _⟩
   · split at hk
     · rename_i e
       subst e
       simp only[Option.some.injEq]at hk
       subst hk
       exact⟨h1,rfl,hrow _ _⟩
     · simp at hk
theorem gDg {hp:HS} {tm:TS} {rs:List ResultVar} {t sz cV:Nat} {x:T} {rows K6:List (List C)} {us vs xs ys:Lz} {G:List W→HS→Prop} (hr:rs=[.tmp t]) (h:find tm t=some (.w (.one (.t x)))) (hf:find hp 0=some (.row sz rows)) (Yu:find hp 1=some (.row cV K6)) (hR:az rows xs) (hR1:az K6 ys) (hg:G [.one (.t x)] [(0, .row sz (tr xs)),(1, .row cV (tr ys))]):
 ∃qs ts hout,aM Tryz.prog hp tm rs=some qs∧bu (yJ [(0, .row sz (tr us)),(1, .row cV (tr vs))] hp) qs=some ts∧kp [(0, .row sz (tr us)),(1, .row cV (tr vs))] hp hout∧G ts hout:=by
 subst hr
 refine⟨[.one (.t x)],[.one (.t x)],_,by simp only[aM,cg,h],?_,MY (by rw[hf,hR]) (by rw[Yu,hR1]),hg⟩
 simp only[bu,yJ,SC,G1,if_true]
def OA (us vs:Lz) (i n:Nat) (ts:List W) (hout:HS):Prop:= ∃fh d,ts=[.one (.t (tU d))]∧hout=[(0, .row 1 (tr fh)),(1, .row 1 (tr vs))]∧fh.length=us.length∧Us fh∧dz fh i n < dz vs 0 n∧0≤d∧d < 4294967296
def Fq (U V q:Nat):Prop:=q < 4294967296∧q * V < U+V∧U / V≤q
theorem q64 (X v:Nat) (h:X < 18446744073709551616):IntKind.u64.wrap ((X / v:Nat):Int)=((X / v:Nat):Int):=by
 have h1:=Nat.div_le_self X v
 generalize X / v=y at h1
 exact u64_in (by omega) (by omega)
def R1 (U W un u1 v1:Nat) (us vs:Lz) (m:Nat) (ws:List V) (xss:List (Lz)):Prop:=
 ∃q r:Int,0≤q∧0≤r∧m=4294967296 - r.toNat∧ws=[iV .u64 q,iV .u64 r]∧xss=[us,vs]∧q.toNat * v1+r.toNat=un * 4294967296+u1∧U / W≤q.toNat∧q < 18446744073709551616∧r < 8589934592
theorem R1.zero {U V:Nat} {un u1 u0 v1 v0:Int} {us vs:Lz} (he:Up U V un.toNat u1.toNat u0.toNat v1.toNat v0.toNat) (h0:0≤un) (h1:un < 4294967296) (k0:0≤u1) (k1:u1 < 4294967296) (hv:0 < v1) (AU:v1 < 4294967296) {top:Int}
 (ht:top=IntKind.u64.wrap ((BitVec.ofInt IntKind.u64.bits (IntKind.u64.wrap (IntKind.u64.wrap un * 2 ^ (min (32:Int).toNat IntKind.u64.bits)))|||BitVec.ofInt IntKind.u64.bits (IntKind.u64.wrap u1)).toNat:Int)):
 R1 U V un.toNat u1.toNat v1.toNat us vs (4294967296 - (un.toNat * 4294967296+u1.toNat) % v1.toNat) [iV .u64 (IntKind.u64.wrap (top.tdiv (IntKind.u64.wrap v1))),iV .u64 (top.tmod (IntKind.u64.wrap v1))] [us,vs]:=by
 have e:=Mj h0 h1 k0 k1
 have ev:IntKind.u64.wrap v1=((v1.toNat:Nat):Int):=by rw[u64_in (by omega) (by omega)];omega
 have hlt:=Nat.mod_lt (un.toNat * 4294967296+u1.toNat) (show 0 < v1.toNat by omega)
 have hle:=Nat.div_le_self (un.toNat * 4294967296+u1.toNat) v1.toNat
 have UZ:=Nat.div_add_mod (un.toNat * 4294967296+u1.toNat) v1.toNat
 have uY:=he.first
 have hXb:un.toNat * 4294967296+u1.toNat < 18446744073709551616:=by omega
 have hq:=q64 (un.toNat * 4294967296+u1.toNat) v1.toNat hXb
 rw[e]at ht
 clear he e
 have e2:((un.toNat * 4294967296+u1.toNat:Nat):Int).tdiv ((v1.toNat:Nat):Int)=(((un.toNat * 4294967296+u1.toNat) / v1.toNat:Nat):Int):=by
  rw[Int.tdiv_eq_ediv_of_nonneg (Int.natCast_nonneg _)];rfl
 have e3:((un.toNat * 4294967296+u1.toNat:Nat):Int).tmod ((v1.toNat:Nat):Int)=(((un.toNat * 4294967296+u1.toNat) % v1.toNat:Nat):Int):=by
  rw[Int.tmod_eq_emod_of_nonneg (Int.natCast_nonneg _)];rfl
 rw[ht,ev,e2,e3,hq]
 clear e2 e3 hq ht ev
 refine⟨(((un.toNat * 4294967296+u1.toNat) / v1.toNat:Nat):Int),(((un.toNat * 4294967296+u1.toNat) % v1.toNat:Nat):Int),Int.natCast_nonneg _,Int.natCast_nonneg _,by rw[Int.toNat_natCast],rfl,rfl,?_,by rw[Int.toNat_natCast];exact uY,?_,?_⟩
 · rw[Int.toNat_natCast,Int.toNat_natCast,Nat.mul_comm]
   exact UZ
 · clear uY UZ hlt
   generalize (un.toNat * 4294967296+u1.toNat) / v1.toNat=y at *
   omega
 · clear uY UZ hle
   generalize (un.toNat * 4294967296+u1.toNat) % v1.toNat=y at *
   omega
theorem R1.next {U V un u1:Nat} {q r u0 v1 v0:Int} {us vs:Lz} (he:Up U V un u1 u0.toNat v1.toNat v0.toNat) (AW:0≤q) (uU:0≤r) (hv:0 < v1) (AU:v1 < 4294967296) (hm:q.toNat * v1.toNat+r.toNat=un * 4294967296+u1) (hQ:U / V≤q.toNat) (hq:q < 18446744073709551616) (hr:r < 4294967296)
 (hc:4294967296≤q.toNat∨r.toNat * 4294967296+u0.toNat < q.toNat * v0.toNat):
 R1 U V un u1 v1.toNat us vs (4294967296 - (r+v1).toNat) [iV .u64 (IntKind.u64.wrap (q - 1)),iV .u64 (IntKind.u64.wrap (r+IntKind.u64.wrap v1))] [us,vs]:=by
 have h1:=he.step q.toNat r.toNat hm hQ hc
 clear he hc
 generalize hQQ:U / V=Q0 at h1 hQ
 refine⟨q - 1,r+v1,by omega,by omega,rfl,?_,rfl,?_,by rw[hQQ];omega,by omega,by omega⟩
 · rw[u64_in (n:=v1) (by omega) (by omega),u64_in (by omega) (by omega),u64_in (by omega) (by omega)]
 · obtain⟨q',DJ⟩: ∃q',q.toNat=q'+1:=⟨q.toNat - 1,by omega⟩
   rw[DJ,Nat.add_mul,Nat.one_mul]at hm
   rw[show(q - 1).toNat=q' by omega,show(r+v1).toNat=r.toNat+v1.toNat by omega]
   omega
def R2 (us vs:Lz) (i n:Nat) (q:Int) (m:Nat) (ws:List V) (xss:List (Lz)):Prop:=
 ∃ (k:Nat) (c b:Int) (mq:Lz),k≤n∧m=n - k∧ws=[iV .u64 c,iV .u64 b,iV .i64 (k:Int)]∧xss=[mq,vs]∧mg us vs mq i k q.toNat c b∧Fq (dz us i (n+1)) (dz vs 0 n) q.toNat
theorem R2.next {us vs mq:Lz} {i n k:Nat} {q c b y u C1 D:Int} (AW:0≤q) (h:mg us vs mq i k q.toNat c b) (hF:Fq (dz us i (n+1)) (dz vs 0 n) q.toNat) (hk:(k:Int) < (n:Int)) (hn:n≤1000000) (hy:vs[0+((k:Int)).toNat]? =some [tU y]) (hy0:0≤y) (xM:y < 4294967296) (hu:mq[i+((k:Int)).toNat]? =some [tU u]) (lC:0≤u) (rS:u < 4294967296)
 (hC:C1=IntKind.u64.wrap (c+IntKind.u64.wrap (q * IntKind.u64.wrap y))) (hD:D=IntKind.u64.wrap (IntKind.u64.wrap (IntKind.u64.wrap u - IntKind.u64.wrap (IntKind.u32.wrap C1)) - b)):
 R2 us vs i n q (n - (k+1)) [iV .u64 (C1.fdiv (2 ^ (min (32:Int).toNat IntKind.u64.bits))),iV .u64 (D.fdiv (2 ^ (min (63:Int).toNat IntKind.u64.bits))),iV .i64 (IntKind.i64.wrap ((k:Int)+1))] [mq.set (i+((k:Int)).toNat) [tU (IntKind.u32.wrap D)],vs]:=by
 have e0:((k:Int)).toNat=k:=by omega
 rw[e0]at hy hu⊢
 rw[Nat.zero_add]at hy
 obtain⟨m0,m1⟩:=uH (q:=q) (y:=y) AW (by have:=hF.1;omega) hy0 xM
 have hc0:=h.c0
 have mQ:=h.c1
 have eC:C1=c+(q.toNat:Int) * y:=by rw[hC,u64_in hy0 (by omega),u64_in m0 (by omega),u64_in (by omega) (by omega),Int.toNat_of_nonneg AW]
 rw[u64_in lC (by omega),u64_in (ee _) (by have:=eX C1;omega)]at hD
 refine⟨k+1,_,_,_,by omega,rfl,by rw[bj (by omega) (by omega)];rfl,rfl,h.next hF.1 hy hy0 xM hu lC rS eC hD rfl (Ds _),hF⟩
theorem mg.to {us vs fh:Lz} {i k n q:Nat} {c b:Int} (h:mg us vs fh i k q c b) (e:k=n):mg us vs fh i n q c b:=e▸h
theorem rA.to {us vs fh:Lz} {i k n:Nat} {c:Int} (h:rA us vs fh i k c) (e:k=n):rA us vs fh i n c:=e▸h
theorem AJ {un c b D:Int} (h0:0≤un) (h1:un < 4294967296) (hc0:0≤c) (mQ:c < 4294967296) (hb0:0≤b) (oT:b≤1) (hD:D=IntKind.u64.wrap (IntKind.u64.wrap (IntKind.u64.wrap un - c) - b)):D.fdiv (2 ^ (min (63:Int).toNat IntKind.u64.bits))=0↔c+b≤un:=by
 rw[u64_in h0 (by omega)]at hD
 obtain⟨b',e,_,_,_,h⟩:=Ak h0 h1 hc0 mQ hb0 oT hD
 rw[e];exact h
def R3 (us vs:Lz) (i n q:Nat) (un:Int) (m:Nat) (ws:List V) (xss:List (Lz)):Prop:=
 ∃ (k:Nat) (c3:Int) (yn mq:Lz) (e:List T) (c b:Int),k≤n∧m=n - k∧ws=[iV .u64 c3,iV .i64 (k:Int)]∧xss=[yn,vs]∧mg us vs mq i n q c b∧un < c+b∧rA (mq.set (i+n) e) vs yn i k c3∧Fq (dz us i (n+1)) (dz vs 0 n) q
theorem R3.zero {us vs mq:Lz} {i k n q:Nat} {un c b D:Int} (h:mg us vs mq i k q c b) (hF:Fq (dz us i (n+1)) (dz vs 0 n) q) (e:k=n) (h0:0≤un) (h1:un < 4294967296) (hD:D=IntKind.u64.wrap (IntKind.u64.wrap (IntKind.u64.wrap un - c) - b)) (hne:D.fdiv (2 ^ (min (63:Int).toNat IntKind.u64.bits))≠0):
 R3 us vs i n q un n [iV .u64 0,iV .i64 0] [mq.set (i+((n:Int)).toNat) [tU (IntKind.u32.wrap D)],vs]:=by
 have e0:((n:Int)).toNat=n:=by omega
 rw[e0]
 refine⟨0,0,_,mq,_,c,b,by omega,rfl,rfl,rfl,h.to e,?_,rA.zero (h.ok.set (ee _) (eX _)),hF⟩
 have:=AJ h0 h1 h.c0 h.c1 h.b0 h.b1 hD
 omega
theorem R3.next {us vs mq yn:Lz} {i n k q:Nat} {un c3 c b y u C1:Int} {e:List T} (hS:mg us vs mq i n q c b) (hlt:un < c+b) (h:rA (mq.set (i+n) e) vs yn i k c3) (hF:Fq (dz us i (n+1)) (dz vs 0 n) q) (hk:(k:Int) < (n:Int)) (hn:n≤1000000) (hy:vs[0+((k:Int)).toNat]? =some [tU y]) (hy0:0≤y) (xM:y < 4294967296) (hu:yn[i+((k:Int)).toNat]? =some [tU u]) (lC:0≤u) (rS:u < 4294967296)
 (hC:C1=IntKind.u64.wrap (c3+IntKind.u64.wrap (IntKind.u64.wrap u+IntKind.u64.wrap y))):
 R3 us vs i n q un (n - (k+1)) [iV .u64 (C1.fdiv (2 ^ (min (32:Int).toNat IntKind.u64.bits))),iV .i64 (IntKind.i64.wrap ((k:Int)+1))] [yn.set (i+((k:Int)).toNat) [tU (IntKind.u32.wrap C1)],vs]:=by
 have e0:((k:Int)).toNat=k:=by omega
 rw[e0]at hy hu⊢
 rw[Nat.zero_add]at hy
 have hc0:=h.c0
 have mQ:=h.c1
 have eC:C1=c3+(u+y):=by rw[hC,u64_in hy0 (by omega),u64_in lC (by omega),u64_in (n:=u+y) (by omega) (by omega),u64_in (by omega) (by omega)]
 exact⟨k+1,_,_,mq,e,c,b,by omega,rfl,by rw[bj (by omega) (by omega)];rfl,rfl,hS,hlt,h.next hy hy0 xM hu lC rS eC (Ds _),hF⟩
theorem Kb {us vs mq:Lz} {i k n q:Nat} {un c b D d:Int} (h:mg us vs mq i k q c b) (hF:Fq (dz us i (n+1)) (dz vs 0 n) q) (e:k=n) (hun:us[i+n]? =some [tU un]) (h0:0≤un) (h1:un < 4294967296) (hV:0 < dz vs 0 n) (hD:D=IntKind.u64.wrap (IntKind.u64.wrap (IntKind.u64.wrap un - c) - b)) (heq:D.fdiv (2 ^ (min (63:Int).toNat IntKind.u64.bits))=0) (BT:0≤d) (Np:d < 4294967296):
 OA us vs i n [.one (.t (tU d))] [(0, .row 1 (tr (mq.set (i+((n:Int)).toNat) [tU (IntKind.u32.wrap D)]))),(1, .row 1 (tr vs))]:=by
 have e0:((n:Int)).toNat=n:=by omega
 rw[e0]
 exact⟨_,d,rfl,rfl,by simp[h.len],h.ok.set (ee _) (eX _),F7 (h.to e) hun hV hF.2.2 ((AJ h0 h1 h.c0 h.c1 h.b0 h.b1 hD).1 heq),BT,Np⟩
theorem Ka {us vs mq yn:Lz} {i k n q:Nat} {un c b c3 x d:Int} {e:List T} (hVs:Us vs) (h:mg us vs mq i n q c b) (hlt:un < c+b) (hA:rA (mq.set (i+n) e) vs yn i k c3) (hF:Fq (dz us i (n+1)) (dz vs 0 n) q) (ek:k=n) (hun:us[i+n]? =some [tU un]) (h0:0≤un) (hx0:0≤x) (qL:x < 4294967296) (BT:0≤d) (Np:d < 4294967296):
 OA us vs i n [.one (.t (tU d))] [(0, .row 1 (tr (yn.set (i+((n:Int)).toNat) [tU x]))),(1, .row 1 (tr vs))]:=by
 have e0:((n:Int)).toNat=n:=by omega
 rw[e0]
 exact⟨_,d,rfl,rfl,by simp[hA.len,h.len],hA.ok.set hx0 qL,Ih hVs h hun hF.2.1 hlt (hA.to ek) h0,BT,Np⟩
theorem LF {U V un u1 q r:Nat} {u0 v1 v0:Nat} (he:Up U V un u1 u0 v1 v0) (hm:q * v1+r=un * 4294967296+u1) (hQ:U / V≤q) (hc:¬ (r < 4294967296∧(4294967296≤q∨r * 4294967296+u0 < q * v0))):Fq U V q:=by
 obtain⟨a,b⟩:=he.fin q r hm hc
 exact⟨a,b,hQ⟩
theorem fq2 {U V un u1:Nat} {q r u0 v1 v0:Int} (he:Up U V un u1 u0.toNat v1.toNat v0.toNat) (AW:0≤q) (uU:0≤r) (hm:q.toNat * v1.toNat+r.toNat=un * 4294967296+u1) (hQ:U / V≤q.toNat) (FJ:0≤v0) (hv:v0 < 4294967296) (lC:0≤u0) (hu:u0 < 4294967296) (hr:r < 4294967296) (hq:¬q≥4294967296)
 (h:¬ (IntKind.u64.wrap (q * IntKind.u64.wrap v0) > IntKind.u64.wrap ((BitVec.ofInt IntKind.u64.bits (IntKind.u64.wrap (r * 2 ^ (min (32:Int).toNat IntKind.u64.bits)))|||BitVec.ofInt IntKind.u64.bits (IntKind.u64.wrap u0)).toNat:Int))):Fq U V q.toNat:=by
 refine LF he hm hQ ?_
 rintro⟨_,h1|h1⟩
 · omega
 · exact h ((DW AW (by omega) uU hr FJ hv lC hu).2 h1)
theorem TN {q r u0 v0:Int} (AW:0≤q) (uU:0≤r) (FJ:0≤v0) (hv:v0 < 4294967296) (lC:0≤u0) (hu:u0 < 4294967296) (hr:r < 4294967296) (hq:¬q≥4294967296)
 (h:(IntKind.u64.wrap (q * IntKind.u64.wrap v0) > IntKind.u64.wrap ((BitVec.ofInt IntKind.u64.bits (IntKind.u64.wrap (r * 2 ^ (min (32:Int).toNat IntKind.u64.bits)))|||BitVec.ofInt IntKind.u64.bits (IntKind.u64.wrap u0)).toNat:Int))):4294967296≤q.toNat∨r.toNat * 4294967296+u0.toNat < q.toNat * v0.toNat:=
 .inr ((DW AW (by omega) uU hr FJ hv lC hu).1 h)
theorem wE (us vs:Lz) (i n:Nat) (hU:Us us) (hV:Us vs) (hn:2≤n) (hvl:n≤vs.length) (IE:i+n+1≤us.length) (hL:us.length≤1000000) (hM:vs.length≤1000000) (hlt:dz us i (n+1) < 4294967296 * dz vs 0 n) (v1:Int) (AU:vs[n - 1]? =some [tU v1]) (XA:0 < v1): ∃ts hout,Fn Tryz.prog 252 [.one (.own 0 1 i (n+1)), .one (.own 1 1 0 n)] [(0, .row 1 (tr us)),(1, .row 1 (tr vs))] (aQ ts) hout∧OA us vs i n ts hout:=by
 obtain⟨un,hun,UE,WA⟩:=tP hU (k:=i+n) (by omega)
 obtain⟨u1,rS,I6,u11⟩:=tP hU (k:=i+(n - 1)) (by omega)
 obtain⟨u0,lC,u00,u01⟩:=tP hU (k:=i+(n - 2)) (by omega)
 obtain⟨v0,FJ,v00,v01⟩:=tP hV (k:=n - 2) (by omega)
 obtain⟨v1',SJ,v10,v11⟩:=tP hV (k:=n - 1) (by omega)
 obtain rfl:v1'=v1:=by rw[AU]at SJ;simpa using SJ.symm
 have U9:=NO hn hU hV hun rS lC AU FJ XA hlt
 have YM:0 < dz vs 0 n:=by(apply Nat.pos_of_ne_zero;intro e;rw[e]at hlt;omega)
 refine gH Tryz.func252 ?_
 repeat' (conv=>whnf
          first
  |(refine aA (fun h=>?_) (fun h=>?_))
  |(refine And.intro ⟨(by first|omega|(simp (disch:=omega) only[aa];omega)),(by first|omega|(simp (disch:=omega) only[aa];omega))⟩ ?_)
  |(refine And.intro (show IntKind.u64.wrap v1'≠0 by rw[u64_in (by omega) (by omega)];omega) ?_)
  |(refine And.intro (show(0:Int)≤32 by omega) ?_)
  |(refine And.intro (show(0:Int)≤63 by omega) ?_)
  |(refine And.intro (by kernel_rfl) ?_)
  |(refine qo (xs:=us) rfl hun (by first|omega|(simp (disch:=omega) only[aa];omega)) ?_)
  |(refine qo (xs:=us) rfl rS (by first|omega|(simp (disch:=omega) only[aa];omega)) ?_)
  |(refine qo (xs:=us) rfl lC (by first|omega|(simp (disch:=omega) only[aa];omega)) ?_)
  |(refine qo (xs:=vs) rfl AU (by first|omega|(simp (disch:=omega) only[aa];omega)) ?_)
  |(refine qo (xs:=vs) rfl FJ (by first|omega|(simp (disch:=omega) only[aa];omega)) ?_)
  |(refine cv (xs:=vs) (i:=0+((k:Int)).toNat) rfl hV (by omega) ?_;rintro _ ⟨y,rfl,hy0,xM⟩ XL)
  |(refine cv (xs:=vs) (i:=0+((k3:Int)).toNat) rfl hV (by omega) ?_;rintro _ ⟨y,rfl,hy0,xM⟩ XL)
  |(refine cv (xs:=mq) (i:=i+((k:Int)).toNat) rfl hS.ok (by have:=hS.len;omega) ?_;rintro _ ⟨u,rfl,lC,rS⟩ hsu)
  |(refine qo (xs:=mq) rfl ((hS.rest (i+n) (by omega)).trans hun) (by first|omega|(simp (disch:=omega) only[aa];omega)) ?_)
  |(refine cv (xs:=yn) (i:=i+((k3:Int)).toNat) rfl hA.ok (by have:=hA.len;have:=U3.len;simp only[List.length_set]at *;omega) ?_;rintro _ ⟨u,rfl,lC,rS⟩ hsu)
  |(refine cv (xs:=yn) (i:=i+((n:Int)).toNat) rfl hA.ok (by have:=hA.len;have:=U3.len;simp only[List.length_set]at *;omega) ?_;rintro _ ⟨u,rfl,lC,rS⟩ hsu)
  |exact gDg rfl rfl rfl rfl (xs:=mq.set (i+((n:Int)).toNat) [tU _]) (az.set rfl _ [tU _]) rfl (Kb hS hF (by omega) hun UE WA YM rfl h (ee _) (eX _))
  |exact gDg rfl rfl rfl rfl (xs:=yn.set (i+((n:Int)).toNat) [tU _]) (az.set rfl _ [tU _]) rfl (Ka hV U3 S7 hA hF' (by omega) hun UE (ee _) (eX _) (ee _) (eX _))
  |(apply bH [0,5,8,10,129,130,131] [] [10,131] [(0,1),(1,1)] (R3 us vs i n q.toNat un) (n) [iV .u64 0,iV .i64 0];(conv=>whnf);exact⟨rfl,rfl,rfl,rfl⟩;exact rfl;exact rfl;exact .cons (az.ak (az.set (xs:=mq) rfl _ [tU _]) _) (.cons (az.ak rfl _) .nil);exact R3.zero hS hF (by omega) UE WA rfl h;rintro _ _ _ ⟨k3,c3,yn,aiA,e3,c',b',hk3,rfl,rfl,rfl,U3,S7,hA,hF'⟩)
  |(refine aj [0,5,8,10,129,130,131] [] ?_;(conv=>whnf);exact⟨rfl,_,[_,_],_, .cons (az.ak (az.set (xs:=yn) rfl _ [tU _]) _) (.cons (az.ak rfl _) .nil),R3.next U3 S7 hA hF' (by omega) (by omega) XL hy0 xM (by assumption) (by assumption) (by assumption) rfl,rfl,rfl,by omega⟩)
  |(apply bH [0,1,5,8,10,11,76,77,78] [] [10,11,78] [(0,1),(1,1)] (R2 us vs i n q) (n) [iV .u64 0,iV .u64 0,iV .i64 0];(conv=>whnf);exact⟨rfl,rfl,rfl,rfl⟩;exact rfl;exact rfl;exact .cons (az.ak rfl _) (.cons (az.ak rfl _) .nil);exact⟨0,0,0,us,by omega,rfl,rfl,rfl,mg.zero hU,by first|exact LF U9 hm hQ (fun hh=>absurd hh.1 (by omega))|exact fq2 U9 AW uU hm hQ v00 v01 u00 u01 (by omega) (by omega) h⟩;rintro _ _ _ ⟨k,c,b,mq,hk,rfl,rfl,rfl,hS,hF⟩)
  |(refine aj [0,1,5,8,10,11,76,77,78] [] ?_;(conv=>whnf);exact⟨rfl,_,[_,_,_],_, .cons (az.ak (az.set (xs:=mq) rfl _ [tU _]) _) (.cons (az.ak rfl _) .nil),R2.next AW hS hF (by omega) (by omega) XL hy0 xM (by assumption) (by assumption) (by assumption) rfl rfl,rfl,rfl,by omega⟩)
  |(apply bH [0,1,5,7,8,9] [] [8,9] [(0,1),(1,1)] (R1 (dz us i (n+1)) (dz vs 0 n) un.toNat u1.toNat v1'.toNat us vs) (_) [_,_];(conv=>whnf);exact⟨rfl,rfl,rfl,rfl⟩;exact rfl;exact rfl;exact .cons (az.ak rfl _) (.cons (az.ak rfl _) .nil);exact R1.zero U9 UE WA I6 u11 XA v11 rfl;rintro _ _ _ ⟨q,r,AW,uU,hmr,rfl,rfl,hm,hQ,XY,alH⟩)
  |(refine aj [0,1,5,7,8,9] [] ?_;(conv=>whnf);exact⟨rfl,_,[_,_],_, .cons (az.ak rfl _) (.cons (az.ak rfl _) .nil),R1.next U9 AW uU XA v11 hm hQ XY (by omega) (by first|exact .inl (by omega)|exact TN AW uU v00 v01 u00 u01 (by omega) (by omega) h),rfl,rfl,by omega⟩))
 all_goals (conv=>whnf)
end Go.aS.Cd
end
section
namespace Go.aS.Cd
open Go Go.Proofs
set_option maxRecDepth 100000
set_option maxHeartbeats 4000000
abbrev oB (b:Bool):W:= .one (.t (tB b))
def ZK (k:Nat) (ys:Lz) (ts:List W):Prop:= ∃qs rs ok,ts=[oL 1 qs,oL 1 rs,oB ok]∧(qs.length≤k∧Us qs)∧Nm k rs∧(nv ys≠0→nv rs < nv ys)
theorem I8 {vs:Lz} {n:Nat} (hV:Us vs) (hn:1≤n) (hl:n≤vs.length) (h:4294967296 ^ (n - 1)≤dz vs 0 n): ∃v1,vs[n - 1]? =some [tU v1]∧0 < v1:=by
 obtain⟨x,hx,h0,_⟩:=tP hV (k:=n - 1) (by omega)
 refine⟨x,hx,?_⟩
 have e:n=(n - 1)+1:=by omega
 have h1:=dI (xs:=vs) (i:=0) (k:=n - 1) (x:=x) (by rw[Nat.zero_add];exact hx)
 rw[←e]at h1
 have h2:=qD hV 0 (n - 1)
 rcases Int.lt_or_le 0 x with h'|h'
 · exact h'
 · have:x.toNat=0:=by omega
   rw[this,Nat.mul_zero]at h1
   omega
structure Dv (bs vs:Lz) (n s:Nat):Prop where
 len:vs.length=n+1
 ok:Us vs
 val:dz vs 0 n=nv bs * 2 ^ s
 top: ∃v1,vs[n - 1]? =some [tU v1]∧0 < v1
theorem DT {bs vs:Lz} {n s:Nat} {x:Int} (hb:Us bs) (hbt: ∀e,bs.getLast? =some e→lb e≠0) (hn:bs.length=n) (rV:2≤n) (hx:bs[n - 1]? =some [tU x]) (hs:s≤31) (hxs:x.toNat < 2 ^ (32 - s)) (h:vs.length=bs.length+1∧Us vs∧nv vs=nv bs * 2 ^ s):Dv bs vs n s:=by
 obtain⟨h1,h2,h3⟩:=h
 have hf:=NL hb hn (by omega) hx (by omega) hxs
 have e:dz vs 0 n=nv bs * 2 ^ s:=by rw[←h3];exact Jg (by rw[h3];exact hf) (by omega)
 refine⟨by omega,h2,e,I8 h2 (by omega) (by omega) ?_⟩
 have g:=Az hbt (by intro e;subst e;simp at hn;omega)
 rw[hn]at g
 rw[e]
 have:nv bs * 1≤nv bs * 2 ^ s:=Nat.mul_le_mul_left _ (Nat.pow_pos (by omega))
 omega
def CZ (n la Vn:Nat) (vs:Lz) (m:Nat) (ws:List V) (xss:List (Lz)):Prop:=
 ∃ (j:Nat) (z:Int) (us qs:Lz),j≤la+1 - n∧m=j∧ws=[iV .i64 z]∧xss=[us,vs,qs]∧us.length=la+1∧Us us∧qs.length=la+1 - n∧Us qs∧dz us j n < Vn∧((z= -1∧j=0)∨ ∃i:Nat,z=(i:Int)∧j=i+1)
theorem PL (j:Nat):((j:Int) - 1= -1∧j=0)∨ ∃i:Nat,(j:Int) - 1=(i:Int)∧j=i+1:=by
 rcases j with _|i
 · exact .inl ⟨by omega,rfl⟩
 · exact .inr ⟨i,by omega,rfl⟩
theorem DD {qs:Lz} {k:Nat} {e:List T} (h:qs[k]? =some e) (hk:qs.length=k+1):qs.getLast? =some e:=by
 rw[List.getLast?_eq_getElem?,hk];simpa using h
theorem one_pos {qs:Lz} {x:Int} (hl:qs.length=1) (h:qs[(0:Int).toNat]? =some [tU x]) (ht: ∀e,qs.getLast? =some e→lb e≠0) (h0:0≤x):1≤x∧nv qs=x.toNat:=by
 have h':qs[0]? =some [tU x]:=h
 have:=ht _ (DD h' (by omega))
 rw[jR]at this
 refine⟨by omega,?_⟩
 match qs,hl with
 | [e],_=>
   simp only[List.getElem?_cons_zero,Option.some.injEq]at h'
   subst h'
   simp[nv,jR]
theorem mr {qs:Lz} {x:Int} {n:Nat} (hn:2≤n) (hl:qs.length=n) (hb:n≤1000000) (h:qs[(IntKind.i64.wrap ((n:Int) - 1)).toNat]? =some [tU x]) (ht: ∀e,qs.getLast? =some e→lb e≠0) (h0:0≤x):0 < x∧qs[n - 1]? =some [tU x]:=by
 rw[bj (by omega) (by omega),show((n:Int) - 1).toNat=n - 1 by omega]at h
 have:=ht _ (DD h (by omega))
 rw[jR]at this
 exact⟨by omega,h⟩
theorem Jr {qs:Lz} (h:(qs.length:Int)=0):nv qs=0:=by
 have:qs=[]:=List.eq_nil_of_length_eq_zero (by omega)
 subst this;rfl
theorem eN {ps qs:Lz} {c:Int} (ua:Us ps) (tb: ∀e,qs.getLast? =some e→lb e≠0) (h:FA c (nv ps) (nv qs)) (hc:¬c < 0):qs.length≤ps.length:=by
 apply Nat.le_of_not_lt
 intro hlt
 have:=zL ua tb hlt
 exact hc (h.1.2 this)
theorem CZ.zero {ps bs vs us:Lz} {n s:Nat} (ua:Us ps) (rS:us.length=ps.length+1) (XC:Us us) (XB:nv us=nv ps * 2 ^ s) (hD:Dv bs vs n s) (hb: ∀e,bs.getLast? =some e→lb e≠0) (hn:bs.length=n) (rV:2≤n) (hle:n≤ps.length) (hL:ps.length≤400000) {N:Nat} (hN:N=ps.length+1 - n):
 CZ n ps.length (dz vs 0 n) vs (ps.length+1 - n) [iV .i64 (IntKind.i64.wrap ((N:Int) - 1))] [us,vs,List.replicate N [tU 0]]:=by
 subst hN
 exact⟨ps.length+1 - n,_,us,_,by omega,rfl,by rw[bj (by omega) (by omega)],rfl,rS,XC,by simp,Us.replicate _,Mi ua XB hb hn (by omega) (by omega) hD.val,PL _⟩
theorem Mr {us:Lz} {j n la V:Nat} (hU:Us us) (hl:us.length=la+1) (hj:j+1≤la+1 - n) (h:dz us (j+1) n < V):dz us j (n+1) < 4294967296 * V:=by
 obtain⟨x,hx,_,_⟩:=tP hU (k:=j) (by omega)
 exact Ju hU hx h
theorem CZ.next {fh us qs vs:Lz} {n la V i k:Nat} {d:Int} (hj:i+1≤la+1 - n) (hL:la≤400000) (hl:us.length=la+1) (hl':fh.length=us.length) (hU:Us fh) (hq:qs.length=la+1 - n) (hQ:Us qs) (hs:dz fh i n < V) (BT:0≤d) (Np:d < 4294967296):
 CZ n la V vs i [iV .i64 (IntKind.i64.wrap ((i:Int) - 1))] [fh,vs,qs.set k [tU d]]:=
 ⟨i,_,fh,_,by omega,rfl,by rw[bj (by omega) (by omega)],rfl,by omega,hU,by simp[hq],hQ.set BT Np,hs,PL _⟩
theorem WY {a b c d i n:Nat} (h1:a=i) (h2:b=n+1) (h3:c=n) (h4:d=0): [W.one (C.own 0 1 a b),W.one (C.own 1 1 d c)]=[.one (.own 0 1 i (n+1)), .one (.own 1 1 0 n)]:=by subst h1;subst h2;subst h3;subst h4;rfl
theorem RZ {a b n:Nat} {r:List W} (h:b=n) (h0:a=0):W.one (C.own 0 1 a b)::r= .one (.own 0 1 0 n)::r:=by subst h;subst h0;rfl
theorem Yk {f:Nat→Option Nat} {us vs:Lz}: [(0,bi.row 1 ((tr us).map fun e=>e.map (C.ak f))),(1,bi.row 1 ((tr vs).map fun e=>e.map (C.ak f)))]=[(0,bi.row 1 (tr us)),(1,bi.row 1 (tr vs))]:=by rw[eJ,eJ]
theorem Mv {ys bs us vs:Lz} {n s:Nat} (hv:nv bs=nv ys) (hD:Dv bs vs n s) (h:dz us 0 n < dz vs 0 n) {r:Nat} (hr:r=dz us 0 n / 2 ^ s):r < nv ys:=by
 rw[hD.val,hv,Nat.mul_comm]at h
 rw[hr]
 exact Nat.div_lt_of_lt_mul h
theorem nU (xs:Lz) (s:Int) (hx:Us xs) (hl:xs.length≤400000) (hs0:0≤s) (hs:s≤31): ∃ts hout,Ab Tryz.prog 251 [oL 1 xs,oI s] (aQ ts) hout∧GN 1 (fun ys=>ys.length=xs.length+1∧Us ys∧nv ys=nv xs * 2 ^ s.toNat) ts hout:=by
 have:=yY xs s.toNat hx hl (by omega)
 rw[Int.toNat_of_nonneg hs0]at this
 exact this
theorem uG (us:Lz) (n:Nat) (s:Int) (hx:Us us) (hn:n≤us.length) (hl:us.length≤400001) (hs0:0≤s) (hs:s≤31): ∃ts hout,Fn Tryz.prog 253 [.one (.own 0 1 0 n),oI s] [(0, .row 1 (tr us))] (aQ ts) hout∧Ul 1 us (fun ts=> ∃ys,ts=[oL 1 ys]∧Nm n ys∧nv ys=dz us 0 n / 2 ^ s.toNat) ts hout:=by
 have:=wD us n s.toNat hx hn hl (by omega)
 rw[Int.toNat_of_nonneg hs0]at this
 exact this
theorem gE (k:Nat) (xs ys:Lz) (hl:xs.length≤k) (hx:Us xs) (hm:ys.length≤k) (hy:Us ys) (hk:k≤200000) (fC:2≤k):Tg 243 [oL 1 xs,oL 1 ys] (ZK k ys):=by
 refine aK ?_
 refine ae Tryz.func243 ?_
 repeat' (conv=>whnf
          first
  |(refine aA (fun h=>?_) (fun h=>?_))
  |(refine au ub (by have:=eN ua tb hc (by omega);first|omega|(simp (disch:=omega) only[aa];omega)) (by have:=eN ua tb hc (by omega);first|omega|(simp (disch:=omega) only[aa];omega)) ?_;rintro _ ⟨x,rfl,hx0,qL⟩ Nb)
  |(refine mo (Nat.zero_le _) (by omega) (.inr rfl) ?_)
  |(refine mo (by have:=eN ua tb hc (by omega);first|omega|(simp (disch:=omega) only[aa];omega)) (by have:=eN ua tb hc (by omega);first|omega|(simp (disch:=omega) only[aa];omega)) (.inl (by have:=eN ua tb hc (by omega);first|omega|(simp (disch:=omega) only[aa];omega))) ?_)
  |(refine And.intro ⟨(by have:=eN ua tb hc (by omega);first|omega|(simp (disch:=omega) only[aa];omega)),(by have:=eN ua tb hc (by omega);first|omega|(simp (disch:=omega) only[aa];omega)),(by have:=eN ua tb hc (by omega);first|omega|(simp (disch:=omega) only[aa];omega)),(by have:=eN ua tb hc (by omega);first|omega|(simp (disch:=omega) only[aa];omega))⟩ ?_)
  |(refine And.intro ⟨(by have:=eN ua tb hc (by omega);first|omega|(simp (disch:=omega) only[aa];omega)),(by have:=eN ua tb hc (by omega);first|omega|(simp (disch:=omega) only[aa];omega))⟩ ?_)
  |(refine And.intro (by have:=eN ua tb hc (by omega);first|omega|(simp (disch:=omega) only[aa];omega)) ?_)
  |(refine And.intro (by kernel_rfl) ?_)
  |(refine ag rfl (cI xs hx (by omega)) ?_;rintro _ ⟨ps,rfl,⟨la,ua,va,ta,_⟩⟩)
  |(refine ag rfl (cI ys hy (by omega)) ?_;rintro _ ⟨qs,rfl,⟨lb',ub,vb,tb,_⟩⟩)
  |(refine ag rfl (iC ps qs ua ub (by omega) (by omega)) ?_;rintro _ ⟨c,rfl,hc⟩)
  |(refine ag rfl (iY ps ua (by omega)) ?_;rintro _ ⟨ns,rfl,⟨ln,un,tn⟩,vn⟩)
  |(refine ag rfl (wC ps x ua (by omega) (one_pos (by omega) Nb tb hx0).1 qL) ?_;rintro _ ⟨zs,r,rfl,⟨lz,uz,tz⟩,uU,rT⟩)
  |(refine ag rfl (oJ _ (jm _) (by rw[u64_in (by omega) (by omega)];omega)) ?_;rintro _ ⟨os,rfl,⟨lo,uo,to⟩,vo⟩)
  |(refine ag rfl (ki x (mr (by omega) rfl (by omega) Nb tb hx0).1 qL) ?_;rintro _ ⟨s,rfl,hs0,hs1,hxs⟩)
  |(refine B1 rfl (nU ps s ua (by omega) hs0 (by omega)) ?_;rintro us ⟨rS,XC,XB⟩)
  |(refine B1 rfl (nU qs s ub (by omega) hs0 (by omega)) ?_;rintro vs ⟨AU,SI,UN⟩)
  |(refine eV [4,8] rfl (wE mq vs i qs.length O0 SI (by omega) (by omega) (by have:=eN ua tb hc (by omega);first|omega|(simp (disch:=omega) only[aa];omega)) (by omega) (by omega) (Mr O0 IE hj SS) _ (Exists.choose_spec (DT ub tb rfl (by omega) (mr (by omega) rfl (by omega) Nb tb hx0).2 (by omega) hxs ⟨AU,SI,UN⟩).top).1 (Exists.choose_spec (DT ub tb rfl (by omega) (mr (by omega) rfl (by omega) Nb tb hx0).2 (by omega) hxs ⟨AU,SI,UN⟩).top).2) (WY (by omega) (by have:=eN ua tb hc (by omega);first|omega|(simp (disch:=omega) only[aa];omega)) (by omega) rfl) Yk ?_;rintro _ _ ⟨yn,d,rfl,rfl,hl3,hU3,IF,BT,Np⟩)
  |(refine cv (xs:=OI) rfl U5 (by omega) ?_;rintro _ ⟨q0,rfl,_,_⟩ _)
  |(refine FP rfl rfl (dM OI U5 (by omega)) (RZ (by have:=eN ua tb hc (by omega);first|omega|(simp (disch:=omega) only[aa];omega)) rfl) rfl ?_;rintro _ ⟨k2,rfl,Hl,hT⟩)
  |(refine FP rfl rfl (uG mq qs.length s O0 (by have:=eN ua tb hc (by omega);first|omega|(simp (disch:=omega) only[aa];omega)) (by omega) hs0 hs1) (RZ (by omega) rfl) rfl ?_;rintro _ ⟨rs,rfl,⟨lr,ur,tr'⟩,vr⟩)
  |exact Fb rfl (bP 1 rfl) (bP 1 rfl) (bX rfl) ⟨_,_,_,rfl,⟨by simp,Us.nil⟩,⟨by simp,Us.nil,by simp⟩,fun h=>absurd (vb.symm.trans (Jr (by omega))) h⟩
  |exact Fb rfl (bP 1 rfl) (bX rfl) (bX rfl) ⟨_,_,_,rfl,⟨by simp,Us.nil⟩,⟨by omega,un,tn⟩,fun _=>by rw[vn, ←vb];exact hc.1.1 (by omega)⟩
  |exact Fb rfl (bX rfl) (bX rfl) (bX rfl) ⟨_,_,_,rfl,⟨by omega,uz⟩,⟨by omega,uo,to⟩,fun _=>by rw[vo,u64_in (by omega) (by omega), ←vb,(one_pos (by omega) Nb tb hx0).2];omega⟩
  |exact Fb rfl (eR rfl rfl (xs:=OI) rfl (by omega)) (bX rfl) (bX rfl) ⟨_,_,_,rfl,⟨by simp only[List.length_take,List.length_drop];omega,U5.cut _ _⟩,⟨by omega,ur,tr'⟩,fun _=>Mv vb (DT ub tb rfl (by omega) (mr (by omega) rfl (by omega) Nb tb hx0).2 (by omega) hxs ⟨AU,SI,UN⟩) SS vr⟩
  |(apply bH [9,10,11,12,13,14] [] [14] [(4,1),(8,1),(12,1)] (CZ qs.length ps.length (dz vs 0 qs.length) vs) (ps.length+1 - qs.length) [_];(conv=>whnf);exact⟨rfl,rfl,rfl,rfl⟩;exact rfl;exact rfl;exact .cons (az.ak rfl _) (.cons (az.ak rfl _) (.cons (az.ak (az.replicate _ [tU 0]) _) .nil));exact CZ.zero ua rS XC XB (DT ub tb rfl (by omega) (mr (by omega) rfl (by omega) Nb tb hx0).2 (by omega) hxs ⟨AU,SI,UN⟩) tb rfl (by omega) (eN ua tb hc (by omega)) (by omega) (by have:=eN ua tb hc (by omega);rw[bj (by omega) (by omega)];omega);rintro _ _ _ ⟨j,z,mq,OI,hj,hmj,rfl,rfl,IE,O0,hql,U5,SS,(⟨rfl,rfl⟩|⟨i,rfl,rfl⟩)⟩)
  |(refine aj [9,10,11,12,13,14] [] ?_;(conv=>whnf);exact⟨rfl,_,[_],_, .cons (az.ak (az.ak (xs:=yn) rfl _) _) (.cons (az.ak (az.ak (xs:=vs) rfl _) _) (.cons (az.ak (az.set (xs:=OI) rfl _ [tU _]) _) .nil)),CZ.next (us:=mq) hj (by omega) IE hl3 hU3 hql U5 IF BT Np,rfl,rfl,by omega⟩))
 all_goals (conv=>whnf)
theorem JA {bs:Lz} (h: ∀e,bs.getLast? =some e→lb e≠0) (hl:(bs.length:Int) > 0):nv bs≠0:=by
 have g:=Az h (by intro e;subst e;simp at hl)
 have:=L4 (bs.length - 1)
 omega
theorem sN (k:Nat) (xs ys:Lz) (hl:xs.length≤k) (hx:Us xs) (hm:ys.length≤k) (hy:Us ys) (hk:k≤200000) (fC:2≤k) (hp:nv ys≠0): ∃ts,Fn Tryz.prog 243 [oL 1 xs,oL 1 ys] [] (aQ ts) []∧(aQ ts).bY=true∧ ∃qs rs ok,ts=[oL 1 qs,oL 1 rs,oB ok]∧Nm k rs∧nv rs < nv ys:=by
 obtain⟨ts,h1,h2,qs,rs,ok,h3,_,h4,h5⟩:=gE k xs ys hl hx hm hy hk fC
 exact⟨ts,h1,h2,qs,rs,ok,h3,h4,h5 hp⟩
theorem AD (k:Nat) (xs ys:Lz) (hl:xs.length≤k) (hx:Us xs) (hm:ys.length≤k) (hy:Us ys) (hk:k≤200000) (fC:2≤k):Tg 242 [oL 1 xs,oL 1 ys] (GL 1 (fun zs=>zs.length≤k∧Us zs)):=by
 refine ae Tryz.func242 ?_
 repeat' (conv=>whnf
          first
  |(refine aA (fun h=>?_) (fun h=>?_))
  |(refine ag rfl (iY xs hx (by omega)) ?_;rintro _ ⟨ps,rfl,⟨la,ua,ta⟩,va⟩)
  |(refine ag rfl (iY ys hy (by omega)) ?_;rintro _ ⟨qs,rfl,⟨lb',ub,tb⟩,vb⟩)
  |(refine ag rfl (sN k a b l1 u1 l2 u2 hk fC (JA t2 (by omega))) ?_;rintro _ ⟨q0,rs,ok,rfl,hN,hlt⟩)
  |exact U7 rfl rfl ⟨l1,u1⟩
  |(apply aL [0,1] [] [0,1] (fun m vs=> ∃a1 b1,(a1.length≤k∧Us a1)∧Nm k b1∧m=nv b1∧vs=[.w (oL 1 a1), .w (oL 1 b1)]) (nv qs) [.w (oL 1 ps), .w (oL 1 qs)];(conv=>whnf);exact⟨rfl,rfl,rfl,rfl⟩;exact rfl;exact rfl;exact⟨ps,qs,⟨by omega,ua⟩,⟨by omega,ub,tb⟩,rfl,rfl⟩;rintro _ _ ⟨a,b,⟨l1,u1⟩,⟨l2,u2,t2⟩,hmb,rfl⟩)
  |(refine aj [0,1] [] ?_;(conv=>whnf);exact⟨rfl,_,[_,_],⟨b,rs,⟨l2,u2⟩,hN,rfl,rfl⟩,rfl,rfl,rfl,by omega⟩))
 all_goals (conv=>whnf)
end Go.aS.Cd
end
section
namespace Go.aS.Cd
open Go Go.Proofs
set_option maxRecDepth 100000
theorem LR:iQ Tryz.prog 278=some true:=by kernel_rfl
theorem KY:cG Tryz.prog 278=some 2:=by kernel_rfl
theorem FL:iQ Tryz.prog 280=some true:=by kernel_rfl
theorem FF:cG Tryz.prog 280=some 3:=by kernel_rfl
abbrev FH (b:Bool) (xs:Lz):W:= .agg [.t (tB b), .t (.av 1 xs)]
def LZ (k:Nat) (ts:List W):Prop:= ∃b xs,ts=[FH b xs]∧xs.length≤k∧Us xs
def GIB (ts:List W):Prop:= ∃n b,ts=[oI n,oB b]
theorem kW (n:Int):IntKind.u64.wrap n < 18446744073709551616:=by rw[qu];omega
theorem dn (b:Bool) (k:Nat) (xs:Lz) (hl:xs.length≤k) (hx:Us xs) (hk:k≤1000000):Tg 224 [oB b,oL 1 xs] (LZ k):=by
 refine aK ?_
 refine ae Tryz.func224 ?_
 repeat' (conv=>whnf
          first
  |(refine aG (fun h=>?_) (fun h=>?_))
  |(refine ag rfl (iY xs hx (by omega)) ?_;rintro _ ⟨ys,rfl,⟨l1,u1,_⟩,_⟩)
  |exact mh rfl (bF LR KY rfl rfl (Nat.le_refl _) rfl (cQ.refl _)) ⟨_,ys,rfl,by omega,u1⟩)
 all_goals (conv=>whnf)
theorem uQ (n:Int):Tg 244 [oI n] (LZ 2):=by
 refine aK ?_
 refine ae Tryz.func244 ?_
 repeat' (conv=>whnf
          first
  |(refine aA (fun h=>?_) (fun h=>?_))
  |(refine ag rfl (oJ _ (jm _) (kW _)) ?_;rintro _ ⟨ys,rfl,⟨l1,u1,_⟩,_⟩)
  |(refine ag rfl (dn _ 2 ys (by omega) u1 (by omega)) ?_;rintro _ ⟨b,zs,rfl,l2,u2⟩)
  |exact mh rfl (bF LR KY rfl rfl (Nat.le_refl _) rfl (cQ.refl _)) ⟨_,zs,rfl,by omega,u2⟩)
 all_goals (conv=>whnf)
theorem gG (b:Bool) (k:Nat) (xs:Lz) (hl:xs.length≤k) (hx:Us xs) (hk:k≤1000000):Tg 222 [FH b xs] (LZ k):=by
 refine aK ?_
 refine ae Tryz.func222 ?_
 repeat' (conv=>whnf
          first
  |(refine ag rfl (dn _ k xs hl hx hk) ?_;rintro _ ⟨b,zs,rfl,l2,u2⟩)
  |exact mh rfl (bF LR KY rfl rfl (Nat.le_refl _) rfl (cQ.refl _)) ⟨_,zs,rfl,by omega,u2⟩)
 all_goals (conv=>whnf)
theorem AO (b c:Bool) (k:Nat) (xs ys:Lz) (hl:xs.length≤k) (hx:Us xs) (hm:ys.length≤k) (hy:Us ys) (hk:k≤1000000):Tg 199 [FH b xs,FH c ys] GI:=by
 refine ae Tryz.func199 ?_
 repeat' (conv=>whnf
          first
  |(refine aG (fun h=>?_) (fun h=>?_))
  |(refine And.intro (by kernel_rfl) ?_)
  |(refine aB rfl (gG _ k xs hl hx hk) ?_;rintro _ ⟨b,zs,rfl,l2,u2⟩)
  |(refine aB rfl (gG _ k ys hm hy hk) ?_;rintro _ ⟨b,ws,rfl,l3,u3⟩)
  |(refine ag rfl (iC zs ws u2 u3 (by omega) (by omega)) ?_;rintro _ ⟨n,rfl,_⟩)
  |(refine ag rfl (iC ws zs u3 u2 (by omega) (by omega)) ?_;rintro _ ⟨n,rfl,_⟩)
  |exact gI rfl rfl)
 all_goals (conv=>whnf)
theorem AN (b:Bool) (k:Nat) (xs:Lz) (hl:xs.length≤k) (hx:Us xs) (hk:k≤1000000):Tg 247 [FH b xs] (LZ k):=by
 refine aK ?_
 refine ae Tryz.func247 ?_
 repeat' (conv=>whnf
          first
  |(refine ag rfl (dn _ k xs hl hx hk) ?_;rintro _ ⟨b,zs,rfl,l2,u2⟩)
  |exact mh rfl (bF LR KY rfl rfl (Nat.le_refl _) rfl (cQ.refl _)) ⟨_,zs,rfl,by omega,u2⟩)
 all_goals (conv=>whnf)
theorem AP (b c:Bool) (k:Nat) (xs ys:Lz) (hl:xs.length≤k) (hx:Us xs) (hm:ys.length≤k) (hy:Us ys) (hk:k≤400000):Tg 246 [FH b xs,FH c ys] (LZ (k+1)):=by
 refine aK ?_
 refine ae Tryz.func246 ?_
 repeat' (conv=>whnf
          first
  |(refine aA (fun h=>?_) (fun h=>?_))
  |(refine aG (fun h=>?_) (fun h=>?_))
  |(refine And.intro (by kernel_rfl) ?_)
  |(refine aB rfl (jQ xs ys hx hy (by omega) (by omega)) ?_;rintro _ ⟨zs,rfl,⟨l1,u1,_⟩⟩)
  |(refine ag rfl (rL xs ys hx hy (by omega) (by omega)) ?_;rintro _ ⟨zs,q,rfl,⟨l1,u1,_⟩⟩)
  |(refine ag rfl (rL ys xs hy hx (by omega) (by omega)) ?_;rintro _ ⟨ws,q2,rfl,⟨l4,u4,_⟩⟩)
  |(refine ag rfl (dn _ (k+1) zs (by omega) u1 (by omega)) ?_;rintro _ ⟨b,ws,rfl,l2,u2⟩)
  |(refine aB rfl (dn _ (k+1) zs (by omega) u1 (by omega)) ?_;rintro _ ⟨b,ws,rfl,l2,u2⟩)
  |(refine ag rfl (dn _ (k+1) ws (by omega) u4 (by omega)) ?_;rintro _ ⟨b,ws,rfl,l2,u2⟩)
  |exact mh rfl (bF LR KY rfl rfl (Nat.le_refl _) rfl (cQ.refl _)) ⟨_,ws,rfl,by omega,u2⟩)
 all_goals (conv=>whnf)
theorem iE (b c:Bool) (k:Nat) (xs ys:Lz) (hl:xs.length≤k) (hx:Us xs) (hm:ys.length≤k) (hy:Us ys) (hk:k≤400000):Tg 200 [FH b xs,FH c ys] (LZ (2 * k)):=by
 refine aK ?_
 refine ae Tryz.func200 ?_
 repeat' (conv=>whnf
          first
  |(refine And.intro (by kernel_rfl) ?_)
  |(refine aB rfl (iB xs ys hx hy (by omega) (by omega)) ?_;rintro _ ⟨zs,rfl,⟨l1,u1,_⟩⟩)
  |(refine aB rfl (dn _ (2 * k) zs (by omega) u1 (by omega)) ?_;rintro _ ⟨b,ws,rfl,l2,u2⟩)
  |exact mh rfl (bF LR KY rfl rfl (Nat.le_refl _) rfl (cQ.refl _)) ⟨_,ws,rfl,by omega,u2⟩)
 all_goals (conv=>whnf)
theorem wI (b:Bool) (k:Nat) (xs:Lz) (hl:xs.length≤k) (hx:Us xs) (hk:k≤1000000):Tg 234 [FH b xs] GIB:=by
 refine aK ?_
 refine ae Tryz.func234 ?_
 repeat' (conv=>whnf
          first
  |(refine aA (fun h=>?_) (fun h=>?_))
  |(refine aG (fun h=>?_) (fun h=>?_))
  |(refine And.intro (show 0≤IntKind.i64.wrap (32 * (i:Int)) by rw[aa (by omega) (by omega)];omega) ?_)
  |(refine au u2 (by first|omega|exact cC (by first|omega|(simp (disch:=omega) only[aa];omega))|(simp (disch:=omega) only[aa];omega)) (by first|omega|exact cr (by omega)|(simp (disch:=omega) only[aa];omega)) ?_;rintro _ ⟨x,rfl,hx0,qL⟩ hs)
  |(refine ag rfl (gG _ k xs hl hx hk) ?_;rintro _ ⟨b,ys,rfl,l2,u2⟩)
  |exact dA rfl (bX rfl) (bX rfl) ⟨_,_,rfl⟩
  |(apply aL [1,4,14,15,16] [] [4,16] (fun m vs=> ∃ (i:Nat) (n:Int),i≤ys.length∧m=ys.length - i∧vs=[iV .u64 n,iV .i64 i]) (ys.length) [iV .u64 0,iV .i64 0];(conv=>whnf);exact⟨rfl,rfl,rfl,rfl⟩;exact rfl;exact rfl;exact⟨0,0,by omega,rfl,rfl⟩;rintro _ _ ⟨i,n,hi,rfl,rfl⟩)
  |(refine aj [1,4,14,15,16] [] ?_;(conv=>whnf);exact⟨rfl,_,[_,_],⟨i+1,_,by omega,rfl,by rw[aa (n:=(i:Int)+1) (by omega) (by omega)];rfl⟩,rfl,rfl,rfl,by omega⟩))
 all_goals (conv=>whnf)
abbrev iq (b:Bool) (xs ds:Lz):W:= .agg [.t (tB b), .t (.av 1 xs), .t (.av 1 ds)]
def w7 (k:Nat) (ts:List W):Prop:= ∃b xs ds,ts=[iq b xs ds]∧(xs.length≤k∧Us xs)∧ds.length≤k∧Us ds
def It (k:Nat) (ts:List W):Prop:= ∃b xs ds q,ts=[iq b xs ds,oB q]∧(xs.length≤k∧Us xs)∧ds.length≤k∧Us ds
theorem dV {r s:List C} (h:cQ r s):cQ (.t iA::r) (.t (.av 1 [])::s):= .cons (.nil 1) h
theorem fc {c:C} {r s:List C} (h:cQ r s):cQ (c::r) (c::s):= .cons (.refl c) h
theorem yZ (xs:Lz) (hx:Us xs) (hl:xs.length≤1000000): ∃ts,Fn Tryz.prog 223 [oL 1 xs, .one (.t iA)] [] (aQ ts) []∧(aQ ts).bY=true∧nP (fun n=>FA n (nv xs) (nv [])) ts:=
 zB (iC xs [] hx Us.nil hl (by simp)) (.cons (wi.refl _) (.cons (.one (.nil 1)) .nil))
theorem um (k:Nat) (xs:Lz) (hl:xs.length≤k) (hx:Us xs) (hk:k≤1000000):Tg 220 [oL 1 xs] GB:=by
 refine ae Tryz.func220 ?_
 repeat' (conv=>whnf
          first
  |(refine ag rfl (yZ xs hx (by omega)) ?_;rintro _ ⟨n,rfl,_⟩)
  |exact gB rfl rfl)
 all_goals (conv=>whnf)
theorem gz (xs:Lz): ∃ts,Fn Tryz.prog 201 [oL 1 xs] [] (aQ ts) []∧(aQ ts).bY=true∧(fun ts=>ts=[FH false xs]) ts:=by
 refine aK ?_
 refine ae Tryz.func201 ?_
 repeat' (conv=>whnf
          first
  |exact mh rfl (bF LR KY rfl rfl (Nat.le_refl _) rfl (cQ.refl _)) rfl)
 all_goals (conv=>whnf)
theorem dj (b:Bool) (k:Nat) (xs ds:Lz) (hl:xs.length≤k) (hx:Us xs) (hm:ds.length≤k) (hd:Us ds) (hk:k≤1000000) (fC:2≤k):Tg 198 [iq b xs ds] (w7 k):=by
 refine aK ?_
 refine ae Tryz.func198 ?_
 repeat' (conv=>whnf
          first
  |(refine aG (fun h=>?_) (fun h=>?_))
  |(refine ag rfl (um k ds hm hd hk) ?_;rintro _ ⟨q,rfl⟩)
  |(refine ag rfl (oJ 1 (by omega) (by omega)) ?_;rintro _ ⟨ys,rfl,⟨l1,u1,_⟩,_⟩)
  |exact mh rfl (bF FL FF rfl rfl (Nat.le_refl _) rfl (cQ.refl _)) ⟨_,xs,ds,rfl,⟨hl,hx⟩,hm,hd⟩
  |exact mh rfl (bF FL FF rfl rfl (Nat.le_refl _) rfl (fc (dV (fc .nil)))) ⟨_,[],ys,rfl,⟨by simp,Us.nil⟩,by omega,u1⟩)
 all_goals (conv=>whnf)
theorem gy (b:Bool) (k:Nat) (xs ds:Lz) (hl:xs.length≤k) (hx:Us xs) (hm:ds.length≤k) (hd:Us ds) (hk:k≤200000) (fC:2≤k):Tg 229 [FH b xs,oL 1 ds] (w7 k):=by
 refine aK ?_
 refine ae Tryz.func229 ?_
 repeat' (conv=>whnf
          first
  |(refine ag rfl (AD k xs ds hl hx hm hd hk fC) ?_;rintro _ ⟨gs,rfl,lg,ug⟩)
  |(refine ag rfl (gE k xs gs hl hx lg ug hk fC) ?_;rintro _ ⟨qs,rs,ok,rfl,⟨l1,u1⟩,⟨l2,u2,_⟩,_⟩)
  |(refine ag rfl (gE k ds gs hm hd lg ug hk fC) ?_;rintro _ ⟨OI,Eu,ok2,rfl,⟨l3,u3⟩,⟨l4,u4,_⟩,_⟩)
  |(refine ag rfl (gG _ k qs l1 u1 (by omega)) ?_;rintro _ ⟨c,ws,rfl,l5,u5⟩)
  |exact mh rfl (bF FL FF rfl rfl (Nat.le_refl _) rfl (cQ.refl _)) ⟨_,ws,OI,rfl,⟨l5,u5⟩,l3,u3⟩)
 all_goals (conv=>whnf)
theorem Au (n d:Int):Tg 233 [oI n,oI d] (It 2):=by
 refine aK ?_
 refine ae Tryz.func233 ?_
 repeat' (conv=>whnf
          first
  |(refine aA (fun h=>?_) (fun h=>?_))
  |(refine ag rfl (uQ n) ?_;rintro _ ⟨b,xs,rfl,l1,u1⟩)
  |(refine ag rfl (uQ d) ?_;rintro _ ⟨c,ds,rfl,l2,u2⟩)
  |(refine ag rfl (gy _ 2 xs ds l1 u1 l2 u2 (by omega) (by omega)) ?_;rintro _ ⟨e,ys,es,rfl,⟨l3,u3⟩,l4,u4⟩)
  |exact dA rfl (bF FL FF rfl rfl (Nat.le_refl _) rfl (cQ.refl _)) (bX rfl) ⟨_,ys,es,_,rfl,⟨l3,u3⟩,l4,u4⟩
  |exact dA rfl (bF FL FF rfl rfl (Nat.le_refl _) rfl (fc (dV (dV .nil)))) (bX rfl) ⟨_,[],[],_,rfl,⟨by simp,Us.nil⟩,by simp,Us.nil⟩)
 all_goals (conv=>whnf)
theorem ED (b c:Bool) (k:Nat) (xs ds ys es:Lz) (hl:xs.length≤k) (hx:Us xs) (hm:ds.length≤k) (hd:Us ds) (rW:ys.length≤k) (hy:Us ys) (qm:es.length≤k) (he:Us es) (hk:k≤200000) (fC:2≤k):Tg 177 [iq b xs ds,iq c ys es] GI:=by
 refine ae Tryz.func177 ?_
 repeat' (conv=>whnf
          first
  |(refine And.intro (by kernel_rfl) ?_)
  |(refine aB rfl (dj _ k xs ds hl hx hm hd (by omega) fC) ?_;rintro _ ⟨b1,x1,d1,rfl,⟨l1,u1⟩,l2,u2⟩)
  |(refine aB rfl (dj _ k ys es rW hy qm he (by omega) fC) ?_;rintro _ ⟨b2,x2,d2,rfl,⟨l3,u3⟩,l4,u4⟩)
  |(refine aB rfl (gz d2) ?_;rintro _ rfl)
  |(refine aB rfl (gz d1) ?_;rintro _ rfl)
  |(refine aB rfl (iE _ _ k x1 d2 l1 u1 l4 u4 (by omega)) ?_;rintro _ ⟨b3,x3,rfl,l5,u5⟩)
  |(refine aB rfl (iE _ _ k x2 d1 l3 u3 l2 u2 (by omega)) ?_;rintro _ ⟨b4,x4,rfl,l6,u6⟩)
  |(refine aB rfl (AO _ _ (2 * k) x3 x4 l5 u5 l6 u6 (by omega)) ?_;rintro _ ⟨n,rfl⟩)
  |exact gI rfl rfl)
 all_goals (conv=>whnf)
theorem EA (b:Bool) (k:Nat) (xs ds:Lz) (hl:xs.length≤k) (hx:Us xs) (hm:ds.length≤k) (hd:Us ds) (hk:k≤200000) (fC:2≤k):Tg 237 [iq b xs ds] (w7 k):=by
 refine aK ?_
 refine ae Tryz.func237 ?_
 repeat' (conv=>whnf
          first
  |(refine And.intro (by kernel_rfl) ?_)
  |(refine ag rfl (dj _ k xs ds hl hx hm hd (by omega) fC) ?_;rintro _ ⟨b1,x1,d1,rfl,⟨l1,u1⟩,l2,u2⟩)
  |(refine aB rfl (AN _ k x1 l1 u1 (by omega)) ?_;rintro _ ⟨b3,x3,rfl,l5,u5⟩)
  |(refine aB rfl (gy _ k x3 d1 l5 u5 l2 u2 hk fC) ?_;rintro _ ⟨b4,x4,d4,rfl,⟨l6,u6⟩,l7,u7⟩)
  |exact mh rfl (bF FL FF rfl rfl (Nat.le_refl _) rfl (cQ.refl _)) ⟨_,x4,d4,rfl,⟨l6,u6⟩,l7,u7⟩)
 all_goals (conv=>whnf)
theorem xu (b c:Bool) (k:Nat) (xs ds ys es:Lz) (hl:xs.length≤k) (hx:Us xs) (hm:ds.length≤k) (hd:Us ds) (rW:ys.length≤k) (hy:Us ys) (qm:es.length≤k) (he:Us es) (hk:k≤90000) (fC:2≤k):Tg 236 [iq b xs ds,iq c ys es] (w7 (2 * k+1)):=by
 refine aK ?_
 refine ae Tryz.func236 ?_
 repeat' (conv=>whnf
          first
  |(refine And.intro (by kernel_rfl) ?_)
  |(refine aB rfl (dj _ k xs ds hl hx hm hd (by omega) fC) ?_;rintro _ ⟨b1,x1,d1,rfl,⟨l1,u1⟩,l2,u2⟩)
  |(refine aB rfl (dj _ k ys es rW hy qm he (by omega) fC) ?_;rintro _ ⟨b2,x2,d2,rfl,⟨l3,u3⟩,l4,u4⟩)
  |(refine aB rfl (gz d2) ?_;rintro _ rfl)
  |(refine aB rfl (gz d1) ?_;rintro _ rfl)
  |(refine aB rfl (iE _ _ k x1 d2 l1 u1 l4 u4 (by omega)) ?_;rintro _ ⟨b3,x3,rfl,l5,u5⟩)
  |(refine aB rfl (iE _ _ k x2 d1 l3 u3 l2 u2 (by omega)) ?_;rintro _ ⟨b4,x4,rfl,l6,u6⟩)
  |(refine aB rfl (AP _ _ (2 * k) x3 x4 l5 u5 l6 u6 (by omega)) ?_;rintro _ ⟨b5,x5,rfl,l7,u7⟩)
  |(refine aB rfl (iB d1 d2 u2 u4 (by omega) (by omega)) ?_;rintro _ ⟨x6,rfl,⟨l8,u8,_⟩⟩)
  |(refine aB rfl (gy _ (2 * k+1) x5 x6 l7 u7 (by omega) u8 (by omega) (by omega)) ?_;rintro _ ⟨b7,x7,d7,rfl,⟨l9,u9⟩,FI,I6⟩)
  |exact mh rfl (bF FL FF rfl rfl (Nat.le_refl _) rfl (cQ.refl _)) ⟨_,x7,d7,rfl,⟨l9,u9⟩,FI,I6⟩)
 all_goals (conv=>whnf)
theorem Ez (b c:Bool) (k:Nat) (xs ds ys es:Lz) (hl:xs.length≤k) (hx:Us xs) (hm:ds.length≤k) (hd:Us ds) (rW:ys.length≤k) (hy:Us ys) (qm:es.length≤k) (he:Us es) (hk:k≤90000) (fC:2≤k):Tg 215 [iq b xs ds,iq c ys es] (w7 (2 * k+1)):=by
 refine aK ?_
 refine ae Tryz.func215 ?_
 repeat' (conv=>whnf
          first
  |(refine And.intro (by kernel_rfl) ?_)
  |(refine aB rfl (EA _ k ys es rW hy qm he (by omega) fC) ?_;rintro _ ⟨b2,x2,d2,rfl,⟨l3,u3⟩,l4,u4⟩)
  |(refine aB rfl (xu _ _ k xs ds x2 d2 hl hx hm hd l3 u3 l4 u4 hk fC) ?_;rintro _ ⟨b7,x7,d7,rfl,⟨l9,u9⟩,FI,I6⟩)
  |exact mh rfl (bF FL FF rfl rfl (Nat.le_refl _) rfl (cQ.refl _)) ⟨_,x7,d7,rfl,⟨l9,u9⟩,FI,I6⟩)
 all_goals (conv=>whnf)
theorem EB (b c:Bool) (k:Nat) (xs ds ys es:Lz) (hl:xs.length≤k) (hx:Us xs) (hm:ds.length≤k) (hd:Us ds) (rW:ys.length≤k) (hy:Us ys) (qm:es.length≤k) (he:Us es) (hk:k≤90000) (fC:2≤k):Tg 230 [iq b xs ds,iq c ys es] (w7 (2 * k)):=by
 refine aK ?_
 refine ae Tryz.func230 ?_
 repeat' (conv=>whnf
          first
  |(refine And.intro (by kernel_rfl) ?_)
  |(refine aB rfl (dj _ k xs ds hl hx hm hd (by omega) fC) ?_;rintro _ ⟨b1,x1,d1,rfl,⟨l1,u1⟩,l2,u2⟩)
  |(refine aB rfl (dj _ k ys es rW hy qm he (by omega) fC) ?_;rintro _ ⟨b2,x2,d2,rfl,⟨l3,u3⟩,l4,u4⟩)
  |(refine aB rfl (iE _ _ k x1 x2 l1 u1 l3 u3 (by omega)) ?_;rintro _ ⟨b3,x3,rfl,l5,u5⟩)
  |(refine aB rfl (iB d1 d2 u2 u4 (by omega) (by omega)) ?_;rintro _ ⟨x6,rfl,⟨l8,u8,_⟩⟩)
  |(refine aB rfl (gy _ (2 * k) x3 x6 l5 u5 (by omega) u8 (by omega) (by omega)) ?_;rintro _ ⟨b7,x7,d7,rfl,⟨l9,u9⟩,FI,I6⟩)
  |exact mh rfl (bF FL FF rfl rfl (Nat.le_refl _) rfl (cQ.refl _)) ⟨_,x7,d7,rfl,⟨l9,u9⟩,FI,I6⟩)
 all_goals (conv=>whnf)
theorem EC (b c:Bool) (k:Nat) (xs ds ys es:Lz) (hl:xs.length≤k) (hx:Us xs) (hm:ds.length≤k) (hd:Us ds) (rW:ys.length≤k) (hy:Us ys) (qm:es.length≤k) (he:Us es) (hk:k≤90000) (fC:2≤k):Tg 210 [iq b xs ds,iq c ys es] (It (2 * k)):=by
 refine aK ?_
 refine ae Tryz.func210 ?_
 repeat' (conv=>whnf
          first
  |(refine aG (fun h=>?_) (fun h=>?_))
  |(refine And.intro (by kernel_rfl) ?_)
  |(refine aB rfl (dj _ k xs ds hl hx hm hd (by omega) fC) ?_;rintro _ ⟨b1,x1,d1,rfl,⟨l1,u1⟩,l2,u2⟩)
  |(refine aB rfl (dj _ k ys es rW hy qm he (by omega) fC) ?_;rintro _ ⟨b2,x2,d2,rfl,⟨l3,u3⟩,l4,u4⟩)
  |(refine ag rfl (um k x2 l3 u3 (by omega)) ?_;rintro _ ⟨q,rfl⟩)
  |(refine aB rfl (iB x1 d2 u1 u4 (by omega) (by omega)) ?_;rintro _ ⟨x5,rfl,⟨l7,u7,_⟩⟩)
  |(refine aB rfl (iB d1 x2 u2 u3 (by omega) (by omega)) ?_;rintro _ ⟨x6,rfl,⟨l8,u8,_⟩⟩)
  |(refine aB rfl (gy _ (2 * k) x5 x6 (by omega) u7 (by omega) u8 (by omega) (by omega)) ?_;rintro _ ⟨b7,x7,d7,rfl,⟨l9,u9⟩,FI,I6⟩)
  |exact dA rfl (bF FL FF rfl rfl (Nat.le_refl _) rfl (cQ.refl _)) (bX rfl) ⟨_,x7,d7,_,rfl,⟨l9,u9⟩,FI,I6⟩
  |exact dA rfl (bF FL FF rfl rfl (Nat.le_refl _) rfl (fc (dV (dV .nil)))) (bX rfl) ⟨_,[],[],_,rfl,⟨by simp,Us.nil⟩,by simp,Us.nil⟩)
 all_goals (conv=>whnf)
theorem As (b:Bool) (k:Nat) (xs ds:Lz) (hl:xs.length≤k) (hx:Us xs) (hm:ds.length≤k) (hd:Us ds) (hk:k≤90000) (fC:2≤k):Tg 235 [iq b xs ds] (LZ (k+2)):=by
 refine aK ?_
 refine ae Tryz.func235 ?_
 repeat' (conv=>whnf
          first
  |(refine And.intro (by kernel_rfl) ?_)
  |(refine ag rfl (dj _ k xs ds hl hx hm hd (by omega) fC) ?_;rintro _ ⟨b1,x1,d1,rfl,⟨l1,u1⟩,l2,u2⟩)
  |(refine ag rfl (jQ x1 x1 u1 u1 (by omega) (by omega)) ?_;rintro _ ⟨x2,rfl,⟨l3,u3,_⟩⟩)
  |(refine aB rfl (jQ x2 d1 u3 u2 (by omega) (by omega)) ?_;rintro _ ⟨x3,rfl,⟨l4,u4,_⟩⟩)
  |(refine aB rfl (jQ d1 d1 u2 u2 (by omega) (by omega)) ?_;rintro _ ⟨x4,rfl,⟨l5,u5,_⟩⟩)
  |(refine aB rfl (gE (k+2) x3 x4 (by omega) u4 (by omega) u5 (by omega) (by omega)) ?_;rintro _ ⟨qs,rs,ok,rfl,⟨l6,u6⟩,⟨l7,u7,_⟩,_⟩)
  |(refine ag rfl (gG _ (k+2) qs l6 u6 (by omega)) ?_;rintro _ ⟨c,ws,rfl,l8,u8⟩)
  |exact mh rfl (bF LR KY rfl rfl (Nat.le_refl _) rfl (cQ.refl _)) ⟨_,ws,rfl,l8,u8⟩)
 all_goals (conv=>whnf)
end Go.aS.Cd
end
section
namespace Go.aS.Cd
open Go Go.Proofs
set_option maxRecDepth 100000
theorem LQ:iQ Tryz.prog 325=some true:=by kernel_rfl
theorem KX:cG Tryz.prog 325=some 6:=by kernel_rfl
abbrev dy (k:Nat) (xs ds:Lz):Prop:=(xs.length≤k∧Us xs)∧ds.length≤k∧Us ds
theorem gA {k m:Nat} {xs ds:Lz} (h:dy k xs ds) (hk:k≤m):dy m xs ds:=⟨⟨by have:=h.1.1;omega,h.1.2⟩,by have:=h.2.1;omega,h.2.2⟩
abbrev IQ (f:Nat) (us:List W) (G:List W→Prop):Prop:= ∃ts,Fn Tryz.prog f us [] (aQ ts) []∧(aQ ts).bY=true∧G ts
theorem RO {k:Nat} {b c:Bool} {xs ds ys es:Lz} (h:dy k xs ds) (g:dy k ys es) (hk:k≤90000) (fC:2≤k):IQ 236 [iq b xs ds,iq c ys es] (w7 (2 * k+1)):=xu b c k xs ds ys es h.1.1 h.1.2 h.2.1 h.2.2 g.1.1 g.1.2 g.2.1 g.2.2 hk fC
theorem Mx {k:Nat} {b c:Bool} {xs ds ys es:Lz} (h:dy k xs ds) (g:dy k ys es) (hk:k≤90000) (fC:2≤k):IQ 215 [iq b xs ds,iq c ys es] (w7 (2 * k+1)):=Ez b c k xs ds ys es h.1.1 h.1.2 h.2.1 h.2.2 g.1.1 g.1.2 g.2.1 g.2.2 hk fC
theorem Jk {k:Nat} {b c:Bool} {xs ds ys es:Lz} (h:dy k xs ds) (g:dy k ys es) (hk:k≤90000) (fC:2≤k):IQ 230 [iq b xs ds,iq c ys es] (w7 (2 * k)):=EB b c k xs ds ys es h.1.1 h.1.2 h.2.1 h.2.2 g.1.1 g.1.2 g.2.1 g.2.2 hk fC
theorem WS {k:Nat} {b c:Bool} {xs ds ys es:Lz} (h:dy k xs ds) (g:dy k ys es) (hk:k≤90000) (fC:2≤k):IQ 210 [iq b xs ds,iq c ys es] (It (2 * k)):=EC b c k xs ds ys es h.1.1 h.1.2 h.2.1 h.2.2 g.1.1 g.1.2 g.2.1 g.2.2 hk fC
theorem My {k:Nat} {b:Bool} {xs ds:Lz} (h:dy k xs ds) (hk:k≤90000) (fC:2≤k):IQ 235 [iq b xs ds] (LZ (k+2)):=As b k xs ds h.1.1 h.1.2 h.2.1 h.2.2 hk fC
abbrev BP (b:Bool) (xs ds:Lz) (c:Bool) (ys es:Lz):W:= .agg [.t (tB b), .t (.av 1 xs), .t (.av 1 ds), .t (tB c), .t (.av 1 ys), .t (.av 1 es)]
def PG (k:Nat) (ts:List W):Prop:= ∃b xs ds c ys es,ts=[BP b xs ds c ys es]∧dy k xs ds∧dy k ys es
def ZJ (k:Nat) (ts:List W):Prop:= ∃b xs ds c ys es n,ts=[BP b xs ds c ys es,oI n]∧dy k xs ds∧dy k ys es
theorem K8 (k:Nat):dy k [] []:=⟨⟨by simp,Us.nil⟩,by simp,Us.nil⟩
theorem Gv (x y:Int):Tg 213 [oI x,oI y] (PG 2):=by
 refine aK ?_
 refine ae Tryz.func213 ?_
 repeat' (conv=>whnf
          first
  |(refine ag rfl (Au x 1) ?_;rintro _ ⟨b,xs,ds,q,rfl,h1⟩)
  |(refine ag rfl (Au y 1) ?_;rintro _ ⟨c,ys,es,q2,rfl,h2⟩)
  |exact mh rfl (bF LQ KX rfl rfl (Nat.le_refl _) rfl (cQ.refl _)) ⟨_,xs,ds,_,ys,es,rfl,h1,h2⟩)
 all_goals (conv=>whnf)
theorem EG (k:Nat) (b:Bool) (xs ds:Lz) (c:Bool) (ys es:Lz) (b':Bool) (xs' ds':Lz) (c':Bool) (ys' es':Lz) (h1:dy k xs ds) (h2:dy k ys es) (h3:dy k xs' ds') (h4:dy k ys' es') (hk:k≤90000) (fC:2≤k):Tg 231 [BP b xs ds c ys es,BP b' xs' ds' c' ys' es'] (PG (2 * k+1)):=by
 refine aK ?_
 refine ae Tryz.func231 ?_
 repeat' (conv=>whnf
          first
  |(refine And.intro (by kernel_rfl) ?_)
  |(refine aB rfl (RO h1 h3 hk fC) ?_;rintro _ ⟨b5,x5,d5,rfl,h5⟩)
  |(refine aB rfl (RO h2 h4 hk fC) ?_;rintro _ ⟨b6,x6,d6,rfl,h6⟩)
  |exact mh rfl (bF LQ KX rfl rfl (Nat.le_refl _) rfl (cQ.refl _)) ⟨_,x5,d5,_,x6,d6,rfl,h5,h6⟩)
 all_goals (conv=>whnf)
theorem kD (k:Nat) (b:Bool) (xs ds:Lz) (c:Bool) (ys es:Lz) (b':Bool) (xs' ds':Lz) (c':Bool) (ys' es':Lz) (h1:dy k xs ds) (h2:dy k ys es) (h3:dy k xs' ds') (h4:dy k ys' es') (hk:k≤90000) (fC:2≤k):Tg 192 [BP b xs ds c ys es,BP b' xs' ds' c' ys' es'] (PG (2 * k+1)):=by
 refine aK ?_
 refine ae Tryz.func192 ?_
 repeat' (conv=>whnf
          first
  |(refine And.intro (by kernel_rfl) ?_)
  |(refine aB rfl (Mx h1 h3 hk fC) ?_;rintro _ ⟨b5,x5,d5,rfl,h5⟩)
  |(refine aB rfl (Mx h2 h4 hk fC) ?_;rintro _ ⟨b6,x6,d6,rfl,h6⟩)
  |exact mh rfl (bF LQ KX rfl rfl (Nat.le_refl _) rfl (cQ.refl _)) ⟨_,x5,d5,_,x6,d6,rfl,h5,h6⟩)
 all_goals (conv=>whnf)
theorem Ax (k:Nat) (b:Bool) (xs ds:Lz) (c:Bool) (ys es:Lz) (b':Bool) (xs' ds':Lz) (h1:dy k xs ds) (h2:dy k ys es) (h3:dy k xs' ds') (hk:k≤90000) (fC:2≤k):Tg 232 [BP b xs ds c ys es,iq b' xs' ds'] (PG (2 * k)):=by
 refine aK ?_
 refine ae Tryz.func232 ?_
 repeat' (conv=>whnf
          first
  |(refine And.intro (by kernel_rfl) ?_)
  |(refine aB rfl (Jk h1 h3 hk fC) ?_;rintro _ ⟨b5,x5,d5,rfl,h5⟩)
  |(refine aB rfl (Jk h2 h3 hk fC) ?_;rintro _ ⟨b6,x6,d6,rfl,h6⟩)
  |exact mh rfl (bF LQ KX rfl rfl (Nat.le_refl _) rfl (cQ.refl _)) ⟨_,x5,d5,_,x6,d6,rfl,h5,h6⟩)
 all_goals (conv=>whnf)
theorem rI (k:Nat) (b:Bool) (xs ds:Lz) (c:Bool) (ys es:Lz) (b':Bool) (xs' ds':Lz) (c':Bool) (ys' es':Lz) (h1:dy k xs ds) (h2:dy k ys es) (h3:dy k xs' ds') (h4:dy k ys' es') (hk:k≤40000) (fC:2≤k):Tg 211 [BP b xs ds c ys es,BP b' xs' ds' c' ys' es'] (w7 (4 * k+1)):=by
 refine aK ?_
 refine ae Tryz.func211 ?_
 repeat' (conv=>whnf
          first
  |(refine And.intro (by kernel_rfl) ?_)
  |(refine aB rfl (Jk h1 h4 (by omega) fC) ?_;rintro _ ⟨b5,x5,d5,rfl,h5⟩)
  |(refine aB rfl (Jk h2 h3 (by omega) fC) ?_;rintro _ ⟨b6,x6,d6,rfl,h6⟩)
  |(refine aB rfl (Mx h5 h6 (by omega) (by omega)) ?_;rintro _ ⟨b7,x7,d7,rfl,h7⟩)
  |exact mh rfl (bF FL FF rfl rfl (Nat.le_refl _) rfl (cQ.refl _)) ⟨_,x7,d7,rfl,gA h7 (by omega)⟩)
 all_goals (conv=>whnf)
theorem Gu (k:Nat) (b:Bool) (xs ds:Lz) (c:Bool) (ys es:Lz) (b':Bool) (xs' ds':Lz) (c':Bool) (ys' es':Lz) (r:Bool) (rn rd:Lz) (h1:dy k xs ds) (h2:dy k ys es) (h3:dy k xs' ds') (h4:dy k ys' es') (h5:dy k rn rd) (hk:k≤10000) (fC:2≤k):Tg 212 [BP b xs ds c ys es,BP b' xs' ds' c' ys' es',iq r rn rd] (PG (8 * k+5)):=by
 refine aK ?_
 refine ae Tryz.func212 ?_
 repeat' (conv=>whnf
          first
  |(refine And.intro (by kernel_rfl) ?_)
  |(refine aB rfl (kD k _ _ _ _ _ _ _ _ _ _ _ _ h3 h4 h1 h2 (by omega) fC) ?_;rintro _ ⟨b5,x5,d5,c5,y5,e5,rfl,g1,g2⟩)
  |(refine aB rfl (Ax (2 * k+1) _ _ _ _ _ _ _ _ _ g1 g2 (gA h5 (by omega)) (by omega) (by omega)) ?_;rintro _ ⟨b6,x6,d6,c6,y6,e6,rfl,g3,g4⟩)
  |(refine aB rfl (EG (4 * k+2) _ _ _ _ _ _ _ _ _ _ _ _ (gA h1 (by omega)) (gA h2 (by omega)) (gA g3 (by omega)) (gA g4 (by omega)) (by omega) (by omega)) ?_;rintro _ ⟨b7,x7,d7,c7,y7,e7,rfl,g5,g6⟩)
  |exact mh rfl (bF LQ KX rfl rfl (Nat.le_refl _) rfl (cQ.refl _)) ⟨_,x7,d7,_,y7,e7,rfl,gA g5 (by omega),gA g6 (by omega)⟩)
 all_goals (conv=>whnf)
theorem Ce (b1:Bool) (x1 d1:Lz) (c1:Bool) (y1 e1:Lz) (b2:Bool) (x2 d2:Lz) (c2:Bool) (y2 e2:Lz) (b3:Bool) (x3 d3:Lz) (c3:Bool) (y3 e3:Lz) (b4:Bool) (x4 d4:Lz) (c4:Bool) (y4 e4:Lz) (p1:dy 2 x1 d1) (q1:dy 2 y1 e1) (p2:dy 2 x2 d2) (q2:dy 2 y2 e2) (p3:dy 2 x3 d3) (q3:dy 2 y3 e3) (p4:dy 2 x4 d4) (q4:dy 2 y4 e4):Tg 189 [BP b1 x1 d1 c1 y1 e1,BP b2 x2 d2 c2 y2 e2,BP b3 x3 d3 c3 y3 e3,BP b4 x4 d4 c4 y4 e4] (ZJ 341):=by
 refine aK ?_
 refine ae Tryz.func189 ?_
 repeat' (conv=>whnf
          first
  |(refine aG (fun h=>?_) (fun h=>?_))
  |(refine And.intro (by kernel_rfl) ?_)
  |(refine ag rfl (kD 2 _ _ _ _ _ _ _ _ _ _ _ _ p4 q4 p3 q3 (by omega) (by omega)) ?_;rintro _ ⟨b5,x5,d5,c5,y5,e5,rfl,p5,q5⟩)
  |(refine aB rfl (kD 2 _ _ _ _ _ _ _ _ _ _ _ _ p3 q3 p1 q1 (by omega) (by omega)) ?_;rintro _ ⟨b6,x6,d6,c6,y6,e6,rfl,p6,q6⟩)
  |(refine aB rfl (kD 2 _ _ _ _ _ _ _ _ _ _ _ _ p2 q2 p1 q1 (by omega) (by omega)) ?_;rintro _ ⟨b7,x7,d7,c7,y7,e7,rfl,p7,q7⟩)
  |(refine aB rfl (rI 5 _ _ _ _ _ _ _ _ _ _ _ _ p6 q6 p5 q5 (by omega) (by omega)) ?_;rintro _ ⟨b8,x8,d8,rfl,p8⟩)
  |(refine aB rfl (rI 5 _ _ _ _ _ _ _ _ _ _ _ _ p7 q7 p5 q5 (by omega) (by omega)) ?_;rintro _ ⟨b9,x9,d9,rfl,p9⟩)
  |(refine aB rfl (WS p8 p9 (by omega) (by omega)) ?_;rintro _ ⟨b10,x10,d10,ok,rfl,p10⟩)
  |(refine ag rfl (Gu 42 _ _ _ _ _ _ _ _ _ _ _ _ _ _ _ (gA p1 (by omega)) (gA q1 (by omega)) (gA p2 (by omega)) (gA q2 (by omega)) p10 (by omega) (by omega)) ?_;rintro _ ⟨b11,x11,d11,c11,y11,e11,rfl,WX,q11⟩)
  |exact dA rfl (bF LQ KX rfl rfl (Nat.le_refl _) rfl (cQ.refl _)) (bX rfl) ⟨_,x11,d11,_,y11,e11,_,rfl,WX,q11⟩
  |exact dA rfl (bF LQ KX rfl rfl (Nat.le_refl _) rfl (fc (dV (dV (fc (dV (dV .nil))))))) (bX rfl) ⟨_,[],[],_,[],[],_,rfl,K8 _,K8 _⟩)
 all_goals (conv=>whnf)
theorem kB (k:Nat) (b:Bool) (xs ds:Lz) (h1:dy k xs ds) (hk:k≤90000) (fC:2≤k):Tg 214 [iq b xs ds] GIB:=by
 refine aK ?_
 refine ae Tryz.func214 ?_
 repeat' (conv=>whnf
          first
  |(refine aA (fun h=>?_) (fun h=>?_))
  |(refine aG (fun h=>?_) (fun h=>?_))
  |(refine ag rfl (My h1 hk fC) ?_;rintro _ ⟨c,ys,rfl,l1,u1⟩)
  |(refine ag rfl (wI _ (k+2) ys l1 u1 (by omega)) ?_;rintro _ ⟨n,q,rfl⟩)
  |exact dA rfl (bX rfl) (bX rfl) ⟨_,_,rfl⟩)
 all_goals (conv=>whnf)
def Uk (ts:List W):Prop:= ∃s n,ts=[ij s,oI n]
theorem Cf (k:Nat) (b:Bool) (xs ds:Lz) (c:Bool) (ys es:Lz) (h1:dy k xs ds) (h2:dy k ys es) (hk:k≤90000) (fC:2≤k):Tg 191 [BP b xs ds c ys es] Uk:=by
 refine aK ?_
 refine ae Tryz.func191 ?_
 repeat' (conv=>whnf
          first
  |(refine aG (fun h=>?_) (fun h=>?_))
  |(refine ag rfl (kB k _ _ _ h1 hk fC) ?_;rintro _ ⟨n,q,rfl⟩)
  |(refine ag rfl (kB k _ _ _ h2 hk fC) ?_;rintro _ ⟨n,q,rfl⟩)
  |exact dA rfl (bF Zb UC rfl rfl (Nat.le_refl _) rfl (cQ.refl _)) (bX rfl) ⟨(_,_),_,rfl⟩)
 all_goals (conv=>whnf)
end Go.aS.Cd
end
section
namespace Go.aS.Cd
open Go Go.Proofs
set_option maxRecDepth 100000
def Oq (xs:Lz) (e:List T) (i:Nat):Prop:= ∀j,j < i→xs[j]? ≠some e
theorem Oq.succ {xs:Lz} {e e':List T} {i:Nat} (h:Oq xs e i) (hs:xs[i]? =some e') (hne:e'≠e):Oq xs e (i+1):=by
 intro j hj he
 by_cases eF:j=i
 · subst eF
   rw[hs]at he
   exact hne (Option.some.inj he)
 · exact h j (by omega) he
theorem Oq.all {xs:Lz} {e:List T} {i:Nat} (h:Oq xs e i) (hi:xs.length≤i):e∉xs:=by
 intro he
 obtain⟨j,hj,rfl⟩:=List.getElem_of_mem he
 exact h j (by omega) (by simp[hj])
theorem GJ {a b c d:Int} (h:(a==c&& (b==d&&true))=false):([tI c,tI d]:List T)≠ [tI a,tI b]:=by
 intro he
 simp only[List.cons.injEq,T.val.injEq,Value.int.injEq,true_and,and_true]at he
 simp[he.1,he.2]at h
def VG (xs:Lz) (e:List T) (m:Nat) (vs:List V):Prop:= ∃i:Nat,i≤xs.length∧Oq xs e i∧m=xs.length - i∧vs=[iV .i64 (i:Int)]
theorem VG.next {xs:Lz} {e e':List T} {i:Nat} (h:i < xs.length) (hl:xs.length≤1000000) (ha:Oq xs e i) (hs:xs[((i:Int)).toNat]? =some e') (hne:e'≠e):VG xs e (xs.length - (i+1)) [iV .i64 (IntKind.i64.wrap ((i:Int)+1))]:=
 ⟨i+1,h,ha.succ (by simpa using hs) hne,rfl,by rw[aa (by omega) (by omega)];rfl⟩
theorem G0 (xs:Lz) (a b:Int) (hx:bZ xs) (hl:xs.length≤1000000):Tg 139 [oL 2 xs,ij (a,b)] (nP (fun n=> -1≤n∧(n < 0→[tI a,tI b]∉xs))):=by
 refine ae Tryz.func139 ?_
 repeat' (conv=>whnf
          first
  |(refine aA (fun h=>?_) (fun h=>?_))
  |(refine aG (fun h=>?_) (fun h=>?_))
  |(refine au hx (by first|omega|exact cC (by first|omega|(simp (disch:=omega) only[aa];omega))|(simp (disch:=omega) only[aa];omega)) (by first|omega|exact cr (by omega)|(simp (disch:=omega) only[aa];omega)) ?_;rintro _ ⟨c,d,rfl⟩ hs)
  |(refine And.intro (by kernel_rfl) ?_)
  |(refine iK rfl rfl ⟨by omega,fun h=>?_⟩;first|(exfalso;omega)|exact ha.all (by omega))
  |(apply aL [0,3,7,8] [] [8] (VG xs [tI a,tI b]) (xs.length) [iV .i64 0];(conv=>whnf);exact⟨rfl,rfl,rfl,rfl⟩;exact rfl;exact rfl;exact⟨0,by omega,fun j hj=>by omega,rfl,rfl⟩;rintro _ _ ⟨i,hi,ha,rfl,rfl⟩)
  |(refine aj [0,3,7,8] [] ?_;(conv=>whnf);exact⟨rfl,_,[_],VG.next (by omega) hl ha hs (GJ h),rfl,rfl,rfl,by omega⟩))
 all_goals (conv=>whnf)
theorem Bu (xs:Lz) (a b:Int) (hx:bZ xs) (hl:xs.length≤1000000):Tg 106 [oL 2 xs,ij (a,b)] (ZL ([tI a,tI b]∉xs)):=by
 refine ae Tryz.func106 ?_
 repeat' (conv=>whnf
          first
  |(refine ag rfl (G0 xs _ _ hx hl) ?_;rintro _ ⟨n,rfl,rV,hn⟩)
  |exact gBq rfl rfl (fun h=>hn (by simpa using h)))
 all_goals (conv=>whnf)
def FN (xs:Lz) (n:Nat):Prop:= ∀j e,j < n→xs[j]? =some e→e∉xs.take j
theorem FN.succ {xs:Lz} {i:Nat} {e:List T} (h:FN xs i) (hs:xs[i]? =some e) (hn:e∉xs.take i):FN xs (i+1):=by
 intro j e' hj he
 by_cases eF:j=i
 · subst eF
   rw[hs]at he
   rw[←Option.some.inj he];exact hn
 · exact h j e' (by omega) he
def KB (xs:Lz) (m:Nat) (vs:List V):Prop:= ∃i:Nat,i≤xs.length∧FN xs i∧m=xs.length - i∧vs=[iV .i64 (i:Int)]
theorem KB.next {xs:Lz} {e:List T} {i:Nat} (h:i < xs.length) (hl:xs.length≤1000000) (ha:FN xs i) (hs:xs[((i:Int)).toNat]? =some e) (hne:e∉ (xs.drop 0).take ((i:Int).toNat - 0)):KB xs (xs.length - (i+1)) [iV .i64 (IntKind.i64.wrap ((i:Int)+1))]:=
 ⟨i+1,h,ha.succ (by simpa using hs) (by simpa using hne),rfl,by rw[aa (by omega) (by omega)];rfl⟩
def Un (p:Prop) (ts:List W):Prop:= ∃b,ts=[.one (.t (.val (.bool b)))]∧(b=true→p)
theorem O4 {P:Program} {rs:List ResultVar} {tm:TS} {hp:HS} {t:Nat} {b:Bool} {p:Prop} (hr:rs=[.tmp t]) (h:find tm t=some (bV b)) (hp2:b=true→p): ∃us ts,aM P hp tm rs=some us∧bu (bB hp) us=some ts∧Un p ts:=g1 hr h ⟨b,rfl,hp2⟩
theorem J9 {xs:Lz} {i:Nat} (h:FN xs i) (hi:xs.length≤i):FN xs xs.length:=fun j e hj he=>h j e (by omega) he
theorem B8 (xs:Lz) (hx:bZ xs) (hl:xs.length≤1000000):Tg 81 [oL 2 xs] (Un (FN xs xs.length)):=by
 refine ae Tryz.func81 ?_
 repeat' (conv=>whnf
          first
  |(refine aA (fun h=>?_) (fun h=>?_))
  |(refine bR (fun h=>?_) (fun h=>?_))
  |(refine aG (fun h=>?_) (fun h=>?_))
  |(refine eW (by omega) (by omega) ?_)
  |(refine au hx (by first|omega|exact cC (by first|omega|(simp (disch:=omega) only[aa];omega))|(simp (disch:=omega) only[aa];omega)) (by first|omega|exact cr (by omega)|(simp (disch:=omega) only[aa];omega)) ?_;rintro _ ⟨a,b,rfl⟩ hs)
  |(refine And.intro (by kernel_rfl) ?_)
  |(refine And.intro (by omega) ?_)
  |(refine aB rfl (Bu _ _ _ (dR hx _ _) (nu hl _ _)) ?_;rintro _ ⟨cb,rfl,hc⟩)
  |(refine aB rfl (mG (_,_) (_,_) (_,_)) ?_;rintro _ ⟨b,rfl⟩)
  |(refine aB rfl (pC (_,_) (_,_) (_,_) (_,_)) ?_;rintro _ ⟨b,rfl⟩)
  |(refine O4 rfl rfl ?_;first|(intro _;exact J9 ha (by omega))|(intro hf;exact absurd hf (by simp)))
  |(apply aL [0,3,6,7,8,9,25,26,27] [] [9] (fun m vs=> ∃j:Nat,i+2≤j∧m=xs.length+2 - j∧j≤xs.length+2∧vs=[iV .i64 j]) (xs.length - i) [iV .i64 (IntKind.i64.wrap ((i:Int)+2))];(conv=>whnf);exact⟨rfl,rfl,rfl,rfl⟩;exact rfl;exact rfl;exact⟨i+2,by omega,by omega,by omega,by rw[aa (by omega) (by omega)];rfl⟩;rintro _ _ ⟨j,hj,rfl,hj2,rfl⟩)
  |(refine aj [0,3,6,7,8,9,25,26,27] [] ?_;(conv=>whnf);exact⟨rfl,_,[_],⟨j+1,by omega,rfl,by omega,by rw[aa (by omega) (by omega)];rfl⟩,rfl,rfl,rfl,by omega⟩)
  |(apply aL [0,3,25,26,27] [] [27] (RI xs.length) (xs.length) [iV .i64 0];(conv=>whnf);exact⟨rfl,rfl,rfl,rfl⟩;exact rfl;exact rfl;exact RI.zero;rintro _ _ ⟨i,hi,rfl,rfl⟩)
  |(refine aj [0,3,25,26,27] [] ?_;(conv=>whnf);exact⟨rfl,_,[_],RI.succ (N:=xs.length) (i:=i) (by omega) (by simp only[maxLen];omega),rfl,rfl,rfl,by omega⟩)
  |(apply aL [0,3,12,13,14] [] [14] (KB xs) (xs.length) [iV .i64 0];(conv=>whnf);exact⟨rfl,rfl,rfl,rfl⟩;exact rfl;exact rfl;exact⟨0,by omega,fun j e hj=>by omega,rfl,rfl⟩;rintro _ _ ⟨i,hi,ha,rfl,rfl⟩)
  |(refine aj [0,3,12,13,14] [] ?_;(conv=>whnf);exact⟨rfl,_,[_],KB.next (by omega) hl ha hs (hc (by simp_all)),rfl,rfl,rfl,by omega⟩))
 all_goals (conv=>whnf)
def vX (xs:Lz):Prop:=Iq xs∧FN xs xs.length
theorem dS (xs:Lz) (hx:bZ xs) (hl:xs.length≤1000000):Tg 55 [oL 2 xs] (nP (fun n=>n=0→vX xs)):=by
 refine ae Tryz.func55 ?_
 repeat' (conv=>whnf
          first
  |(refine aA (fun h=>?_) (fun h=>?_))
  |(refine aG (fun h=>?_) (fun h=>?_))
  |(refine ag rfl (dB _ LI xD xs hx hl) ?_;rintro _ ⟨c,rfl,hc⟩)
  |(refine ag rfl (B8 xs hx hl) ?_;rintro _ ⟨d,rfl,hd⟩)
  |(refine iK rfl rfl (fun h0=>?_);first|(exfalso;omega)|exact⟨⟨by omega,by omega,hc (by simp_all)⟩,hd (by simp_all)⟩))
 all_goals (conv=>whnf)
theorem sL (xs:Lz) (hx:bZ xs) (hb:40 < xs.length):Tg 182 [oL 2 xs] (nP (fun n=>n=0→ep xs)):=by
 refine ae Tryz.func182 ?_
 repeat' (conv=>whnf
          first
  |(refine aA (fun h=>?_) (fun h=>?_))
  |(refine iK rfl rfl (fun h0=>?_);exfalso;omega)
  |(exfalso;omega))
 all_goals (conv=>whnf)
theorem lR (xs:Lz) (hx:bZ xs):IQ 182 [oL 2 xs] (nP (fun n=>n=0→ep xs)):=by
 by_cases h:xs.length≤1000000
 · exact uw xs hx h
 · exact sL xs hx (by omega)
theorem Gf (x:Int):IntKind.i64.wrap (1000000 * x)≤9223372036854775806:=by
 simp only[IntKind.wrap,IntKind.bits,IntKind.signed,Bool.true_and]
 split
 · rename_i h;simp at h⊢;omega
 · rename_i h;simp at h⊢;omega
theorem qE (p q:Sp):Tg 206 [ij p,ij q] GI:=by
 refine ae Tryz.func206 ?_
 repeat' (conv=>whnf
          first
  |(refine And.intro (by kernel_rfl) ?_)
  |(refine ag rfl (ww _ (Gf _)) ?_;rintro _ ⟨n,rfl⟩)
  |exact gI rfl rfl)
 all_goals (conv=>whnf)
def GIE (p:Prop) (ts:List W):Prop:= ∃n e,ts=[oI n,oI e]∧(e=0→p)
theorem y9 {xs:Lz} {i:Nat} (hL:ep xs) (h:(i:Int) < IntKind.i64.wrap ((xs.length:Int) - 1)):(i:Int) < (xs.length:Int)∧0≤IntKind.i64.wrap ((i:Int)+1)∧IntKind.i64.wrap ((i:Int)+1) < (xs.length:Int):=by
 have h1:=hL.1
 have h2:=hL.2.1
 rw[bj (n:=(xs.length:Int) - 1) (by omega) (by omega)]at h
 rw[bj (n:=(i:Int)+1) (by omega) (by omega)]
 omega
theorem lQ (xs:Lz) (hx:bZ xs):Tg 185 [oL 2 xs] (GIE (ep xs)):=by
 refine aK ?_
 refine ae Tryz.func185 ?_
 repeat' (conv=>whnf
          first
  |(refine aA (fun h=>?_) (fun h=>?_))
  |(refine bR (fun h=>?_) (fun h=>?_))
  |(refine au hx (n:=(i:Int)) (by omega) (y9 (he (by omega)) h).1 ?_;rintro _ ⟨a,b,rfl⟩ hs)
  |(refine au hx (y9 (he (by omega)) h).2.1 (y9 (he (by omega)) h).2.2 ?_;rintro _ ⟨a,b,rfl⟩ hs)
  |(refine And.intro (by kernel_rfl) ?_)
  |(refine ag rfl (lR xs hx) ?_;rintro _ ⟨e,rfl,he⟩)
  |(refine aB rfl (qE (_,_) (_,_)) ?_;rintro _ ⟨n,rfl⟩)
  |exact dA rfl (bX rfl) (bX rfl) ⟨_,_,rfl,fun h0=>he (by omega)⟩
  |(apply aL [0,5,14,15] [] [5,15] (fun m vs=> ∃ (i:Nat) (s:Int),i≤(IntKind.i64.wrap ((xs.length:Int) - 1)).toNat∧m=(IntKind.i64.wrap ((xs.length:Int) - 1)).toNat - i∧vs=[iV .i64 s,iV .i64 i]) ((IntKind.i64.wrap ((xs.length:Int) - 1)).toNat) [iV .i64 0,iV .i64 0];(conv=>whnf);exact⟨rfl,rfl,rfl,rfl⟩;exact rfl;exact rfl;exact⟨0,0,by omega,rfl,rfl⟩;rintro _ _ ⟨i,s,hi,rfl,rfl⟩)
  |(refine aj [0,5,14,15] [] ?_;(conv=>whnf);exact⟨rfl,_,[_,_],⟨i+1,_,by omega,rfl,by have:=rB ((xs.length:Int) - 1);rw[aa (n:=(i:Int)+1) (by omega) (by omega)];rfl⟩,rfl,rfl,rfl,by omega⟩))
 all_goals (conv=>whnf)
end Go.aS.Cd
end
section
namespace Go.aS.Cd
open Go Go.Proofs
set_option maxRecDepth 100000
def Ow (e:List T):Prop:= ∃s xs,e=[.val (.string s), .av 2 xs]∧s.size≤maxLen∧bZ xs∧xs.length≤maxLen
abbrev jD (es:Lz):Prop:= ∀e,e∈es→Ow e
abbrev W8 (s:ByteArray):W:= .agg [.t (tI 2), .t (tB false), .t iA, .t iA, .t (.val (.string s)), .t iA]
theorem qU (k:Int): ∃ts,Fn Tryz.prog 217 [oI k] [] (aQ ts) []∧(aQ ts).bY=true∧(fun ts=> ∃a b,ts=[oI a,oI b]) ts:=by
 refine aK ?_
 refine ae Tryz.func217 ?_
 repeat' (conv=>whnf
          first
  |(refine aA (fun h=>?_) (fun h=>?_))
  |exact dA rfl (bX rfl) (bX rfl) ⟨_,_,rfl⟩)
 all_goals (conv=>whnf)
theorem Av:IQ 177 [.agg [.t (tB false), .t iA, .t iA], .agg [.t (tB false), .t iA, .t iA]] GI:=
 zB (ED false false 2 [] [] [] [] (by simp) Us.nil (by simp) Us.nil (by simp) Us.nil (by simp) Us.nil (by omega) (by omega)) (.cons (.agg (fc (dV (dV .nil)))) (.cons (.agg (fc (dV (dV .nil)))) .nil))
theorem wM (s:ByteArray) (hs:s.size≤maxLen):Tg 197 [W8 s] GB:=by
 refine ae Tryz.func197 ?_
 repeat' (conv=>whnf
          first
  |(refine aA (fun h=>?_) (fun h=>?_))
  |(refine aG (fun h=>?_) (fun h=>?_))
  |(refine ag rfl (qU _) ?_;rintro _ ⟨a,b,rfl⟩)
  |(refine ag rfl (vl s hs) ?_;rintro _ ⟨b,rfl⟩)
  |(refine ag rfl (Av) ?_;rintro _ ⟨n,rfl⟩)
  |exact gB rfl rfl)
 all_goals (conv=>whnf)
theorem wN (s:ByteArray) (hs:s.size≤maxLen) (l:Int):Tg 174 [W8 s,oI l] GI:=by
 refine ae Tryz.func174 ?_
 repeat' (conv=>whnf
          first
  |(refine aA (fun h=>?_) (fun h=>?_))
  |(refine aG (fun h=>?_) (fun h=>?_))
  |(refine ag rfl (wM s hs) ?_;rintro _ ⟨b,rfl⟩)
  |exact gI rfl rfl
  |(apply aL [1,14,15,16] [] [16] (RI 0) (0) [iV .i64 0];(conv=>whnf);exact⟨rfl,rfl,rfl,rfl⟩;exact rfl;exact rfl;exact RI.zero;rintro _ _ ⟨i,hi,rfl,rfl⟩))
 all_goals (conv=>whnf)
theorem n9 (s:ByteArray) (hs:s.size≤maxLen):Tg 156 [W8 s] GI:=by
 refine ae Tryz.func156 ?_
 repeat' (conv=>whnf
          first
  |(refine ag rfl (wN s hs _) ?_;rintro _ ⟨b,rfl⟩)
  |exact gI rfl rfl)
 all_goals (conv=>whnf)
theorem uC (s:ByteArray) (hs:s.size≤maxLen):Tg 181 [oS s] GB:=by
 refine ae Tryz.func181 ?_
 repeat' (conv=>whnf
          first
  |(refine ag rfl (n9 s hs) ?_;rintro _ ⟨b,rfl⟩)
  |exact gB rfl rfl)
 all_goals (conv=>whnf)
theorem ph (s:ByteArray) (hs:s.size≤maxLen):Tg 129 [oS s] GB:=by
 refine ae Tryz.func129 ?_
 repeat' (conv=>whnf
          first
  |(refine ag rfl (n9 s hs) ?_;rintro _ ⟨b,rfl⟩)
  |exact gB rfl rfl)
 all_goals (conv=>whnf)
end Go.aS.Cd
end
section
namespace Go.aS.Cd
open Go Go.Proofs
set_option maxRecDepth 100000
set_option maxHeartbeats 1000000
theorem L9 {sz:Nat} {xs:Lz} {l h:Nat} {K:C→Prop} (h1:l < h) (h2:h≤xs.length) (hk: ∀y ys,(xs.drop l).take (h - l)=y::ys→K (.t (.av sz (y::ys)))):(l≤h∧h≤xs.length)∧rf (.t (.av sz xs)) l h K:=by
 refine eW (by omega) h2 ?_
 have hlen:((xs.drop l).take (h - l)).length=h - l:=by simp;omega
 match hm:(xs.drop l).take (h - l)with
 | []=>rw[hm]at hlen;simp at hlen;omega
 |y::ys=>exact hk y ys hm
def ln (e:List T):Nat:=
 match e with
 | [_, .av _ xs]=>xs.length - 1
 |_=>0
def gP:Lz→Nat
 | []=>0
 |e::r=>ln e+gP r
theorem xG: ∀ (es:Lz) (e:List T),gP (es++[e])=gP es+ln e
 | [],e=>by simp[gP]
 |x::r,e=>by simp only[List.cons_append,gP,xG r e];omega
theorem xF {es:Lz} {i:Nat} {e:List T} (h:es[i]? =some e):gP (es.take (i+1))=gP (es.take i)+ln e:=by
 rw[ic h,xG]
def vt (e:List T):Lz:=
 match e with
 | [_, .av _ xs]=>xs.take (xs.length - 1)
 |_=>[]
def gp:Lz→Lz
 | []=>[]
 |e::r=>vt e++gp r
theorem tN: ∀ (es:Lz) (e:List T),gp (es++[e])=gp es++vt e
 | [],e=>by simp[gp]
 |x::r,e=>by simp only[List.cons_append,gp,tN r e,List.append_assoc]
theorem B2 {es:Lz} {i:Nat} {e:List T} (h:es[i]? =some e):gp (es.take (i+1))=gp (es.take i)++vt e:=by
 rw[ic h,tN]
def BN (e:List T):Prop:= ∃s xs,e=[.val (.string s), .av 2 xs]∧ep xs
theorem GP: ∀ {es:Lz},(∀e,e∈es→BN e)→gP es≤39 * es.length
 | [],_=>by simp[gP]
 |e::r,h=>by
  obtain⟨s,xs,rfl,hl⟩:=h e List.mem_cons_self
  have h1:=hl.2.1
  have:=GP (es:=r) (fun q hq=>h q (List.mem_cons_of_mem _ hq))
  simp only[gP,ln,List.length_cons]
  omega
theorem ep.Em {xs:Lz} (h:ep xs):bZ xs:=fun e he=>by
 obtain⟨a,b,rfl,_⟩:=h.2.2 e he
 exact⟨a,b,rfl⟩
def Vr (es:Lz) (m:Nat) (ws:List V) (xss:List (Lz)):Prop:= ∃ (i:Nat) (zs:Lz),i≤es.length∧m=es.length - i∧ws=[bG 4 2 zs.length,iV .i64 (i:Int)]∧xss=[zs]∧zs.length=gP (es.take i)∧bZ zs∧zs=gp (es.take i)
theorem Vr.next {es zs:Lz} {i k:Nat} {s:ByteArray} {xs ys:Lz} {y:List T} (hi:(i:Int) < (es.length:Int)) (he:es.length≤16) (hs:es[((i:Int)).toNat]? =some [.val (.string s), .av 2 xs]) (hl:ep xs) (hz:zs.length=gP (es.take i)) (hU:bZ zs) (hv:zs=gp (es.take i))
 (hc:(xs.drop 0).take ((IntKind.i64.wrap ((xs.length:Int) - 1)).toNat - 0)=y::ys) (hk:k=zs.length+(ys.length+1)):Vr es (es.length - (i+1)) [bG 4 2 k,iV .i64 (IntKind.i64.wrap ((i:Int)+1))] [zs++y::ys]:=by
 have h1:=hl.1
 have h2:=hl.2.1
 have Cy:xs.take (xs.length - 1)=y::ys:=by
  rw[bj (by omega) (by omega)]at hc
  simpa using hc
 have hlen:ys.length+1=xs.length - 1:=by
  have:=congrArg List.length Cy
  simp at this
  omega
 refine⟨i+1,_,by omega,rfl,by rw[bj (by omega) (by omega),hk];simp[Nat.add_assoc],rfl,?_,?_,?_⟩
 · rw[xF (by simpa using hs)]
   simp only[ln,List.length_append,List.length_cons]
   omega
 · intro e he'
   simp only[List.mem_append]at he'
   rcases he' with he'|he'
   · exact hU e he'
   · rw[←Cy]at he'
     exact hl.Em e (List.mem_of_mem_take he')
 · rw[B2 (by simpa using hs),hv]
   simp only[vt,Cy]
theorem qI {es:Lz} (h: ∀e,e∈es→BN e) (i:Nat) (hl:es.length≤16):gP (es.take i)≤640:=by
 have:=GP (es:=es.take i) (fun e he=>h e (List.mem_of_mem_take he))
 have h2:(es.take i).length≤es.length:=by simp;omega
 omega
theorem N7 {es zs xs ys:Lz} {y:List T} {i:Nat} (hz:zs.length=gP (es.take i)) (hb:gP (es.take i)≤640) (hc:(xs.drop 0).take ((IntKind.i64.wrap ((xs.length:Int) - 1)).toNat - 0)=y::ys) (hL:ep xs):
 zs.length=(tr zs).length∧((tr zs).length+((ys.map fun e=>e.map C.t).length+1)) * 16≤aU∧(tr zs).length+((ys.map fun e=>e.map C.t).length+1)≤maxLen:=by
 have h1:=hL.2.1
 have hlen:=congrArg List.length hc
 simp only[List.length_take,List.length_drop,List.length_cons]at hlen
 have hy:ys.length≤40:=by omega
 clear hlen hc
 refine⟨by simp[tr],?_,?_⟩
 · simp only[tr,List.length_map,aU];omega
 · simp only[tr,List.length_map,maxLen];omega
theorem Md {es zs:Lz} {i:Nat} (hz:zs.length=gP (es.take i)) (hU:bZ zs) (hv:zs=gp (es.take i)) (hi:es.length≤i):(zs.drop 0).take zs.length=gp es∧((zs.drop 0).take zs.length).length=gP es∧bZ ((zs.drop 0).take zs.length):=by
 rw[List.take_of_length_le hi]at hz hv
 simp only[List.drop_zero,List.take_length]
 exact⟨hv,hz,hU⟩
theorem kE (es:Lz) (he: ∀e,e∈es→BN e) (hl:es.length≤16):Tg 183 [oL 2 es] (GL 2 (fun vs=>vs=gp es∧vs.length=gP es∧bZ vs)):=by
 refine aK ?_
 refine ae Tryz.func183 ?_
 repeat' (conv=>whnf
          first
  |(refine aA (fun h=>?_) (fun h=>?_))
  |(refine au he (by omega) (by omega) ?_;rintro _ ⟨s,xs,rfl,hL⟩ hs)
  |(refine L9 (by have:=hL.1;have:=hL.2.1;simp (disch:=omega) only[aa];omega) (by have:=hL.1;have:=hL.2.1;simp (disch:=omega) only[aa];omega) ?_;intro y ys JW)
  |(refine And.intro (by have:=hL.1;have:=hL.2.1;simp (disch:=omega) only[aa];omega) ?_)
  |(refine And.intro (N7 hz (qI he i hl) JW hL) ?_)
  |exact mh rfl (eR rfl rfl (xs:=zs) rfl (by omega)) ⟨_,rfl,Md hz hU hv (by omega)⟩
  |(apply eP [3,6,7,8] [] [3,8] [(4,2)] (Vr es) (es.length) [bG 4 2 0,iV .i64 0] (dP.iU 3 2 rfl);(conv=>whnf);exact⟨rfl,rfl,rfl,rfl⟩;exact rfl;exact rfl;exact .cons (az.ak az.nil _) .nil;exact⟨0,[],by omega,rfl,rfl,rfl,by simp[gP],(fun e he=>by simp at he),by simp[gp]⟩;rintro _ _ _ ⟨i,zs,hi,rfl,rfl,rfl,hz,hU,hv⟩)
  |(refine aj [3,6,7,8] [] ?_;(conv=>whnf);exact⟨rfl,_,[_,_],_, .cons (az.ak (az.IP (xs:=zs) rfl (y::ys)) _) .nil,Vr.next (by omega) hl hs hL hz hU hv JW (by simp[tr]),rfl,rfl,by omega⟩))
 all_goals (conv=>whnf)
def sD (es:Lz):Prop:=(2≤es.length∧es.length≤16)∧(∀e,e∈es→BN e)∧vX (gp es)∧(gp es).length=gP es
def D8 (es:Lz) (i:Nat):Prop:= ∀j e,j < i→es[j]? =some e→BN e
theorem D8.all {es:Lz} {i:Nat} (h:D8 es i) (hi:es.length≤i): ∀e,e∈es→BN e:=by
 intro e he
 obtain⟨j,hj,rfl⟩:=List.getElem_of_mem he
 exact h j _ (by omega) (by simp[hj])
def VH (es:Lz) (m:Nat) (vs:List V):Prop:= ∃i:Nat,i≤es.length∧D8 es i∧m=es.length - i∧vs=[iV .i64 (i:Int)]
theorem VH.next {es:Lz} {i:Nat} {s:ByteArray} {xs:Lz} (hi:(i:Int) < (es.length:Int)) (hl:es.length≤16) (h:D8 es i) (hs:es[((i:Int)).toNat]? =some [.val (.string s), .av 2 xs]) (hL:ep xs):VH es (es.length - (i+1)) [iV .i64 (IntKind.i64.wrap ((i:Int)+1))]:=by
 refine⟨i+1,by omega,fun j e hj he=>?_,rfl,by rw[bj (by omega) (by omega)];rfl⟩
 by_cases eF:j=i
 · subst eF
   have hs':es[j]? =some [.val (.string s), .av 2 xs]:=by simpa using hs
   rw[hs']at he
   exact⟨s,xs,(Option.some.inj he).symm,hL⟩
 · exact h j e (by omega) he
theorem j8 (es:Lz) (he:jD es) (hm:es.length≤maxLen):Tg 160 [oL 2 es] (nP (fun n=>n=0→sD es)):=by
 refine ae Tryz.func160 ?_
 repeat' (conv=>whnf
          first
  |(refine aA (fun h=>?_) (fun h=>?_))
  |(refine bR (fun h=>?_) (fun h=>?_))
  |(refine aG (fun h=>?_) (fun h=>?_))
  |(refine eW (Nat.zero_le _) (by omega) ?_)
  |(refine au (xs:=es) (n:=(i:Int)) he (by omega) (by omega) ?_;rintro _ ⟨s,xs,rfl,hsz,hsp,hxl⟩ hs)
  |(refine au (dR he 0 _) (n:=(j:Int)) (by omega) (by omega) ?_;rintro _ ⟨s2,xs2,rfl,JM,alE,akT⟩ bO)
  |(refine au (xs:=es) (n:=(k:Int)) (hp.all (by omega)) (by omega) (by omega) ?_;rintro _ ⟨s3,xs3,rfl,Tx⟩ IF)
  |(refine au (xs:=es) (hp.all (by omega)) (cC (by rw[bj (by omega) (by omega)];omega)) (cr (by omega)) ?_;rintro _ ⟨s4,xs4,rfl,hL4⟩ hs4)
  |(refine au (xs:=xs3) Tx.Em (by have:=Tx.1;have:=Tx.2.1;rw[bj (by omega) (by omega)];omega) (by have:=Tx.1;have:=Tx.2.1;rw[bj (by omega) (by omega)];omega) ?_;rintro _ ⟨a,b,rfl⟩ hs5)
  |(refine au (xs:=xs4) hL4.Em (by omega) (by have:=hL4.1;omega) ?_;rintro _ ⟨a,b,rfl⟩ XQ)
  |(refine And.intro (by kernel_rfl) ?_)
  |(refine And.intro (by omega) ?_)
  |(refine ag rfl (uC s hsz) ?_;rintro _ ⟨b,rfl⟩)
  |(refine ag rfl (lR xs hsp) ?_;rintro _ ⟨c,rfl,hc⟩)
  |(refine ag rfl (kE es (hp.all (by omega)) (by omega)) ?_;rintro _ ⟨vs,rfl,rfl,hvl,hvs⟩)
  |(refine ag rfl (dS (gp es) hvs (by have:=GP (hp.all (by omega));omega)) ?_;rintro _ ⟨d,rfl,hd⟩)
  |(refine iK rfl rfl (fun h0=>?_);first|(exfalso;omega)|exact⟨⟨by omega,by omega⟩,hp.all (by omega),hd (by omega),hvl⟩)
  |(apply aL [0,49,50,51] [] [51] (RI es.length) (es.length) [iV .i64 0];(conv=>whnf);exact⟨rfl,rfl,rfl,rfl⟩;exact rfl;exact rfl;exact RI.zero;rintro _ _ ⟨k,hk,rfl,rfl⟩)
  |(refine aj [0,49,50,51] [] ?_;(conv=>whnf);exact⟨rfl,_,[_],RI.succ (N:=es.length) (i:=k) (by omega) hm,rfl,rfl,rfl,by omega⟩)
  |(apply aL [0,4,17,18,19,30,31,32] [] [32] (RI ((es.drop 0).take ((i:Int).toNat - 0)).length) (((es.drop 0).take ((i:Int).toNat - 0)).length) [iV .i64 0];(conv=>whnf);exact⟨rfl,rfl,rfl,rfl⟩;exact rfl;exact rfl;exact RI.zero;rintro _ _ ⟨j,hj,rfl,rfl⟩)
  |(refine aj [0,4,17,18,19,30,31,32] [] ?_;(conv=>whnf);exact⟨rfl,_,[_],RI.succ (N:=((es.drop 0).take ((i:Int).toNat - 0)).length) (i:=j) (by omega) (nu hm _ _),rfl,rfl,rfl,by omega⟩)
  |(apply aL [0,17,18,19] [] [19] (VH es) (es.length) [iV .i64 0];(conv=>whnf);exact⟨rfl,rfl,rfl,rfl⟩;exact rfl;exact rfl;exact⟨0,by omega,fun j e hj=>by omega,rfl,rfl⟩;rintro _ _ ⟨i,hi,hp,rfl,rfl⟩)
  |(refine aj [0,17,18,19] [] ?_;(conv=>whnf);exact⟨rfl,_,[_],VH.next (by omega) (by omega) hp hs (hc (by omega)),rfl,rfl,rfl,by omega⟩))
 all_goals (conv=>whnf)
def KP (sz:Nat) (p:Lz→Prop) (ts:List W):Prop:= ∃xs e,ts=[oL sz xs,oI e]∧(e=0→p xs)
theorem lT (es:Lz) (he:jD es) (hm:es.length≤maxLen):Tg 165 [oL 2 es] (KP 2 (fun vs=>vs=gp es∧sD es)):=by
 refine aK ?_
 refine ae Tryz.func165 ?_
 repeat' (conv=>whnf
          first
  |(refine bR (fun h=>?_) (fun h=>?_))
  |(refine ag rfl (j8 es he hm) ?_;rintro _ ⟨e,rfl,hc⟩)
  |(refine ag rfl (kE es (hc (by omega)).2.1 (hc (by omega)).1.2) ?_;rintro _ ⟨vs,rfl,rfl,hvl,hvs⟩)
  |exact dA rfl (bX rfl) (bX rfl) ⟨_,_,rfl,fun _=>⟨rfl,hc (by omega)⟩⟩
  |exact dA rfl (bP 2 rfl) (bX rfl) ⟨_,_,rfl,fun h0=>absurd h0 (by omega)⟩)
 all_goals (conv=>whnf)
end Go.aS.Cd
end
section
namespace Go.aS.Cd
open Go Go.Proofs
set_option maxRecDepth 100000
def Zq (e:List T):Prop:= ∃s,e=[.val (.string s)]∧s.size≤maxLen
abbrev T0 (xs:Lz):Prop:= ∀e,e∈xs→Zq e
theorem my (xs:Lz) (s:ByteArray) (hx:T0 xs) (hl:xs.length≤maxLen):Tg 202 [oL 1 xs,oS s] GI:=by
 refine ae Tryz.func202 ?_
 repeat' (conv=>whnf
          first
  |(refine aA (fun h=>?_) (fun h=>?_))
  |(refine aG (fun h=>?_) (fun h=>?_))
  |(refine au hx (by first|omega|exact cC (by first|omega|(simp (disch:=omega) only[aa];omega))|(simp (disch:=omega) only[aa];omega)) (by first|omega|exact cr (by omega)|(simp (disch:=omega) only[aa];omega)) ?_;rintro _ ⟨s2,rfl,bO⟩ hs)
  |exact gI rfl rfl
  |(apply aL [0,1,7,8] [] [8] (RI xs.length) (xs.length) [iV .i64 0];(conv=>whnf);exact⟨rfl,rfl,rfl,rfl⟩;exact rfl;exact rfl;exact RI.zero;rintro _ _ ⟨i,hi,rfl,rfl⟩)
  |(refine aj [0,1,7,8] [] ?_;(conv=>whnf);exact⟨rfl,_,[_],RI.succ (N:=xs.length) (i:=i) (by omega) hl,rfl,rfl,rfl,by omega⟩))
 all_goals (conv=>whnf)
theorem kw (xs:Lz) (s:ByteArray) (hx:T0 xs) (hl:xs.length≤maxLen):Tg 178 [oL 1 xs,oS s] GB:=by
 refine ae Tryz.func178 ?_
 repeat' (conv=>whnf
          first
  |(refine ag rfl (my xs s hx hl) ?_;rintro _ ⟨n,rfl⟩)
  |exact gB rfl rfl)
 all_goals (conv=>whnf)
abbrev oCh (ss:Lz) (b:Int):W:= .agg [.t (.av 1 ss), .t (tI b), .t iA]
theorem wU (ss:Lz) (b k:Int):Tg 180 [oCh ss b,oI k] GB:=by
 refine ae Tryz.func180 ?_
 repeat' (conv=>whnf
          first
  |(refine aA (fun h=>?_) (fun h=>?_))
  |exact gB rfl rfl)
 all_goals (conv=>whnf)
theorem Bx (ss:Lz) (b:Int) (hx:T0 ss) (hl:ss.length≤maxLen):Tg 157 [oCh ss b] GI:=by
 refine ae Tryz.func157 ?_
 repeat' (conv=>whnf
          first
  |(refine aA (fun h=>?_) (fun h=>?_))
  |(refine aG (fun h=>?_) (fun h=>?_))
  |(refine eW (Nat.zero_le _) (by omega) ?_)
  |(refine au hx (by first|omega|exact cC (by first|omega|(simp (disch:=omega) only[aa];omega))|(simp (disch:=omega) only[aa];omega)) (by first|omega|exact cr (by omega)|(simp (disch:=omega) only[aa];omega)) ?_;rintro _ ⟨s2,rfl,bO⟩ hs)
  |(refine And.intro (by omega) ?_)
  |(refine ag rfl (zM s2 bO) ?_;rintro _ ⟨b,rfl⟩)
  |(refine ag rfl (kw _ s2 (dR hx _ _) (nu hl _ _)) ?_;rintro _ ⟨b,rfl⟩)
  |(refine ag rfl (wU ss b _) ?_;rintro _ ⟨b,rfl⟩)
  |exact gI rfl rfl
  |(apply aL [1,82,83,84] [] [84] (RI 0) (0) [iV .i64 0];(conv=>whnf);exact⟨rfl,rfl,rfl,rfl⟩;exact rfl;exact rfl;exact RI.zero;rintro _ _ ⟨i,hi,rfl,rfl⟩)
  |(apply aL [1,67,68,69] [] [69] (RI ss.length) (ss.length) [iV .i64 0];(conv=>whnf);exact⟨rfl,rfl,rfl,rfl⟩;exact rfl;exact rfl;exact RI.zero;rintro _ _ ⟨i,hi,rfl,rfl⟩)
  |(refine aj [1,67,68,69] [] ?_;(conv=>whnf);exact⟨rfl,_,[_],RI.succ (N:=ss.length) (i:=i) (by omega) hl,rfl,rfl,rfl,by omega⟩)
  |(apply aL [1,37,38,39] [] [39] (RI 0) (0) [iV .i64 0];(conv=>whnf);exact⟨rfl,rfl,rfl,rfl⟩;exact rfl;exact rfl;exact RI.zero;rintro _ _ ⟨i,hi,rfl,rfl⟩)
  |(apply aL [1,26,27,28] [] [28] (RI ss.length) (ss.length) [iV .i64 0];(conv=>whnf);exact⟨rfl,rfl,rfl,rfl⟩;exact rfl;exact rfl;exact RI.zero;rintro _ _ ⟨i,hi,rfl,rfl⟩)
  |(refine aj [1,26,27,28] [] ?_;(conv=>whnf);exact⟨rfl,_,[_],RI.succ (N:=ss.length) (i:=i) (by omega) hl,rfl,rfl,rfl,by omega⟩))
 all_goals (conv=>whnf)
theorem yu (s:ByteArray) (hs:s.size≤maxLen):Tg 130 [oS s] GB:=by
 refine ae Tryz.func130 ?_
 repeat' (conv=>whnf
          first
  |(refine jk (rfl) (Bx [[.val (.string s)]] 0 (by intro e he;simp at he;exact⟨s,he,hs⟩) (by simp[maxLen])) ?_ ?_;(rintro _ ⟨n,rfl⟩;rfl);rintro _ ⟨n,rfl⟩)
  |exact gB rfl rfl)
 all_goals (conv=>whnf)
end Go.aS.Cd
end
section
namespace Go.aS.Cd
open Go Go.Proofs
set_option maxRecDepth 100000
set_option maxHeartbeats 2000000
theorem IU {s:ByteArray} {n:Int} {N B:Nat} {K:UInt8→Prop} (hN:s.size=N) (hQ:(List.range N).all (fun i=>match s[i]? with|some b=>Nat.blt i (2 ^ b.toNat)&&Nat.ble b.toNat B&& (Nat.beq i 0||Nat.ble (2 ^ (b.toNat - 1)) i&&Nat.ble 1 b.toNat)|none=>false)=true) (h0:0≤n) (h1:n < (N:Int))
 (hk: ∀b:UInt8,b.toNat≤B→n.toNat < 2 ^ b.toNat→(n.toNat=0∨(2 ^ (b.toNat - 1)≤n.toNat∧1≤b.toNat))→K b):0≤n∧ ∃b,s[n.toNat]? =some b∧K b:=by
 have hlt:n.toNat < s.size:=by omega
 have h2:=List.all_eq_true.1 hQ n.toNat (by simp;omega)
 have e:s[n.toNat]? =some s[n.toNat]:=by simp[hlt]
 rw[e]at h2
 simp only[Bool.and_eq_true,Bool.or_eq_true,Nat.blt_eq,Nat.ble_eq,Nat.beq_eq]at h2
 exact⟨h0,_,e,hk _ h2.1.2 h2.1.1 h2.2⟩
theorem t8 (x:Int):x.fdiv (2 ^ min (Int.toNat 8) IntKind.u64.bits)=x / 256:=qB x 8 (by omega)
theorem t16 (x:Int):x.fdiv (2 ^ min (Int.toNat 16) IntKind.u64.bits)=x / 65536:=qB x 16 (by omega)
theorem t32 (x:Int):x.fdiv (2 ^ min (Int.toNat 32) IntKind.u64.bits)=x / 4294967296:=qB x 32 (by omega)
theorem AI {x y n D:Int} {k:Nat} {b:UInt8} (hD:(2:Int) ^ k=D) (h0:0≤x) (hk:k≤56) (hy:y=x / D) (xM:1≤y) (Xx:y < 256) (hb:b.toNat≤8) (hq:(IntKind.u8.wrap y).toNat < 2 ^ b.toNat) (hr:(IntKind.u8.wrap y).toNat=0∨(2 ^ (b.toNat - 1)≤(IntKind.u8.wrap y).toNat∧1≤b.toNat)) (hn:n=(k+b.toNat:Nat)):
 (1≤n∧n≤64)∧2 ^ (n.toNat - 1)≤x.toNat∧x.toNat < 2 ^ n.toNat:=by
 rw[u8_in (by omega) Xx]at hq hr
 obtain⟨rT,qN⟩:2 ^ (b.toNat - 1)≤y.toNat∧1≤b.toNat:=by
  rcases hr with h|h
  · omega
  · exact h
 have hDp:D=((2 ^ k:Nat):Int):=by rw[←hD];simp
 have hp:0 < 2 ^ k:=Nat.pow_pos (by omega)
 have hyn:y.toNat=x.toNat / 2 ^ k:=by
  obtain⟨z,rfl⟩: ∃z:Nat,x=(z:Int):=⟨x.toNat,by omega⟩
  rw[hy,hDp]
  have e:(z:Int) / ((2 ^ k:Nat):Int)=((z / 2 ^ k:Nat):Int):=rfl
  rw[e,Int.toNat_natCast,Int.toNat_natCast]
 have e1:n.toNat=k+b.toNat:=by omega
 have e2:n.toNat - 1=(b.toNat - 1)+k:=by omega
 refine⟨⟨by omega,by omega⟩,?_,?_⟩
 · rw[e2,Nat.pow_add]
   have h1:2 ^ (b.toNat - 1) * 2 ^ k≤y.toNat * 2 ^ k:=Nat.mul_le_mul_right _ rT
   have h2:y.toNat * 2 ^ k≤x.toNat:=by rw[hyn];exact Nat.div_mul_le_self _ _
   omega
 · rw[e1,Nat.add_comm,Nat.pow_add]
   rw[hyn]at hq
   exact(Nat.div_lt_iff_lt_mul hp).1 hq
theorem p8:(2:Int) ^ 8=256:=by decide
theorem p16:(2:Int) ^ 16=65536:=by decide
theorem p24:(2:Int) ^ 24=16777216:=by decide
theorem p32:(2:Int) ^ 32=4294967296:=by decide
theorem p40:(2:Int) ^ 40=1099511627776:=by decide
theorem p48:(2:Int) ^ 48=281474976710656:=by decide
theorem p56:(2:Int) ^ 56=72057594037927936:=by decide
theorem C4 (x:Int) (h0:0 < x) (h1:x < 18446744073709551616):Tg 118 [oU x] (nP (fun n=>(1≤n∧n≤64)∧2 ^ (n.toNat - 1)≤x.toNat∧x.toNat < 2 ^ n.toNat)):=by
 refine ae Tryz.func118 ?_
 repeat' (conv=>whnf
          first
  |(refine aA (fun h=>?_) (fun h=>?_))
  |(refine IU (N:=256) (B:=8) (by kernel_rfl) (by kernel_rfl) (OH _).1 (OH _).2 ?_;intro bb BV hq hr)
  |(refine And.intro (by omega) ?_)
  |(refine iK rfl rfl ?_;(try simp only[t8,t16,t32]at *);first|exact AI (k:=0) (y:=x) (D:=1) (by decide) (by omega) (by omega) (by omega) (by omega) (by omega) BV hq hr (by simp (disch:=omega) only[aa];omega)|exact AI p8 (by omega) (by omega) (by omega) (by omega) (by omega) BV hq hr (by simp (disch:=omega) only[aa];omega)|exact AI p16 (by omega) (by omega) (by omega) (by omega) (by omega) BV hq hr (by simp (disch:=omega) only[aa];omega)|exact AI p24 (by omega) (by omega) (by omega) (by omega) (by omega) BV hq hr (by simp (disch:=omega) only[aa];omega)|exact AI p32 (by omega) (by omega) (by omega) (by omega) (by omega) BV hq hr (by simp (disch:=omega) only[aa];omega)|exact AI p40 (by omega) (by omega) (by omega) (by omega) (by omega) BV hq hr (by simp (disch:=omega) only[aa];omega)|exact AI p48 (by omega) (by omega) (by omega) (by omega) (by omega) BV hq hr (by simp (disch:=omega) only[aa];omega)|exact AI p56 (by omega) (by omega) (by omega) (by omega) (by omega) BV hq hr (by simp (disch:=omega) only[aa];omega)))
 all_goals (conv=>whnf)
theorem Sr {x n:Int} (hn:1≤n∧n≤64) (h1:2 ^ (n.toNat - 1)≤x.toNat) (h2:x.toNat < 2 ^ n.toNat):(0≤64 - n∧64 - n≤63)∧9223372036854775808≤x.toNat * 2 ^ (64 - n).toNat∧x.toNat * 2 ^ (64 - n).toNat < 18446744073709551616:=by
 refine⟨by omega,?_,?_⟩
 · have h:2 ^ (n.toNat - 1) * 2 ^ (64 - n).toNat≤x.toNat * 2 ^ (64 - n).toNat:=Nat.mul_le_mul_right _ h1
   rw[←Nat.pow_add,show n.toNat - 1+(64 - n).toNat=63 by omega]at h
   exact h
 · have h:x.toNat * 2 ^ (64 - n).toNat < 2 ^ n.toNat * 2 ^ (64 - n).toNat:=Nat.mul_lt_mul_of_pos_right h2 (Nat.pow_pos (by omega))
   rw[←Nat.pow_add,show n.toNat+(64 - n).toNat=64 by omega]at h
   exact h
theorem kg (x:Int) (h0:0 < x) (h1:x < 18446744073709551616):Tg 227 [oU x] (nP (fun n=>(0≤n∧n≤63)∧9223372036854775808≤x.toNat * 2 ^ n.toNat∧x.toNat * 2 ^ n.toNat < 18446744073709551616)):=by
 refine ae Tryz.func227 ?_
 repeat' (conv=>whnf
          first
  |(refine ag rfl (C4 x h0 h1) ?_;rintro _ ⟨n,rfl,hn,qL,UL⟩)
  |(refine iK rfl rfl ?_;rw[aa (by omega) (by omega)];exact Sr hn qL UL))
 all_goals (conv=>whnf)
theorem If {x:Int} (h0:0≤x) (h1:x < 18446744073709551616):IntKind.u64.wrap ((BitVec.ofInt IntKind.u64.bits x&&& BitVec.ofInt IntKind.u64.bits 4294967295).toNat:Int)=x % 4294967296:=by
 have e: ∀x:Int,0≤x→x < 18446744073709551616→(BitVec.ofInt IntKind.u64.bits x).toNat=x.toNat:=by
  intro x h0 h1
  simp only[BitVec.toNat_ofInt,IntKind.bits]
  congr 1
  omega
 rw[BitVec.toNat_and,e _ h0 h1,e _ (by omega) (by omega)]
 have h:=Nat.and_two_pow_sub_one_eq_mod x.toNat 32
 rw[show(4294967295:Int).toNat=2 ^ 32 - 1 by decide,h,u64_in (by omega) (by omega)]
 omega
theorem MR {x y X0 X1 Y0 Y1 W0 Tt W1 W2 W3 HI:Int} (hx0:0≤x) (hx:x < 18446744073709551616) (hy0:0≤y) (hy:y < 18446744073709551616)
 (e1:X0=IntKind.u64.wrap ((BitVec.ofInt IntKind.u64.bits x&&& BitVec.ofInt IntKind.u64.bits 4294967295).toNat:Int)) (e2:X1=x.fdiv (2 ^ min (Int.toNat 32) IntKind.u64.bits)) (e3:Y0=IntKind.u64.wrap ((BitVec.ofInt IntKind.u64.bits y&&& BitVec.ofInt IntKind.u64.bits 4294967295).toNat:Int)) (e4:Y1=y.fdiv (2 ^ min (Int.toNat 32) IntKind.u64.bits))
 (e5:W0=IntKind.u64.wrap (X0 * Y0)) (e6:Tt=IntKind.u64.wrap (IntKind.u64.wrap (X1 * Y0)+W0.fdiv (2 ^ min (Int.toNat 32) IntKind.u64.bits))) (e7:W1=IntKind.u64.wrap ((BitVec.ofInt IntKind.u64.bits Tt&&& BitVec.ofInt IntKind.u64.bits 4294967295).toNat:Int)) (e8:W2=Tt.fdiv (2 ^ min (Int.toNat 32) IntKind.u64.bits))
 (e9:W3=IntKind.u64.wrap (W1+IntKind.u64.wrap (X0 * Y1))) (e10:HI=IntKind.u64.wrap (IntKind.u64.wrap (IntKind.u64.wrap (X1 * Y1)+W2)+W3.fdiv (2 ^ min (Int.toNat 32) IntKind.u64.bits))):0≤HI∧HI * 18446744073709551616≤x * y:=by
 rw[If hx0 hx]at e1
 rw[If hy0 hy]at e3
 rw[t32]at e2 e4 e6 e8 e10
 obtain⟨a0,a1⟩:=uH (q:=X0) (y:=Y0) (by omega) (by omega) (by omega) (by omega)
 obtain⟨b0,b1⟩:=uH (q:=X1) (y:=Y0) (by omega) (by omega) (by omega) (by omega)
 obtain⟨c0,c1⟩:=uH (q:=X0) (y:=Y1) (by omega) (by omega) (by omega) (by omega)
 obtain⟨d0,d1⟩:=uH (q:=X1) (y:=Y1) (by omega) (by omega) (by omega) (by omega)
 have Ln:x * y=X1 * Y1 * 18446744073709551616+X1 * Y0 * 4294967296+X0 * Y1 * 4294967296+X0 * Y0:=by
  have zg:x=X1 * 4294967296+X0:=by omega
  have hyy:y=Y1 * 4294967296+Y0:=by omega
  rw[zg,hyy]
  grind
 rw[Ln]
 clear Ln e1 e2 e3 e4
 generalize X0 * Y0=p00 at *
 generalize X1 * Y0=p10 at *
 generalize X0 * Y1=p01 at *
 generalize X1 * Y1=WX at *
 rw[u64_in a0 (by omega)]at e5
 rw[u64_in b0 (by omega),u64_in (by omega) (by omega)]at e6
 rw[If (by omega) (by omega)]at e7
 rw[u64_in c0 (by omega),u64_in (by omega) (by omega)]at e9
 rw[u64_in d0 (by omega),u64_in (n:=WX+W2) (by omega) (by omega),u64_in (by omega) (by omega)]at e10
 omega
theorem sO (x y:Int) (hx0:0≤x) (hx:x < 18446744073709551616) (hy0:0≤y) (hy:y < 18446744073709551616): ∃ts,Fn Tryz.prog 207 [oU x,oU y] [] (aQ ts) []∧(aQ ts).bY=true∧(fun ts=> ∃hi lo,ts=[oU hi,oU lo]∧(0≤hi∧hi * 18446744073709551616≤x * y)∧0≤lo∧lo < 18446744073709551616) ts:=by
 refine aK ?_
 refine ae Tryz.func207 ?_
 repeat' (conv=>whnf
          first
  |(refine And.intro (by omega) ?_)
  |exact dA rfl (bX rfl) (bX rfl) ⟨_,_,rfl,MR hx0 hx hy0 hy rfl rfl rfl rfl rfl rfl rfl rfl rfl rfl,jm _,kW _⟩)
 all_goals (conv=>whnf)
theorem yK {a b:Int} (ha0:0≤a) (ha:a < 18446744073709551616) (hb0:0 < b) (hb:b < 4294967296):0≤IntKind.u64.wrap (a - IntKind.u64.wrap (IntKind.u64.wrap (a.tdiv b) * b))∧IntKind.u64.wrap (a - IntKind.u64.wrap (IntKind.u64.wrap (a.tdiv b) * b)) < 4294967296:=by
 obtain⟨q0,q1⟩:=Gp (n:=a) (x:=b) ha0 (by omega)
 have e:=Int.tdiv_eq_ediv_of_nonneg (b:=b) ha0
 have h1:a / b * b≤a:=Int.ediv_mul_le _ (by omega)
 have h2:a - a / b * b < b:=by
  have:=Int.lt_ediv_add_one_mul_self a hb0
  rw[Int.add_mul,Int.one_mul]at this
  omega
 have h3:0≤a / b * b:=Int.mul_nonneg (Int.ediv_nonneg ha0 (by omega)) (by omega)
 rw[e]at q0 q1⊢
 rw[u64_in q0 (by omega),u64_in h3 (by omega),u64_in (by omega) (by omega)]
 omega
theorem Rg {y s:Int} (hy0:0 < y) (hs:0≤s∧s≤63) (h1:9223372036854775808≤y.toNat * 2 ^ s.toNat) (h2:y.toNat * 2 ^ s.toNat < 18446744073709551616):
 0 < (IntKind.u64.wrap (y * 2 ^ (min (IntKind.u64.wrap s).toNat IntKind.u64.bits))).fdiv (2 ^ min (Int.toNat 32) IntKind.u64.bits)∧(IntKind.u64.wrap (y * 2 ^ (min (IntKind.u64.wrap s).toNat IntKind.u64.bits))).fdiv (2 ^ min (Int.toNat 32) IntKind.u64.bits) < 4294967296:=by
 rw[u64_in (n:=s) (by omega) (by omega),t32]
 have e:min s.toNat IntKind.u64.bits=s.toNat:=by simp only[IntKind.bits];omega
 rw[e]
 have e2:y * 2 ^ s.toNat=((y.toNat * 2 ^ s.toNat:Nat):Int):=by
  rw[Int.natCast_mul,Int.natCast_pow]
  congr 1
  omega
 rw[e2]
 generalize y.toNat * 2 ^ s.toNat=z at *
 rw[u64_in (by omega) (by omega)]
 omega
def VM (m:Nat) (vs:List V):Prop:= ∃q r:Int,0≤r∧r < 4294967296∧m=4294967296 - r.toNat∧vs=[iV .u64 q,iV .u64 r]
theorem VM.next {q r b:Int} (h0:0≤r) (h1:r < 4294967296) (hb0:0 < b) (hb:b < 4294967296) (h:¬IntKind.u64.wrap (r+b)≥4294967296):VM (4294967296 - (r+b).toNat) [iV .u64 q,iV .u64 (IntKind.u64.wrap (r+b))]:=by
 rw[u64_in (by omega) (by omega)]at h⊢
 exact⟨q,r+b,by omega,by omega,rfl,rfl⟩
def VL (m:Nat) (vs:List V):Prop:= ∃r q:Int,0≤r∧r < 4294967296∧m=4294967296 - r.toNat∧vs=[iV .u64 r,iV .u64 q]
theorem VL.next {q r b:Int} (h0:0≤r) (h1:r < 4294967296) (hb0:0 < b) (hb:b < 4294967296) (h:¬IntKind.u64.wrap (r+b)≥4294967296):VL (4294967296 - (r+b).toNat) [iV .u64 (IntKind.u64.wrap (r+b)),iV .u64 q]:=by
 rw[u64_in (by omega) (by omega)]at h⊢
 exact⟨r+b,q,by omega,by omega,rfl,rfl⟩
theorem Zo (y:Int) (h0:0 < y) (h1:y < 18446744073709551616):IQ 227 [oU y] (nP (fun s=>(0 < (IntKind.u64.wrap (y * 2 ^ (min (IntKind.u64.wrap s).toNat IntKind.u64.bits))).fdiv (2 ^ min (Int.toNat 32) IntKind.u64.bits)∧(IntKind.u64.wrap (y * 2 ^ (min (IntKind.u64.wrap s).toNat IntKind.u64.bits))).fdiv (2 ^ min (Int.toNat 32) IntKind.u64.bits) < 4294967296))):=by
 obtain⟨ts,a,b,n,c,hs,d,e⟩:=kg y h0 h1
 exact⟨ts,a,b,n,c,Rg h0 hs d e⟩
theorem sR (hi lo y:Int) (hh0:0≤hi) (hh:hi < y) (JP:0≤lo) (hl:lo < 18446744073709551616) (hy:y < 18446744073709551616): ∃ts,Fn Tryz.prog 208 [oU hi,oU lo,oU y] [] (aQ ts) []∧(aQ ts).bY=true∧(fun ts=> ∃a b,ts=[oU a,oU b]) ts:=by
 refine aK ?_
 refine ae Tryz.func208 ?_
 repeat' (conv=>whnf
          first
  |(refine aA (fun h=>?_) (fun h=>?_))
  |(refine And.intro (jm _) ?_)
  |(refine And.intro (show(0:Int)≤32 by omega) ?_)
  |(refine And.intro (show y≠0 by omega) ?_)
  |(refine And.intro (Int.ne_of_gt hb0) ?_)
  |(refine And.intro (by kernel_rfl) ?_)
  |(refine ag rfl (Zo y (by omega) hy) ?_;rintro _ ⟨s,rfl,hb0,oT⟩)
  |exact dA rfl (bX rfl) (bX rfl) ⟨_,_,rfl⟩
  |(apply aL [2,8,9,10,14,15,16,17,18] [] [16,18] (VL) (_) [_,_];(conv=>whnf);exact⟨rfl,rfl,rfl,rfl⟩;exact rfl;exact rfl;exact⟨_,_,(yK (jm _) (kW _) hb0 oT).1,(yK (jm _) (kW _) hb0 oT).2,rfl,rfl⟩;rintro _ _ ⟨r,q,uU,rT,hmr,rfl⟩)
  |(refine aj [2,8,9,10,14,15,16,17,18] [] ?_;(conv=>whnf);exact⟨rfl,_,[_,_],VL.next uU rT hb0 oT h,rfl,rfl,rfl,by omega⟩)
  |(apply aL [2,8,9,10,11,13,14,15,16] [] [15,16] (VM) (_) [_,_];(conv=>whnf);exact⟨rfl,rfl,rfl,rfl⟩;exact rfl;exact rfl;exact⟨_,_,(yK (jm _) (kW _) hb0 oT).1,(yK (jm _) (kW _) hb0 oT).2,rfl,rfl⟩;rintro _ _ ⟨q,r,uU,rT,hmr,rfl⟩)
  |(refine aj [2,8,9,10,11,13,14,15,16] [] ?_;(conv=>whnf);exact⟨rfl,_,[_,_],VM.next uU rT hb0 oT h,rfl,rfl,rfl,by omega⟩)
  |(exfalso;omega))
 all_goals (conv=>whnf)
theorem RY {f t a hi:Int} (hf:1≤f) (ha0:0≤a) (ha:a≤f) (ht0:0≤t) (ht:t≤1099511627776) (hh:hi * 18446744073709551616≤IntKind.u64.wrap a * IntKind.u64.wrap t) (A3:f≤1099511627776):hi < IntKind.u64.wrap f:=by
 rw[u64_in ha0 (by omega),u64_in ht0 (by omega)]at hh
 rw[u64_in (by omega) (by omega)]
 have h1:a * t≤f * t:=Int.mul_le_mul_of_nonneg_right ha ht0
 have h2:f * t≤f * 1099511627776:=Int.mul_le_mul_of_nonneg_left ht (by omega)
 omega
def GIX (ts:List W):Prop:= ∃n e,ts=[oI n,oI e]
theorem yF (f t:Int) (rv:Bool) (a:Int):Tg 186 [oI f,oI t,oB rv,oI a] GIX:=by
 refine aK ?_
 refine ae Tryz.func186 ?_
 repeat' (conv=>whnf
          first
  |(refine aA (fun h=>?_) (fun h=>?_))
  |(refine aG (fun h=>?_) (fun h=>?_))
  |(refine ag rfl (sO _ _ (jm _) (kW _) (jm _) (kW _)) ?_;rintro _ ⟨hi,lo,rfl,⟨hh0,hh⟩,JP,hl⟩)
  |(refine ag rfl (sR hi lo _ hh0 (RY (by omega) (by omega) (by omega) (by omega) (by omega) hh (by omega)) JP hl (kW _)) ?_;rintro _ ⟨q,r,rfl⟩)
  |exact dA rfl (bX rfl) (bX rfl) ⟨_,_,rfl⟩)
 all_goals (conv=>whnf)
end Go.aS.Cd
end
section
namespace Go.aS.Cd
open Go Go.Proofs
set_option maxRecDepth 100000
set_option maxHeartbeats 2000000
theorem Rl {n f ty ctr t:Nat} {tm:TS} {hp:HS} {ts:List T} {K:V→HS→Prop} (h:find tm t=some (.w (.agg (ts.map .t)))) (hk:K (.w (.one (.kP f true ts))) hp):
 ∃v aF,gR Tryz.prog n (.makeFunc (.func f) #[.tmp t] #[]) ty tm hp ctr v aF∧K v aF:=by
 refine⟨_,_,?_,hk⟩
 rintro⟨dst',op',ty',pos',after',guard'⟩ rfl rfl
 intro M A ρ a w hr
 have hv:=hr.tmps t _ h
 have hrun:(execOp a.eval ⟨dst', .makeFunc (.func f) #[.tmp t] #[],ty',pos',after',guard'⟩).run Tryz.prog w= .ok (.value (.func (.func f) #[a.eval (.tmp t)] #[])) w:=by
  simp[execOp,Instr.makeFunc]
 refine⟨_,_,A,ρ, .inl hrun,hr.sub (fun id bJ=>by simp only[bt]at bJ⊢;omega),⟨⟨_,rfl,?_⟩,rfl⟩,df.refl _ _,cU.refl _,bE.refl _ _⟩
 obtain⟨vs,h1,h2,h3⟩:=hv
 refine⟨vs,h1,by simpa using h2,fun k x y hx hy=>?_⟩
 have:=h3 k (.t x) y (by simp[hx]) hy
 exact⟨this.1,this.2⟩
theorem Sw {hp:HS} {id sz len:Nat} {rows:List (List C)} {xs:Lz} (hf:find hp id=some (.row sz rows)) (hR:az rows xs) (hl:len=xs.length):bu (bB hp) [.one (.own id sz 0 len)]=some [.one (.t (.av sz xs))]:=by
 have:=lF (hp:=hp) (i:=0) hf hR (by omega:0+len≤xs.length)
 simp only[bu,this]
 simp[hl]
theorem GM {k s B C:Int} (hk:0≤k) (Hl:k≤C) (h1: -B≤s) (h2:s≤B) (hB:0≤B): -(C * B)≤k * s∧k * s≤C * B:=by
 have a1:k * s≤k * B:=Int.mul_le_mul_of_nonneg_left h2 hk
 have a2:k * B≤C * B:=Int.mul_le_mul_of_nonneg_right Hl hB
 have a3:k * (-B)≤k * s:=Int.mul_le_mul_of_nonneg_left h1 hk
 rw[Int.mul_neg]at a3
 omega
theorem EL {m s B C:Int} (UQ: -C≤m) (qm:m≤C) (h1: -B≤s) (h2:s≤B) (hB:0≤B): -(C * B)≤m * s∧m * s≤C * B:=by
 rcases Int.le_total 0 m with h|h
 · exact GM h qm h1 h2 hB
 · have:=GM (k:= -m) (s:=s) (B:=B) (C:=C) (by omega) (by omega) h1 h2 hB
   rw[Int.neg_mul]at this
   omega
def Ze (B:Int) (e:List T):Prop:= ∃a b,e=[tI a,tI b]∧(-B≤a∧a≤B)∧(-B≤b∧b≤B)
abbrev Wi (B:Int) (s:Sp):Prop:=(-B≤s.1∧s.1≤B)∧(-B≤s.2∧s.2≤B)
theorem zx (cs:Lz) (m i:Int) (hc: ∀e,e∈cs→Ze 1000 e) (hl:0 < cs.length) (hm:cs.length≤16) (hi:0≤i) (UQ: -100≤m) (qm:m≤100):Tg 161 [.agg [.t (.av 2 cs), .t (tI m)],oI i] (Oz (Wi 100000)):=by
 refine ae Tryz.func161 ?_
 repeat' (conv=>whnf
          first
  |(refine au hc (cC hi) (cr (by omega)) ?_;rintro _ ⟨a,b,rfl,⟨ha1,ha2⟩,oT,nw⟩ hs)
  |(refine And.intro (show((cs.length:Nat):Int)≠0 by omega) ?_)
  |(refine And.intro (by kernel_rfl) ?_)
  |(have e1:=EL UQ qm ha1 ha2 (by omega);have e2:=EL UQ qm oT nw (by omega);exact U6 rfl rfl rfl (by simp) rfl ⟨by simp only;rw[bj (by omega) (by omega)];omega,by simp only;rw[bj (by omega) (by omega)];omega⟩))
 all_goals (conv=>whnf)
theorem Ld {xs:Lz} {k:Nat} {a b:Int} (hL:ep xs) (hk:(k:Int) < (xs.length:Int)) (ha: -100000≤a∧a≤100000) (hb: -100000≤b∧b≤100000): -1000000000000000≤IntKind.i64.wrap (IntKind.i64.wrap (IntKind.i64.wrap (IntKind.i64.wrap ((xs.length:Int) - 1) - (k:Int)) * a)+IntKind.i64.wrap ((k:Int) * b)):=by
 have h1:=hL.1
 have h2:=hL.2.1
 rw[bj (n:=(xs.length:Int) - 1) (by omega) (by omega),bj (n:=(xs.length:Int) - 1 - (k:Int)) (by omega) (by omega)]
 have e1:=GM (k:=(xs.length:Int) - 1 - (k:Int)) (s:=a) (C:=40) (by omega) (by omega) ha.1 ha.2 (by omega)
 have e2:=GM (k:=(k:Int)) (s:=b) (C:=40) (by omega) (by omega) hb.1 hb.2 (by omega)
 rw[bj (n:=((xs.length:Int) - 1 - (k:Int)) * a) (by omega) (by omega),bj (n:=(k:Int) * b) (by omega) (by omega),bj (by omega) (by omega)]
 omega
theorem yE {xs:Lz} (hL:ep xs):0 < IntKind.i64.wrap ((xs.length:Int) - 1)∧IntKind.i64.wrap ((xs.length:Int) - 1)≤1000000000000:=by
 have h1:=hL.1
 have h2:=hL.2.1
 rw[bj (by omega) (by omega)]
 omega
theorem A9 (xs:Lz) (a b:Sp) (hL:ep xs) (ha:Wi 100000 a) (hb:Wi 100000 b):Tg 162 [oL 2 xs,ij a,ij b] (GL 2 (fun ys=>ys.length=xs.length∧bZ ys)):=by
 have hx:=hL.Em
 have hl:=hL.2.1
 refine ae Tryz.func162 ?_
 repeat' (conv=>whnf
          first
  |(refine aA (fun h=>?_) (fun h=>?_))
  |(refine And.intro ⟨by omega,by omega,by omega,by omega⟩ ?_)
  |(refine And.intro ⟨by omega,by omega⟩ ?_)
  |(refine au hx (by first|omega|exact cC (by first|omega|(simp (disch:=omega) only[aa];omega))|(simp (disch:=omega) only[aa];omega)) (by first|omega|exact cr (by omega)|(simp (disch:=omega) only[aa];omega)) ?_;rintro _ ⟨c,d,rfl⟩ hs)
  |(refine And.intro (by kernel_rfl) ?_)
  |(refine Da hc (by omega) ?_;rintro _ ⟨c,d,rfl⟩ hs)
  |(refine aB rfl (nZ _ _ (Ld hL (by omega) ha.1 hb.1) (yE hL).1 (yE hL).2) ?_;rintro _ ⟨n,rfl⟩)
  |(refine aB rfl (nZ _ _ (Ld hL (by omega) ha.2 hb.2) (yE hL).1 (yE hL).2) ?_;rintro _ ⟨n,rfl⟩)
  |exact gL rfl rfl rfl (by omega) hc (fun ys h1 h2=>⟨by omega,h2⟩)
  |(apply bW [4,5,7,8,17,18,19] [] [19] (fun m vs hq=> ∃ (i:Nat) (rows:List (List C)),i≤xs.length∧m=xs.length - i∧vs=[iV .i64 (i:Int)]∧hq=[(4, .row 2 [[.t (tI a.1), .t (tI a.2)]]),(8, .row 2 [[.t (tI b.1), .t (tI b.2)]]),(12, .row 2 rows)]∧rows.length=xs.length∧kq KL rows) (xs.length) [iV .i64 0];(conv=>whnf);exact⟨rfl,rfl,rfl,rfl⟩;exact rfl;exact rfl;exact⟨0,_,by omega,rfl,rfl,rfl,by simp,(kq.replicate (e:=[tI 0,tI 0]) ⟨0,0,rfl⟩).ak _⟩;rintro _ _ _ ⟨i,rows,hi,rfl,rfl,rfl,hr,hc⟩)
  |(refine aj [4,5,7,8,17,18,19] [] ?_;(conv=>whnf);exact⟨rfl,_,[_],⟨i+1,_,by omega,rfl,by rw[aa (n:=(i:Int)+1) (by omega) (by omega)];rfl,rfl,by simp[hr],(kq.set hc (e:=[tI _,tI _]) ⟨_,_,rfl⟩).ak _⟩,rfl,rfl,by omega⟩))
 all_goals (conv=>whnf)
end Go.aS.Cd
end
section
namespace Go.aS.Cd
open Go Go.Proofs
set_option maxRecDepth 100000
set_option maxHeartbeats 800000
abbrev R7 (nm:T) (es:Lz) (g:T) (ns cs ws:Lz) (mt:T):W:= .agg [.t nm, .t (.av 2 es), .t g, .t (.av 2 ns), .t (.av 2 cs), .t (.av 1 ws), .t mt]
theorem Df {n B:Int} {b:Bool} (hB:0≤B∧B≤1000000) (hw:b=true↔(IntKind.i64.wrap (0 - B)≤n∧n≤B)) (h:(!b)=false): -B≤n∧n≤B:=by
 have:b=true:=by simpa using h
 have:=hw.1 this
 rw[bj (by omega) (by omega)]at this
 omega
def KH (cs:Lz) (i:Nat):Prop:= ∀j e,j < i→cs[j]? =some e→Ze 1000 e
theorem KH.all {cs:Lz} {i:Nat} (h:KH cs i) (hi:cs.length≤i): ∀e,e∈cs→Ze 1000 e:=by
 intro e he
 obtain⟨j,hj,rfl⟩:=List.getElem_of_mem he
 exact h j _ (by omega) (by simp[hj])
def Kv (cs:Lz) (m:Nat) (vs:List V):Prop:= ∃i:Nat,i≤cs.length∧KH cs i∧m=cs.length - i∧vs=[iV .i64 (i:Int)]
theorem Kv.next {cs:Lz} {i:Nat} {a b:Int} (hi:(i:Int) < (cs.length:Int)) (hl:cs.length≤maxLen) (h:KH cs i) (hs:cs[((i:Int)).toNat]? =some [tI a,tI b]) (ha: -1000≤a∧a≤1000) (hb: -1000≤b∧b≤1000):Kv cs (cs.length - (i+1)) [iV .i64 (IntKind.i64.wrap ((i:Int)+1))]:=by
 refine⟨i+1,by omega,fun j e hj he=>?_,rfl,by simp only[maxLen]at hl;rw[bj (by omega) (by omega)];rfl⟩
 by_cases eF:j=i
 · subst eF
   have hs':cs[j]? =some [tI a,tI b]:=by simpa using hs
   rw[hs']at he
   exact⟨a,b,(Option.some.inj he).symm,ha,hb⟩
 · exact h j e (by omega) he
def PE (e:List T):Prop:= ∃s xs,e=[.val (.string s), .av 2 xs]∧s.size≤maxLen∧ep xs
theorem RU {es:Lz} (he:jD es) (hO: ∀e,e∈es→BN e): ∀e,e∈es→PE e:=by
 intro e h
 obtain⟨s,xs,h1,h2,_⟩:=he e h
 obtain⟨s',xs',IN,TD⟩:=hO e h
 rw[h1]at IN
 simp only[List.cons.injEq,T.val.injEq,Value.string.injEq,T.av.injEq,true_and,and_true]at IN
 obtain⟨rfl,rfl⟩:=IN
 exact⟨s,xs,h1,h2,TD⟩
def VK (es:Lz) (m:Nat) (ws:List V) (xss:List (Lz)):Prop:= ∃ (i:Nat) (zs:Lz),i≤es.length∧m=es.length - i∧ws=[bG 4 2 zs.length,iV .i64 (i:Int)]∧xss=[zs]∧zs.length=i∧jD zs
theorem VK.next {es zs:Lz} {i k:Nat} {s:ByteArray} {xs ys:Lz} (hi:(i:Int) < (es.length:Int)) (he:es.length≤16) (hz:zs.length=i) (hE:jD zs) (hs:s.size≤maxLen) (hL:ep xs) (hy:ys.length=xs.length) (hys:bZ ys) (hk:k=zs.length+1):VK es (es.length - (i+1)) [bG 4 2 k,iV .i64 (IntKind.i64.wrap ((i:Int)+1))] [zs++[[.val (.string s), .av 2 ys]]]:=by
 refine⟨i+1,_,by omega,rfl,by rw[bj (by omega) (by omega),hk];simp,rfl,by simp[hz],?_⟩
 intro e he'
 simp only[List.mem_append,List.mem_singleton]at he'
 rcases he' with he'|rfl
 · exact hE e he'
 · exact⟨s,ys,rfl,hs,hys,by have:=hL.2.1;simp only[maxLen];omega⟩
theorem D3 {zs:Lz}:(zs.drop 0).take zs.length=zs:=by simp
theorem lE (nm:T) (es:Lz) (g:T) (ns cs ws:Lz) (mt:T) (m:Int) (he:jD es) (hm:es.length≤maxLen) (hc:bZ cs) (ew:cs.length≤maxLen):Tg 132 [R7 nm es g ns cs ws mt,oI m] (KP 2 (fun gs=>(sD gs∧jD gs∧gs.length=es.length)∧sD es)):=by
 refine aK ?_
 refine ae Tryz.func132 ?_
 repeat' (conv=>whnf
          first
  |(refine aA (fun h=>?_) (fun h=>?_))
  |(refine bR (fun h=>?_) (fun h=>?_))
  |(refine aG (fun h=>?_) (fun h=>?_))
  |(refine au hc (by omega) (by omega) ?_;rintro _ ⟨a,b,rfl⟩ hs)
  |(refine au (RU he (hO (by omega)).2.1) (by omega) (by omega) ?_;rintro _ ⟨s,xs,rfl,hsz,hL⟩ hse)
  |(refine And.intro ⟨by simp[tr],by have:=(hO (by omega)).1.2;simp[tr,aU];omega,by have:=(hO (by omega)).1.2;simp[tr,maxLen];omega⟩ ?_)
  |(refine And.intro (by kernel_rfl) ?_)
  |(refine ag rfl (zw _ _) ?_;rintro _ ⟨wb,rfl,hw⟩)
  |(refine ag rfl (j8 es he hm) ?_;rintro _ ⟨e,rfl,hO⟩)
  |(refine aB rfl (zx cs m _ (hp.all (by omega)) (by omega) (by have:=(hO (by omega)).1.2;omega) (by first|omega|(have:=(hO (by omega)).1.2;rw[bj (by omega) (by omega)];omega)) (Df (B:=100) (by omega) hw (by assumption)).1 (Df (B:=100) (by omega) hw (by assumption)).2) ?_;rintro _ ⟨x,y,rfl,UM⟩)
  |(refine Rl (ts:=[.av 2 cs,tI m]) rfl ?_)
  |(refine aB rfl (A9 xs (_,_) (_,_) hL (by assumption) (by assumption)) ?_;rintro _ ⟨ys,rfl,hy,hys⟩)
  |(refine jk (Sw (xs:=zs) rfl rfl rfl) (j8 zs hE (by have:=(hO (by omega)).1.2;simp only[maxLen];omega)) ?_ ?_;(rintro _ ⟨e2,rfl,hO2⟩;rfl);rintro _ ⟨e2,rfl,hO2⟩)
  |exact dA rfl (bP 2 rfl) (bX rfl) ⟨_,_,rfl,fun h0=>absurd h0 (by omega)⟩
  |exact dA rfl (eR rfl rfl (xs:=zs) rfl (by omega)) (bX rfl) ⟨_,_,rfl,fun _=>by rw[D3];exact⟨⟨hO2 (by omega),hE,by omega⟩,hO (by omega)⟩⟩
  |(apply eP [9,10,54,55,56] [] [10,56] [(4,2)] (VK es) (es.length) [bG 4 2 0,iV .i64 0] (dP.iU 10 2 rfl);(conv=>whnf);exact⟨rfl,rfl,rfl,rfl⟩;exact rfl;exact rfl;exact .cons (az.ak az.nil _) .nil;exact⟨0,[],by omega,rfl,rfl,rfl,rfl,fun e he=>by simp at he⟩;rintro _ _ _ ⟨i2,zs,hi2,rfl,rfl,rfl,hz,hE⟩)
  |(refine aj [9,10,54,55,56] [] ?_;(conv=>whnf);exact⟨rfl,_,[_,_],_, .cons (az.ak (az.snoc (xs:=zs) rfl [.val (.string s), .av 2 ys]) _) .nil,VK.next (by omega) (hO (by omega)).1.2 hz hE hsz hL hy hys (by simp[tr]),rfl,rfl,by omega⟩)
  |(apply aL [1,2,25,26,27] [] [27] (Kv cs) (cs.length) [iV .i64 0];(conv=>whnf);exact⟨rfl,rfl,rfl,rfl⟩;exact rfl;exact rfl;exact⟨0,by omega,fun j e hj=>by omega,rfl,rfl⟩;rintro _ _ ⟨i,hi,hp,rfl,rfl⟩)
  |(refine aj [1,2,25,26,27] [] ?_;(conv=>whnf);exact⟨rfl,_,[_],Kv.next (by omega) ew hp hs (Df (by omega) (by assumption) (by assumption)) (Df (by omega) (by assumption) (by assumption)),rfl,rfl,rfl,by omega⟩))
 all_goals (conv=>whnf)
end Go.aS.Cd
end
section
namespace Go.aS.Cd
open Go Go.Proofs
set_option maxRecDepth 100000
set_option maxHeartbeats 1000000
abbrev Is (xs:Lz):Prop:= ∀e,e∈xs→IsI e
theorem Is.snoc {xs:Lz} (h:Is xs) (n:Int):Is (xs++[[tI n]]):=by
 intro e he
 simp only[List.mem_append,List.mem_singleton]at he
 rcases he with he|rfl
 · exact h e he
 · exact⟨n,rfl⟩
abbrev WW (nm:T) (es:Lz) (g:T) (ns cs ws:Lz) (mt:T):List T:=[nm, .av 2 es,g, .av 2 ns, .av 2 cs, .av 1 ws,mt]
def VC (pc:List T) (N:Nat) (m:Nat) (ws:List V) (xss:List (Lz)):Prop:= ∃ (i:Nat) (zs:Lz),i≤N∧m=N - i∧ws=[bG 8 1 zs.length,iV .i64 (i:Int)]∧xss=[[pc],zs]∧zs.length=i∧Is zs
theorem VC.next {pc:List T} {N i k:Nat} {zs:Lz} {n:Int} (hi:(i:Int) < (N:Int)) (hN:N≤100000) (hz:zs.length=i) (hI:Is zs) (hk:k=zs.length+1):VC pc N (N - (i+1)) [bG 8 1 k,iV .i64 (IntKind.i64.wrap ((i:Int)+1))] [[pc],zs++[[tI n]]]:=
 ⟨i+1,_,by omega,rfl,by rw[bj (by omega) (by omega),hk];simp,rfl,by simp[hz],hI.snoc n⟩
def GPl (ts:List W):Prop:= ∃xs ys e,ts=[oL 1 xs,oL 2 ys,oI e]
theorem yV (nm:T) (es:Lz) (g:T) (ns cs ws:Lz) (mt:T) (m:Int) (he:jD es) (hm:es.length≤maxLen) (hn:bZ ns) (hc:bZ cs) (ew:cs.length≤maxLen):Tg 163 [R7 nm es g ns cs ws mt,oI m] GPl:=by
 refine aK ?_
 refine ae Tryz.func163 ?_
 repeat' (conv=>whnf
          first
  |(refine aA (fun h=>?_) (fun h=>?_))
  |(refine bR (fun h=>?_) (fun h=>?_))
  |(refine au hn (by omega) (by omega) ?_;rintro _ ⟨a,b,rfl⟩ hs)
  |(refine au he (by omega) (by omega) ?_;rintro _ ⟨s1,xs1,rfl,sU,hp1,OV⟩ hs1)
  |(refine au (hG (by omega)).1.2.1 (by omega) (by have:=(hG (by omega)).1.2.2;omega) ?_;rintro _ ⟨s2,xs2,rfl,Cr,hp2,rW⟩ bO)
  |(refine And.intro ⟨by simp[tr],by simp[tr,aU];omega,by simp[tr,maxLen];omega⟩ ?_)
  |(refine ag rfl (lE nm es g ns cs ws mt m he hm hc ew) ?_;rintro _ ⟨gs,e,rfl,hG⟩)
  |(refine ag rfl (lQ xs1 hp1) ?_;rintro _ ⟨n1,e1,rfl,_⟩)
  |(refine ag rfl (lQ xs2 hp2) ?_;rintro _ ⟨n2,e2,rfl,_⟩)
  |(refine ag rfl (yF _ _ _ _) ?_;rintro _ ⟨n3,e3,rfl⟩)
  |exact Fb rfl (bP 1 rfl) (bP 2 rfl) (bX rfl) ⟨_,_,_,rfl⟩
  |exact Fb rfl (eR rfl rfl (xs:=zs) rfl (by omega)) (bX rfl) (bX rfl) ⟨_,_,_,rfl⟩
  |(apply eP [2,7,9,30,31,32] [] [9,32] [(4,7),(8,1)] (VC (WW nm es g ns cs ws mt) ns.length) (ns.length) [bG 8 1 0,iV .i64 0] (dP.iU 9 1 rfl);(conv=>whnf);exact⟨rfl,rfl,rfl,rfl⟩;exact rfl;exact rfl;exact .cons (az.ak (xs:=[WW nm es g ns cs ws mt]) rfl _) (.cons (az.ak az.nil _) .nil);exact⟨0,[],by omega,rfl,rfl,rfl,rfl,fun e he=>by simp at he⟩;rintro _ _ _ ⟨i,zs,hi,rfl,rfl,rfl,hz,hI⟩)
  |(refine aj [2,7,9,30,31,32] [] ?_;(conv=>whnf);exact⟨rfl,_,[_,_],_, .cons (az.ak (xs:=[WW nm es g ns cs ws mt]) rfl _) (.cons (az.ak (az.snoc (xs:=zs) rfl [tI _]) _) .nil),VC.next (by omega) (by omega) hz hI (by simp[tr]),rfl,rfl,by omega⟩))
 all_goals (conv=>whnf)
theorem yW (nm:T) (es:Lz) (g:T) (ns cs ws:Lz) (mt:T) (m:Int) (he:jD es) (hm:es.length≤maxLen) (hn:bZ ns) (hc:bZ cs) (ew:cs.length≤maxLen): ∃ts,Fn Tryz.prog 133 [R7 nm es g ns cs ws mt,oI m] [] (aQ ts) []∧(aQ ts).bY=true∧(fun ts=> ∃xs e,ts=[oL 1 xs,oI e]) ts:=by
 refine aK ?_
 refine ae Tryz.func133 ?_
 repeat' (conv=>whnf
          first
  |(refine ag rfl (yV nm es g ns cs ws mt m he hm hn hc ew) ?_;rintro _ ⟨xs,ys,e,rfl⟩)
  |exact dA rfl (bX rfl) (bX rfl) ⟨_,_,rfl⟩)
 all_goals (conv=>whnf)
def KM (e:List T):Prop:= ∃nm es g ns cs ws mt,e=[.val (.string nm), .av 2 es,tI g, .av 2 ns, .av 2 cs, .av 1 ws,tB mt]∧nm.size≤maxLen∧(jD es∧es.length≤maxLen)∧(bZ ns∧ns.length≤maxLen)∧(bZ cs∧cs.length≤maxLen)∧Is ws∧ws.length≤maxLen
theorem qz (ps:Lz) (hp: ∀e,e∈ps→KM e) (jv:ps.length≤maxLen) (nm:ByteArray) (es:Lz) (g:Int) (ns cs ws:Lz) (mt:Bool) (hnm:nm.size≤maxLen) (he:jD es) (hm:es.length≤maxLen) (hn:bZ ns) (hc:bZ cs) (ew:cs.length≤maxLen) (hw:Is ws) (z7:ws.length≤maxLen):Tg 98 [oL 7 ps,R7 (.val (.string nm)) es (tI g) ns cs ws (tB mt)] GI:=by
 refine ae Tryz.func98 ?_
 repeat' (conv=>whnf
          first
  |(refine aA (fun h=>?_) (fun h=>?_))
  |(refine bR (fun h=>?_) (fun h=>?_))
  |(refine aG (fun h=>?_) (fun h=>?_))
  |(refine au hp (by first|omega|exact cC (by first|omega|(simp (disch:=omega) only[aa];omega))|(simp (disch:=omega) only[aa];omega)) (by first|omega|exact cr (by omega)|(simp (disch:=omega) only[aa];omega)) ?_;rintro _ ⟨nm2,Fm,g2,ns2,cs2,ws2,mt2,rfl,alP,_⟩ hs)
  |(refine au hw (by first|omega|exact cC (by first|omega|(simp (disch:=omega) only[aa];omega))|(simp (disch:=omega) only[aa];omega)) (by first|omega|exact cr (by omega)|(simp (disch:=omega) only[aa];omega)) ?_;rintro _ ⟨a,rfl⟩ hs)
  |(refine ag rfl (ph nm hnm) ?_;rintro _ ⟨b,rfl⟩)
  |(refine ag rfl (lE (.val (.string nm)) es (tI g) ns cs ws (tB mt) _ he hm hc ew) ?_;rintro _ ⟨gs,e,rfl,_⟩)
  |(refine ag rfl (yW (.val (.string nm)) es (tI g) ns cs ws (tB mt) _ he hm hn hc ew) ?_;rintro _ ⟨xs,e,rfl⟩)
  |exact gI rfl rfl
  |(apply aL [66,67,68] [] [68] (RI ws.length) (ws.length) [iV .i64 0];(conv=>whnf);exact⟨rfl,rfl,rfl,rfl⟩;exact rfl;exact rfl;exact RI.zero;rintro _ _ ⟨i,hi,rfl,rfl⟩)
  |(refine aj [66,67,68] [] ?_;(conv=>whnf);exact⟨rfl,_,[_],RI.succ (N:=ws.length) (i:=i) (by omega) z7,rfl,rfl,rfl,by omega⟩)
  |(apply aL [3,30,31,32] [] [32] (RI ps.length) (ps.length) [iV .i64 0];(conv=>whnf);exact⟨rfl,rfl,rfl,rfl⟩;exact rfl;exact rfl;exact RI.zero;rintro _ _ ⟨i,hi,rfl,rfl⟩)
  |(refine aj [3,30,31,32] [] ?_;(conv=>whnf);exact⟨rfl,_,[_],RI.succ (N:=ps.length) (i:=i) (by omega) jv,rfl,rfl,rfl,by omega⟩))
 all_goals (conv=>whnf)
end Go.aS.Cd
end
section
namespace Go.aS.Cd
open Go Ieee
def sE (K:Nat) (w:Nat):Prop:=w < K * 4503599627370496
theorem NZ (way:Toward) (neg:Bool) (n drop:Nat):Toward.cut way neg n drop≤n / (1 <<< min drop (n.log2+2))+1:=by
 unfold Toward.cut
 simp only
 have: ∀b:Bool,b.toNat≤1:=fun b=>by cases b<;>simp
 exact Nat.add_le_add_left (this _) _
theorem log2_lt {n k:Nat} (h:n < 2 ^ k) (hk:0 < k):n.log2 < k:=by
 by_cases h0:n=0
 · subst h0;simpa using hk
 · exact(Nat.log2_lt h0).2 h
theorem tM {mag:Nat} {place:Int} {L:Int} {K:Nat} (hm:mag < 2 ^ 60) (hp: -1000≤place) (hL:place+mag.log2 - 52≤L) (vf:L≤900) (hL1: -1074≤L) (hK:((L+1074).toNat+3)≤K):sE K (Ieee.double.write (.number false mag place)):=by
 unfold sE Format.write Format.nearest
 simp only
 split
 · simp only[Format.word,Bool.false_eq_true,if_false]
   have:1 * 4503599627370496≤K * 4503599627370496:=Nat.mul_le_mul_right _ (by omega)
   omega
 · rename_i h0
   have Yt:(Ieee.double.fractionBits:Int)=52:=rfl
   have Ye:Ieee.double.leastPlace= -1074:=by decide
   have Ns:Ieee.double.binade=4503599627370496:=by decide
   simp only[Format.word,Bool.false_eq_true,if_false,Yt,Ye,Ns]
   generalize nY:max (place+(mag.log2:Int) - 52) (-1074)=last
   have OV:last≤L:=by omega
   have rW: -1074≤last:=by omega
   have Yf:2 ^ mag.log2≤mag:=Nat.log2_self_le h0
   have Lq:mag < 2 ^ (mag.log2+1):=Nat.lt_log2_self
   have Ta:Toward.even.cut false (mag <<< (place - last).toNat) (last - place).toNat≤9007199254740992:=by
    refine Nat.le_trans (NZ _ _ _ _) ?_
    rcases Int.le_total last place with hle|hle
    ·
     have e0:(last - place).toNat=0:=by omega
     rw[e0,Nat.zero_min,Nat.shiftLeft_eq,Nat.shiftLeft_eq,Nat.pow_zero,Nat.mul_one,Nat.div_one]
     have hsh:mag.log2+(place - last).toNat≤52:=by omega
     have h1:mag * 2 ^ (place - last).toNat < 2 ^ (mag.log2+1) * 2 ^ (place - last).toNat:=Nat.mul_lt_mul_of_pos_right Lq (Nat.pow_pos (by omega))
     rw[←Nat.pow_add]at h1
     have h2:2 ^ (mag.log2+1+(place - last).toNat)≤2 ^ 53:=Nat.pow_le_pow_right (by omega) (by omega)
     have h3:(2:Nat) ^ 53=9007199254740992:=by decide
     omega
    · have e0:(place - last).toNat=0:=by omega
      rw[e0,Nat.shiftLeft_eq,Nat.pow_zero,Nat.mul_one,Nat.shiftLeft_eq,Nat.one_mul]
      have h53:(2:Nat) ^ 53=9007199254740992:=by decide
      have aeW:(last - place).toNat=mag.log2 - 52∨last= -1074:=by omega
      have hmn:mag / 2 ^ min (last - place).toNat (mag.log2+2) < 9007199254740992:=by
       rw[←h53]
       rw[Nat.div_lt_iff_lt_mul (Nat.pow_pos (by omega)), ←Nat.pow_add]
       refine Nat.lt_of_lt_of_le Lq (Nat.pow_le_pow_right (by omega) ?_)
       omega
      omega
   have hmin:min ((last - -1074).toNat * 4503599627370496+Toward.even.cut false (mag <<< (place - last).toNat) (last - place).toNat) Ieee.double.infRung≤(last - -1074).toNat * 4503599627370496+9007199254740992:=Nat.le_trans (Nat.min_le_left _ _) (Nat.add_le_add_left Ta _)
   have XX:(last - -1074).toNat+3≤K:=by omega
   generalize (last - -1074).toNat=q at hmin XX⊢
   have hq:q+3≤K:=XX
   refine Nat.lt_of_le_of_lt hmin (Nat.lt_of_lt_of_le ?_ (Nat.mul_le_mul_right 4503599627370496 hq))
   rw[Nat.add_mul]
   exact Nat.add_lt_add_left (by decide) _
theorem xq {K w:Nat} (h:sE K w) (hK:K≤1500): ∃m i,Ieee.double.read w= .number false m i∧m < 9007199254740992∧ -1074≤i∧i≤max ((K:Int) - 2 - 1074) (-1074):=by
 unfold sE at h
 have hsw:Ieee.double.signWeight=9223372036854775808:=by decide
 have Ns:Ieee.double.binade=4503599627370496:=by decide
 have hin:Ieee.double.infRung=9218868437227405312:=by decide
 have Ye:Ieee.double.leastPlace= -1074:=by decide
 have hlt:w < 1500 * 4503599627370496:=Nat.lt_of_lt_of_le h (Nat.mul_le_mul_right _ hK)
 unfold Format.read
 simp only[hsw,Ns,hin,Ye]
 have e1:w / 9223372036854775808 % 2=0:=by omega
 have e2:w % 9223372036854775808=w:=Nat.mod_eq_of_lt (by omega)
 rw[e1,e2]
 simp only[show((0:Nat)==1)=false by decide]
 split
 · exact⟨w, -1074,rfl,by omega,by omega,by omega⟩
 · rename_i hb
   rw[if_pos (show w < 9218868437227405312 by omega)]
   refine⟨_,_,rfl,by omega,by omega,?_⟩
   have:w / 4503599627370496 < K:=by
    rw[Nat.div_lt_iff_lt_mul (by omega)];exact h
   omega
theorem mC {n:Nat}: ∀ (todo root:Nat),root * root≤n→Datum.rootFrom n todo root * Datum.rootFrom n todo root≤n
 |0,root,h=>h
 |todo+1,root,h=>by
  simp only[Datum.rootFrom]
  split
  · rename_i hl;exact mC todo _ hl
  · exact mC todo _ h
theorem El {n:Nat} (hn:n < 2 ^ 53): ∃r,Ieee.double.sqrt (Ieee.double.write (.number false n 0))=some r∧sE 1053 r:=by
 have Yf:n.log2 < 53:=log2_lt hn (by omega)
 have h1:sE 1077 (Ieee.double.write (.number false n 0)):=tM (L:=0) (by
  have:(2:Nat) ^ 53≤2 ^ 60:=Nat.pow_le_pow_right (by omega) (by omega)
  omega) (by omega) (by omega) (by omega) (by omega) (by decide)
 obtain⟨m,i,e,hm,JS,hi2⟩:=xq h1 (by omega)
 unfold Format.sqrt
 rw[e]
 unfold Datum.root
 simp only
 have Yt:Ieee.double.fractionBits+2=54:=rfl
 simp only[Yt]
 by_cases UR:m=0
 · subst UR
   simp only[if_true,Option.map_some]
   refine⟨_,rfl,?_⟩
   unfold sE Format.write Format.nearest
   simp[Format.word]
 · simp only[UR,if_false,Bool.false_eq_true,Option.map_some]
   refine⟨_,rfl,?_⟩
   have hml:m.log2 < 53:=log2_lt (by rw[show(2:Nat) ^ 53=9007199254740992 by decide];exact hm) (by omega)
   have qm:m < 2 ^ (m.log2+1):=Nat.lt_log2_self
   have S6:((i - ((2 * 54 - m.log2:Nat):Int)) % 2).toNat≤1:=by omega
   generalize aeL:2 * 54 - m.log2+((i - ((2 * 54 - m.log2:Nat):Int)) % 2).toNat=more
   have Yd:56≤more:=by omega
   have Yc:more+m.log2≤109:=by omega
   generalize hN:m <<< more=N
   have amU:N < 2 ^ 110:=by
    rw[←hN,Nat.shiftLeft_eq]
    have:m * 2 ^ more < 2 ^ (m.log2+1) * 2 ^ more:=Nat.mul_lt_mul_of_pos_right qm (Nat.pow_pos (by omega))
    rw[←Nat.pow_add]at this
    exact Nat.lt_of_lt_of_le this (Nat.pow_le_pow_right (by omega) (by omega))
   have XN:=mC (n:=N) (N.log2 / 2+1) 0 (by simp)
   generalize Datum.rootFrom N (N.log2 / 2+1) 0=whole at XN
   have hw:whole < 2 ^ 55:=by
    apply Nat.lt_of_not_le
    intro hge
    have h2:2 ^ 55 * 2 ^ 55≤whole * whole:=Nat.mul_le_mul hge hge
    rw[←Nat.pow_add]at h2
    omega
   have hb: ∀b:Bool,b.toNat≤1:=fun b=>by cases b<;>simp
   have oT:=hb (whole * whole !=N)
   generalize (whole * whole !=N).toNat=bb at oT
   have h55:(2:Nat) ^ 55=36028797018963968:=by decide
   have h60:(2:Nat) ^ 60=1152921504606846976:=by decide
   have Yh:(2 * whole+bb).log2 < 57:=log2_lt (by rw[show(2:Nat) ^ 57=144115188075855872 by decide];omega) (by omega)
   exact tM (L:= -24) (by omega) (by omega) (by omega) (by omega) (by omega) (by decide)
theorem GZ {w:Nat} (h:sE 1053 w): ∃r:Int,(Ieee.double.read w).toInt .zero=some r∧0≤r∧r≤1073741824:=by
 obtain⟨m,i,e,hm,JS,hi2⟩:=xq h (by omega)
 rw[e]
 unfold Datum.toInt Datum.integral
 simp only
 have e0:i.toNat=0:=by omega
 rw[e0,Nat.shiftLeft_eq,Nat.pow_zero,Nat.mul_one]
 refine⟨_,rfl,?_,?_⟩
 · simp only[signed,Bool.false_eq_true,if_false]
   exact Int.natCast_nonneg _
 · simp only[signed,Bool.false_eq_true,if_false,Toward.cut,Bool.toNat_false,Nat.add_zero,Nat.shiftLeft_eq,Nat.pow_zero,Nat.mul_one,Nat.one_mul]
   by_cases UR:m=0
   · subst UR;simp
   · have hml:m.log2 < 53:=log2_lt (by rw[show(2:Nat) ^ 53=9007199254740992 by decide];exact hm) (by omega)
     have qm:m < 2 ^ (m.log2+1):=Nat.lt_log2_self
     have hq:m / 2 ^ min (-i).toNat (m.log2+2) < 1073741824:=by
      rw[show(1073741824:Nat)=2 ^ 30 by decide,Nat.div_lt_iff_lt_mul (Nat.pow_pos (by omega)), ←Nat.pow_add]
      exact Nat.lt_of_lt_of_le qm (Nat.pow_le_pow_right (by omega) (by omega))
     generalize m / 2 ^ min (-i).toNat (m.log2+2)=q at hq
     omega
end Go.aS.Cd
end
section
namespace Go.aS.Cd
open Go Go.Proofs
set_option maxRecDepth 100000
set_option maxHeartbeats 1000000
theorem run_pure {n ctr:Nat} {ty:TypeId} {op:Op} {tm:TS} {hp:HS} {v:V} (h: ∀o:Oper,o.op=op→o.type=ty→bg Tryz.prog (St.get ⟨n,tm,hp⟩) o=some v):gR Tryz.prog n op ty tm hp ctr v hp:=by
 intro o h1 h2 M A ρ a w hr
 exact gJ (st:=⟨n,tm,hp⟩) (h o h1 h2) hr (fun id bJ=>by simp only[bt]at *;omega)
theorem uI:Tryz.prog.underlying 3=some (.int .i64):=by kernel_rfl
theorem uF:Tryz.prog.underlying 344=some (.float .f64):=by kernel_rfl
abbrev oF (x:Nat):W:= .one (.t (.val (.float .f64 x)))
theorem Rj {n ctr t:Nat} {ty:TypeId} {k:Int} {tm:TS} {hp:HS} {K:V→HS→Prop} (h:find tm t=some (iV .i64 k)) (hk:K (.w (oF (FloatKind.f64.nearest k))) hp):
 ∃v aF,gR Tryz.prog n (.convert 3 344 (.tmp t)) ty tm hp ctr v aF∧K v aF:=by
 refine⟨_,_,run_pure ?_,hk⟩
 rintro⟨dst',op',ty',pos',after',guard'⟩ rfl rfl
 have hg:St.get ⟨n,tm,hp⟩ (.tmp t)=iV .i64 k:=by simp[St.get,h]
 simp[bg,fG,Op.operands,hg,V.val?,W.val?,C.val?,execOp,convert,aJ,aN uI,aN uF,Conv.intToFloat,aD,V.ofValue]
theorem Rk {n ctr t x:Nat} {ty:TypeId} {r:Int} {tm:TS} {hp:HS} {K:V→HS→Prop} (h:find tm t=some (.w (oF x))) (hr:(FloatKind.f64.decode x).toInt .zero=some r) (h0:0≤r) (h1:r≤4294967296) (hk:K (iV .i64 r) hp):
 ∃v aF,gR Tryz.prog n (.convert 344 3 (.tmp t)) ty tm hp ctr v aF∧K v aF:=by
 refine⟨_,_,run_pure ?_,hk⟩
 rintro⟨dst',op',ty',pos',after',guard'⟩ rfl rfl
 have hg:St.get ⟨n,tm,hp⟩ (.tmp t)= .w (oF x):=by simp[St.get,h]
 have hmin:IntKind.i64.min≤r∧r≤IntKind.i64.max:=by
  have e1:IntKind.i64.min= -9223372036854775808:=by decide
  have e2:IntKind.i64.max=9223372036854775807:=by decide
  omega
 have hle:r≤9223372036854775807:=by omega
 simp[bg,fG,Op.operands,hg,V.val?,W.val?,C.val?,execOp,convert,aJ,aN uI,aN uF,Conv.floatToInt,hr,hmin,if_pos hle,aD,V.ofValue]
theorem CI:Extern.findNext Tryz.f228=none∧(Tryz.f228.name== "runtime.NumGoroutine")=false∧Tryz.f228.body.isNone=true:=⟨by kernel_rfl,by kernel_rfl,by kernel_rfl⟩
theorem J3:Extern.find Tryz.f228=some Go.Extern.MathSqrt.sqrt:=by kernel_rfl
theorem Jn {x r:Nat} (hr:FloatKind.f64.format.sqrt x=some r):aH Tryz.prog (callFunc 228 #[.float .f64 x])=some (.value (.float .f64 r)):=by
 have h1:Tryz.prog.funcs[228]? =some Tryz.f228:=Tryz.func228
 have hs:Go.Extern.MathSqrt.sqrt #[.float .f64 x]=pure (.float .f64 r):=by
  change (match FloatKind.f64.format.sqrt x with
   |some r=>(pure (.float .f64 r):Sem Value)
   |none=>do pure (.float .f64 (←choose (.nanBits .f64 x x))))=_
  rw[hr]
 have hn:¬Tryz.f228.name= "runtime.NumGoroutine" :=by simpa using CI.2.1
 have hb:Tryz.f228.body=none:=by simpa using CI.2.2
 simp[callFunc,aJ,program,aH,h1,CI.1,J3,hs,aD,hn,hb,dh,mark]
theorem L7 {n ctr t x r:Nat} {ty:TypeId} {tm:TS} {hp:HS} {K:V→HS→Prop} (h:find tm t=some (.w (oF x))) (hr:FloatKind.f64.format.sqrt x=some r) (hk:K (.w (oF r)) hp):
 ∃v aF,gR Tryz.prog n (.call ⟨.value (.func 228), #[.tmp t], #[344]⟩) ty tm hp ctr v aF∧K v aF:=by
 refine⟨_,_,run_pure ?_,hk⟩
 rintro⟨dst',op',ty',pos',after',guard'⟩ rfl rfl
 have hg:St.get ⟨n,tm,hp⟩ (.tmp t)= .w (oF x):=by simp[St.get,h]
 have hf:St.get ⟨n,tm,hp⟩ (.func 228)= .w (.one (.t (.val (.func (.func 228) #[] #[])))):=rfl
 have hp1:=Jn hr
 simp[bg,fG,Op.operands,Call.operands,hg,hf,V.val?,W.val?,C.val?,execOp,resolve,invoke,Deferred.ofValue,aJ,aD,hp1,V.ofValue]
end Go.aS.Cd
end
