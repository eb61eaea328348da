import Derived.Test.YtcaeamnhfodfoaaGreatLB
set_option linter.all false
section
namespace Go.aU
open Go
variable {P:Program} {M A:Nat→Prop} {ρ:Env} {F:Nat→Prop} {st:St} {a:Act} {w:World}
def Gg (hin:HS):C→Bool
 | .t _=>true
 | .own id .. =>(find hin id).isSome
 | .ptr id .. =>(find hin id).isSome
 | .jB _ da=>da.all fun p=>(find hin p.1).isSome
 |_=>false
def Sj (hin:HS):W→Bool
 | .one c=>Gg hin c
 | .agg cs=>cs.all (Gg hin)
def pU:HS→HS
 | []=>[]
 |p::r=>if p.1 < 4 then pU r else p::pU r
theorem lF: ∀ {hp:HS} {k:Nat} {b:bD},find (pU hp) k=some b→¬k < 4∧find hp k=some b
 | [],k,b,h=>by simp[pU,find]at h
 |(q,c)::r,k,b,h=>by
  simp only[pU]at h
  split at h
  · rename_i hq
    obtain⟨h1,h2⟩:=lF h
    have hne:¬q=k:=fun e=>by subst e;exact h1 hq
    exact⟨h1,by rw[av,if_neg hne];exact h2⟩
  · rename_i hq
    rw[av]at h⊢
    split at h
    · rename_i e
      subst e
      exact⟨hq,by rw[if_pos rfl];exact h⟩
    · rename_i e
      obtain⟨h1,h2⟩:=lF h
      exact⟨h1,by rw[if_neg e];exact h2⟩
def yw (hin hp:HS) (u:W):Option W:=if Sj hin u=true then some u else bM (pU hp) u
def Hz (hin:HS):bD→Prop
 | .row _ xs=> ∀e,e∈xs→ ∀c,c∈e→Gg hin c=true
 | .mp _ _=>False
def kp (hin hp hout:HS):Prop:=
 (∀k b,find hin k=some b→k < 4∧ ∃b',find hp k=some b')∧ ∀k blk,find hout k=some blk→find hp k=some blk∧(find hin k).isSome=true∧Hz hin blk
def PL (P:Program) (rs:List ResultVar) (hin:HS) (Good:List W→HS→Prop):Exit→TS→HS→Nat→Prop
 | .normal,tm,hp,_| .ret,tm,hp,_=> ∃us ts hout,aP P hp tm rs=some us∧bK (yw hin hp) us=some ts∧kp hin hp hout∧Good ts hout
 |_,_,_,_=>False
theorem gP {f:FuncId} {fn:Func} {c:Code} {r:Rc} {args:List W} {n:Nat} {rs:List ResultVar} {hin:HS} {Good:List W→HS→Prop} (hf:P.funcs[f]? =some fn) (hb:fn.body=some c) (hr:ae P c=some r)
 (hn:fn.ntmps=n) (eP:fn.results.toList=rs) (hl:args.length≤n) (h:X P n r (PL P rs hin Good) (de 0 args) hin 4): ∃ts hout,Fn P f args hin (aT ts) hout∧Good ts hout:=by
 subst hn
 subst eP
 obtain⟨e,st',c',⟨hn',hq⟩,hw⟩:=X.MB hr h
 obtain⟨n',bh,aH⟩:=st'
 simp only at hn' hq
 subst hn'
 have main: ∀us ts hout,rR e→aP P aH bh fn.results.toList=some us→bK (yw hin aH) us=some ts→kp hin aH hout→Good ts hout→ ∃ts hout,Fn P f args hin (aT ts) hout∧Good ts hout:=by
  intro vs ts hout he fZ hts Kz hg
  refine⟨ts,hout,?_,hg⟩
  · intro w A ρ xs hH hxs
    refine calls_of_wp hf hb ?_
    have hl':args.length=xs.size:=by simpa using hxs.1
    have cH:Rel (fun b=>o3 ρ hin b∨w.heap.size≤b) A ρ (bC 4) ⟨fn.ntmps,de 0 args,hin⟩ {tmps:=xs++Array.replicate (fn.ntmps - xs.size) undef,defers:=[]} w:=by
     refine⟨by simp;omega,rfl,fun t v hv=>?_,hH.heap,hH.inj,hH.fresh,hH.bound,hH.may,hH.dW⟩
     obtain⟨_,u,hu,rfl⟩:=eE _ _ _ _ hv
     simp only[Nat.sub_zero]at hu
     have ht:t < xs.size:=by rw[←hl'];exact(List.getElem?_eq_some_iff.1 hu).1
     have AD:xs.toList[t]? =some xs[t]:=by simp[ht]
     have:=hxs.2 t u _ hu AD
     have e:(xs++Array.replicate (fn.ntmps - xs.size) undef).getD t undef=xs[t]:=by simp[Array.getD_eq_getD_getElem?,Array.getElem?_append_left ht,ht]
     rw[e]
     exact this
    refine wp_mono (hw _ A ρ _ w cH) ?_
    rintro e2 a' w' ⟨st2,c2,A',ρ',⟨rfl,rfl,rfl⟩,dn,dJ,cI,QC⟩
    have jk:bJ A A' w:=by
     refine⟨fun b hA=>?_,QC.2⟩
     by_cases hM:o3 ρ hin b∨w.heap.size≤b
     · rcases hM with⟨id,blk,hf,hρ⟩|hs
       · obtain⟨h4,b',hb'⟩:=Kz.1 id blk hf
         exact((dn.heap id b' hb').lt (cI id _ h4 hρ)).2.2
       · have:=hH.bound b hA
         omega
     · exact QC.1 b hA hM
    obtain⟨ws,hvs,hR⟩:=eu dn fZ
    have hm:(fn.results.mapM fun(r:ResultVar)=>match r with
     | .tmp t=>(pure (a'.tmps.getD t undef):Sem Value)
     | .cell b t=>do loadVar t (←asAddr (a'.tmps.getD b undef))).run P w'= .ok ws.toArray w':=by
     rw[Array.mapM_eq_mapM_toList]
     simp only[Sem.run_map]
     exact(congrArg (fun r:Result (List Value)=>Result.andThen r fun a w'=>Result.ok a.toArray w') hvs).trans rfl
    have hrun:(results fn a'.tmps).run P w'= .ok (if h:ws.toArray.size=1 then ws.toArray[0]else .tuple ws.toArray) w':=by
     show(Bind.bind (fn.results.mapM fun(r:ResultVar)=>match r with
      | .tmp t=>(pure (a'.tmps.getD t undef):Sem Value)
      | .cell b t=>do loadVar t (←asAddr (a'.tmps.getD b undef))) fun vs=>Pure.pure (if h:vs.size=1 then vs[0]else .tuple vs)).run P w'=_
     rw[Sem.run_bind,hm]
     rfl
    have Jb: ∀k b,find hin k=some b→ ∃l,ρ k=some l∧ρ' k=some l:=by
     intro k b hk
     obtain⟨l,hl⟩:=(hH.heap k b hk).some
     exact⟨l,hl,cI k l (Kz.1 k b hk).1 hl⟩
    have SH:=Rel.forget dn (st':=⟨fn.ntmps,bh,pU aH⟩) rfl (fun _ _ h=>h) (fun id b h=>(lF h).2)
    have hB: ∀id blk b,find (pU aH) id=some blk→ρ' id=some (.fN b)→¬A b:=by
     intro id blk b hf hρ hA
     obtain⟨bN,hf⟩:=lF hf
     have hM:=(Rel.own dn hf hρ).1
     rcases hM with⟨id',fz,me,hρ'⟩|hM
     · obtain⟨h4,b',hb'⟩:=Kz.1 id' fz me
       have:=dn.inj id id' blk b' b hf hb' hρ (cI id' _ h4 hρ')
       omega
     · have:=hH.bound b hA
       omega
    have cell: ∀ {c:C} {y:Value},Gg hin c=true→RC w' A' ρ' c y→RC w' A ρ c y:=by
     intro c y hc hy
     cases c with
     |t x=>exact RT.keeps (w:=w') ⟨Nat.le_refl _,fun b _ hn=>⟨rfl,fun hb=>hn (jk.1 b hb)⟩⟩ hy
     |own id sz i len=>
      simp only[Gg]at hc
      obtain⟨b0,hb0⟩:=Option.isSome_iff_exists.1 hc
      obtain⟨l,h1,h2⟩:=Jb id b0 hb0
      rcases hy with⟨b,cap,q,e,k1,k2⟩|⟨k1,k2⟩
      · rw[h2]at k1;exact .inl ⟨b,cap,q,e,by rw[h1];exact k1,k2⟩
      · rw[h2]at k1;exact .inr ⟨by rw[h1];exact k1,k2⟩
     |ptr id sz i j=>
      simp only[Gg]at hc
      obtain⟨b0,hb0⟩:=Option.isSome_iff_exists.1 hc
      obtain⟨l,h1,h2⟩:=Jb id b0 hb0
      obtain⟨b,k1,k2⟩:=hy
      rw[h2]at k1
      exact⟨b,by rw[h1];exact k1,k2⟩
     |jB f da=>
      simp only[Gg,List.all_eq_true]at hc
      obtain⟨vs,k1,k2,k3⟩:=hy
      refine⟨vs,k1,k2,fun k id sz i j x h1 h2=>?_⟩
      obtain⟨b0,hb0⟩:=Option.isSome_iff_exists.1 (hc _ (List.mem_of_getElem? h1))
      obtain⟨l,g1,g2⟩:=Jb id b0 hb0
      obtain⟨b,p1,p2⟩:=k3 k id sz i j x h1 h2
      rw[g2]at p1
      exact⟨b,by rw[g1];exact p1,p2⟩
     |_=>simp[Gg]at hc
    have hheap: ∀id blk,find hout id=some blk→HB w' (fun b=>o3 ρ hin b∨w.heap.size≤b) A ρ id blk:=by
     intro id blk hf
     obtain⟨me,B7,hrow⟩:=Kz.2 id blk hf
     obtain⟨b0,hb0⟩:=Option.isSome_iff_exists.1 B7
     obtain⟨l,h1,h2⟩:=Jb id b0 hb0
     have hbk:=dn.heap id blk me
     cases blk with
     |row sz ys=>
      obtain⟨q1,q2⟩:=hbk
      refine⟨q1,?_⟩
      rcases q2 with⟨b,c,e,k1,k2,k3,k4,k5,k6⟩|⟨k1,k2⟩
      · rw[h2]at k1
        refine .inl ⟨b,c,e,by rw[h1];exact k1,k2,((hH.heap id b0 hb0).lt (by rw[h1];exact k1)).2.2,k4,k5,fun i el j q hi hj=>?_⟩
        obtain⟨y,hy,rT,uN⟩:=k6 i el j q hi hj
        exact⟨y,hy,cell (hrow el (List.mem_of_getElem? hi) q (List.mem_of_getElem? hj)) rT,uN⟩
      · rw[h2]at k1
        exact .inr ⟨by rw[h1];exact k1,k2⟩
     |mp es clock=>exact hrow.elim
    have hlen:=gK hts
    have one: ∀ (k:Nat) (u:W) (y:Value),ts[k]? =some u→(∀v,vs[k]? =some v→RW w' A' ρ' v y)→RW w' A ρ u y:=by
     intro k u y hu hv
     obtain⟨v,jW,EC⟩:=ew hts k u hu
     unfold yw at EC
     split at EC
     · rename_i B7
       simp only[Option.some.injEq]at EC
       subst EC
       have hvv:=hv v jW
       cases v with
       |one c=>exact⟨cell B7 hvv.1,hvv.2⟩
       |agg cs=>
        obtain⟨vs',g1,g2,g3⟩:=hvv
        exact⟨vs',g1,g2,fun k c x hc hx=>⟨cell (List.all_eq_true.1 B7 c (List.mem_of_getElem? hc)) (g3 k c x hc hx).1,(g3 k c x hc hx).2⟩⟩
     · exact iy SH (fun b hb=>jk.1 b hb) hB EC (hv v jW) ρ
    have fin:a'.defers=[]∧ ∃v,(results fn a'.tmps).run P w'= .ok v w'∧ ∃x A' ρ' F',Ending.returned v= .returned x∧RV w' A' ρ' (aT ts) x∧HR (fun b=>o3 ρ hin b∨w.heap.size≤b) A' ρ' F' hout w'∧
     df (fun b=>o3 ρ hin b∨w.heap.size≤b) w w'∧iO ρ ρ'∧bJ A A' w:=by
     refine⟨dn.defers,_,hrun,_,A,ρ,bC 4,rfl,?_,⟨rfl,rfl,fun t v hv=>by simp[find]at hv,hheap,fun id id' b b' q h1 h2 r1 r2=>by obtain⟨g1,e1,_⟩:=Kz.2 id b h1;obtain⟨g2,e2,_⟩:=Kz.2 id' b' h2;obtain⟨c1,d1⟩:=Option.isSome_iff_exists.1 e1;obtain⟨c2,d2⟩:=Option.isSome_iff_exists.1 e2;exact dn.inj id id' b b' q g1 g2 (cI id _ (Kz.1 id c1 d1).1 r1) (cI id' _ (Kz.1 id' c2 d2).1 r2),hH.fresh,fun b hb=>Nat.lt_of_lt_of_le (hH.bound b hb) dJ.size,fun b hb=> .inr (Nat.le_trans dJ.size hb),hH.dW.ET dJ (fun _ _ h=>h)⟩,dJ,iO.refl _,bJ.refl _ _⟩
     match vs,ws,ts,hR,hlen,one with
     | [],[],[],_,_,_=>exact⟨#[],by simp,rfl,by simp⟩
     | [u],[v],[t],hR,_,one=>exact one 0 t v rfl (fun v' jW=>by simp only[List.getElem?_cons_zero,Option.some.injEq]at jW;subst jW;exact hR.2 0 u v rfl rfl)
     |u::u2::r,v::v2::s,t::t2::q,hR,hlen,one=>
      have hne:¬ (v::v2::s).toArray.size=1:=by simp
      simp only[hne,dite_false]
      refine⟨_,rfl,?_,fun k x y hx hy=>one k x y hx (fun v' jW=>hR.2 k v' y jW (by simpa using hy))⟩
      have:=hR.1
      simp at this hlen⊢
      omega
     | [],_::_,_,hR,_,_=>exact absurd hR.1 (by simp)
     |_::_,[],_,hR,_,_=>exact absurd hR.1 (by simp)
     | [_],_::_::_,_,hR,_,_=>exact absurd hR.1 (by simp)
     |_::_::_,[_],_,hR,_,_=>exact absurd hR.1 (by simp)
     | [],[],_::_,_,hlen,_=>simp at hlen
     | [_],[_],[],_,hlen,_=>simp at hlen
     | [_],[_],_::_::_,_,hlen,_=>simp at hlen
     |_::_::_,_::_::_,[],_,hlen,_=>simp at hlen
     |_::_::_,_::_::_,[_],_,hlen,_=>simp at hlen
    rcases he with rfl|rfl
    · exact fin
    · exact fin
 cases e with
 |normal=>obtain⟨us,ts,hout,h1,h2,h3,h4⟩:=hq;exact main us ts hout (.inl rfl) h1 h2 h3 h4
 |ret=>obtain⟨us,ts,hout,h1,h2,h3,h4⟩:=hq;exact main us ts hout (.inr rfl) h1 h2 h3 h4
 |_=>exact hq.elim
def PM (P:Program) (rs:List ResultVar) (Good:List W→HS→Prop):Exit→TS→HS→Nat→Prop
 | .normal,tm,hp,_| .ret,tm,hp,_=> ∃us ids,aP P hp tm rs=some us∧(ids.length≤4∧ids.Nodup)∧Good (us.map (W.az (bB ids))) (cL (bB ids) hp 0 ids)
 |_,_,_,_=>False
theorem vg {f:FuncId} {fn:Func} {c:Code} {r:Rc} {args:List W} {n:Nat} {rs:List ResultVar} {Good:List W→HS→Prop} (hf:P.funcs[f]? =some fn) (hb:fn.body=some c) (hr:ae P c=some r)
 (hn:fn.ntmps=n) (eP:fn.results.toList=rs) (hl:args.length≤n) (h:X P n r (PM P rs Good) (de 0 args) [] 4): ∃ts hout,zQ P f args (aT ts) hout∧Good ts hout:=by
 subst hn
 subst eP
 obtain⟨e,st',c',⟨hn',hq⟩,hw⟩:=X.MB hr h
 obtain⟨n',bh,aH⟩:=st'
 simp only at hn' hq
 subst hn'
 have main: ∀us ids,rR e→aP P aH bh fn.results.toList=some us→(ids.length≤4∧ids.Nodup)→Good (us.map (W.az (bB ids))) (cL (bB ids) aH 0 ids)→ ∃ts hout,zQ P f args (aT ts) hout∧Good ts hout:=by
  intro vs ids he fZ aoU hg
  obtain⟨aBy,EA⟩:=aoU
  refine⟨_,_,?_,hg⟩
  intro w A xs hH hxs
  refine calls_of_wp hf hb ?_
  have hl':args.length=xs.size:=by simpa using hxs.1
  have cH:Rel (fun b=>o3 (fun _=>none) [] b∨w.heap.size≤b) A (fun _=>none) (bC 4) ⟨fn.ntmps,de 0 args,[]⟩ {tmps:=xs++Array.replicate (fn.ntmps - xs.size) undef,defers:=[]} w:=by
   refine⟨by simp;omega,rfl,fun t v hv=>?_,hH.heap,hH.inj,hH.fresh,hH.bound,hH.may,hH.dW⟩
   obtain⟨_,u,hu,rfl⟩:=eE _ _ _ _ hv
   simp only[Nat.sub_zero]at hu
   have ht:t < xs.size:=by rw[←hl'];exact(List.getElem?_eq_some_iff.1 hu).1
   have AD:xs.toList[t]? =some xs[t]:=by simp[ht]
   have:=hxs.2 t u _ hu AD
   have e:(xs++Array.replicate (fn.ntmps - xs.size) undef).getD t undef=xs[t]:=by simp[Array.getD_eq_getD_getElem?,Array.getElem?_append_left ht,ht]
   rw[e]
   exact this
  refine wp_mono (hw _ A _ _ w cH) ?_
  rintro e2 a' w' ⟨st2,c2,A',ρ',⟨rfl,rfl,rfl⟩,dn,dJ,cI,QC⟩
  have jk:=xC hH.bound QC
  obtain⟨ws,hvs,hR⟩:=eu dn fZ
  have hm:(fn.results.mapM fun(r:ResultVar)=>match r with
   | .tmp t=>(pure (a'.tmps.getD t undef):Sem Value)
   | .cell b t=>do loadVar t (←asAddr (a'.tmps.getD b undef))).run P w'= .ok ws.toArray w':=by
   rw[Array.mapM_eq_mapM_toList]
   simp only[Sem.run_map]
   exact(congrArg (fun r:Result (List Value)=>Result.andThen r fun a w'=>Result.ok a.toArray w') hvs).trans rfl
  have hrun:(results fn a'.tmps).run P w'= .ok (if h:ws.toArray.size=1 then ws.toArray[0]else .tuple ws.toArray) w':=by
   show(Bind.bind (fn.results.mapM fun(r:ResultVar)=>match r with
    | .tmp t=>(pure (a'.tmps.getD t undef):Sem Value)
    | .cell b t=>do loadVar t (←asAddr (a'.tmps.getD b undef))) fun vs=>Pure.pure (if h:vs.size=1 then vs[0]else .tuple vs)).run P w'=_
   rw[Sem.run_bind,hm]
   rfl
  let ρ2:Env:=fun j=>(ids[j]?).bind ρ'
  have hρ2: ∀id k l,bB ids id=some k→ρ' id=some l→ρ2 k=some l:=by
   intro id k l h1 h2
   simp only[ρ2,dV h1,Option.bind_some,h2]
  have hidx: ∀ {i j id:Nat},ids[i]? =some id→ids[j]? =some id→i=j:=by
   intro i j id h1 h2
   obtain⟨hi,e1⟩:=List.getElem?_eq_some_iff.1 h1
   obtain⟨hj,e2⟩:=List.getElem?_eq_some_iff.1 h2
   exact(List.getElem_inj EA).1 (e1.trans e2.symm)
  have hlen:(vs.map (W.az (bB ids))).length=vs.length:=by simp
  have one: ∀ (k:Nat) (u:W) (y:Value),(vs.map (W.az (bB ids)))[k]? =some u→(∀v,vs[k]? =some v→RW w' A' ρ' v y)→RW w' A' ρ2 u y:=by
   intro k u y hu hv
   simp only[List.getElem?_map,Option.map_eq_some_iff]at hu
   obtain⟨v,jW,rfl⟩:=hu
   exact(hv v jW).az hρ2
  have fin:a'.defers=[]∧ ∃v,(results fn a'.tmps).run P w'= .ok v w'∧ ∃x A' ρ' F',Ending.returned v= .returned x∧RV w' A' ρ' (aT (vs.map (W.az (bB ids)))) x∧HR (fun b=>o3 (fun _=>none) [] b∨w.heap.size≤b) A' ρ' F' (cL (bB ids) aH 0 ids) w'∧
   df (fun b=>o3 (fun _=>none) [] b∨w.heap.size≤b) w w'∧bJ A A' w:=by
   refine⟨dn.defers,_,hrun,_,A',ρ2,bC 4,rfl,?_,⟨rfl,rfl,fun t v hv=>by simp[find]at hv,?_,?_,?_,dn.bound,fun b hb=> .inr (Nat.le_trans dJ.size hb),dn.dW⟩,dJ,jk⟩
   · generalize hts:vs.map (W.az (bB ids))=ts at hlen one⊢
     clear hts
     match vs,ws,ts,hR,hlen,one with
     | [],[],[],_,_,_=>exact⟨#[],by simp,rfl,by simp⟩
     | [u],[v],[t],hR,_,one=>exact one 0 t v rfl (fun v' jW=>by simp only[List.getElem?_cons_zero,Option.some.injEq]at jW;subst jW;exact hR.2 0 u v rfl rfl)
     |u::u2::r,v::v2::s,t::t2::q,hR,hlen,one=>
      have hne:¬ (v::v2::s).toArray.size=1:=by simp
      simp only[hne,dite_false]
      refine⟨_,rfl,?_,fun k x y hx hy=>one k x y hx (fun v' jW=>hR.2 k v' y jW (by simpa using hy))⟩
      have:=hR.1
      simp at this hlen⊢
      omega
     | [],_::_,_,hR,_,_=>exact absurd hR.1 (by simp)
     |_::_,[],_,hR,_,_=>exact absurd hR.1 (by simp)
     | [_],_::_::_,_,hR,_,_=>exact absurd hR.1 (by simp)
     |_::_::_,[_],_,hR,_,_=>exact absurd hR.1 (by simp)
     | [],[],_::_,_,hlen,_=>simp at hlen
     | [_],[_],[],_,hlen,_=>simp at hlen
     | [_],[_],_::_::_,_,hlen,_=>simp at hlen
     |_::_::_,_::_::_,[],_,hlen,_=>simp at hlen
     |_::_::_,_::_::_,[_],_,hlen,_=>simp at hlen
   · intro j blk hf
     obtain⟨i,id,b',rfl,h2,h3,rfl⟩:=cr hf
     exact(dn.heap id b' h3).az hρ2 (fun l hl=>by simp only[Nat.zero_add,ρ2,h2,Option.bind_some,hl]) (fun b _ hb=>hb)
   · intro j j' blk fz b h1 h2 r1 r2
     obtain⟨i,id,b1,rfl,h3,h4,_⟩:=cr h1
     obtain⟨i',id',b2,rfl,KG,OF,_⟩:=cr h2
     simp only[Nat.zero_add,ρ2,h3,KG,Option.bind_some]at r1 r2
     have:=dn.inj id id' b1 b2 b h4 OF r1 r2
     subst this
     rw[hidx h3 KG]
   · intro j hj
     simp only[ρ2]
     rw[List.getElem?_eq_none (by simp only[bC]at hj;omega)]
     rfl
  rcases he with rfl|rfl
  · exact fin
  · exact fin
 cases e with
 |normal=>obtain⟨us,ids,h1,h2,h3⟩:=hq;exact main us ids (.inl rfl) h1 h2 h3
 |ret=>obtain⟨us,ids,h1,h2,h3⟩:=hq;exact main us ids (.inr rfl) h1 h2 h3
 |_=>exact hq.elim
theorem Cw {f:FuncId} {us:List W} {hp hout:HS} {ctr:Nat} {v:V} (hT:tg us=true) (h:zQ P f us v hout):ej P hp ctr f us (v.up ctr) (fB ctr hout++hp):=
 .inl ⟨v,hout,us,h,rfl,rfl, .inl ⟨rfl,hT⟩⟩
end Go.aU
end
section
namespace Go.aU
open Go
variable {P:Program}
def pO {α:Sort _}:TS→(TS→α)→α
 | [],k=>k []
 |p::r,k=>match p with
  |(t,v)=>rX v fun v=>pO r fun r=>k ((t,v)::r)
theorem fS {α:Sort _}: ∀ (l:TS) (k:TS→α),pO l k=k l
 | [],_=>rfl
 |(t,v)::r,k=>by simp only[pO,dO];rw[fS r]
def Ru (k:Nat) (v:V):TS→TS
 | []=>[]
 |p::r=>match p with
  |(t,u)=>if t=k then(t,v)::r else(t,u)::Ru k v r
def j6:List Nat→List V→TS→TS
 |k::ks,v::vs,tm=>j6 ks vs (Ru k v tm)
 |_,_,tm=>tm
def Sa (x:Nat):List Nat→Bool
 | []=>false
 |y::r=>match Nat.beq x y with
  |true=>true
  |false=>Sa x r
def ru:List Nat→List Nat→List Nat
 |acc,[]=>acc
 |acc,x::r=>match Nat.blt x 4 with
  |true=>ru acc r
  |false=>match Sa x acc with
   |true=>ru acc r
   |false=>ru (acc++[x]) r
def xD {α:Sort _}:List Nat→(List Nat→α)→α
 | [],k=>k []
 |x::r,k=>qS x fun x=>xD r fun r=>k (x::r)
def zF (tm:TS):List Nat→List Nat→List Nat
 |acc,[]=>acc
 |acc,k::ks=>match find tm k with
  |some v=>xD (ru acc v.ids) fun acc=>zF tm acc ks
  |none=>zF tm acc ks
def ja (tm:TS) (hp:HS):List Nat→List (Nat×Nat)→List Nat
 |acc,[]=>acc
 |acc,(k,j)::r=>match find tm k with
  |some (.w (.one (.ptr id _ i _)))=>match find hp id with
   |some (.row _ xs)=>match xs[i]? with
    |some e=>match e[j]? with
     |some c=>xD (ru acc c.ids) fun acc=>ja tm hp acc r
     |none=>ja tm hp acc r
    |none=>ja tm hp acc r
   |_=>ja tm hp acc r
  |some (.w (.one (.own id _ i _)))=>match find hp id with
   |some (.row _ xs)=>match xs[i+j]? with
    |some (c::_)=>xD (ru acc c.ids) fun acc=>ja tm hp acc r
    |_=>ja tm hp acc r
   |_=>ja tm hp acc r
  |_=>ja tm hp acc r
def RY:Nat→List Nat→List (Nat×Nat)
 |_,[]=>[]
 |c,x::r=>(x,c)::RY (c+4) r
def vM (keys:List Nat) (nest:List (Nat×Nat)) (tm:TS) (hp:HS):Ren:=
 xD (zF tm [] keys) fun l0=>xD (ja tm hp l0 nest) fun l=>⟨keys,RY 4 l,4+4 * l.length⟩
def Dj {α:Sort _}:List (Nat×Nat)→(List (Nat×Nat)→α)→α
 | [],k=>k []
 |p::r,k=>match p with
  |(a,b)=>qS a fun a=>qS b fun b=>Dj r fun r=>k ((a,b)::r)
theorem AR {α:Sort _}: ∀ (l:List (Nat×Nat)) (k:List (Nat×Nat)→α),Dj l k=k l
 | [],_=>rfl
 |(a,b)::r,k=>by simp only[Dj,iC];rw[AR r]
def AQ {α:Sort _} (S:Ren) (k:Ren→α):α:=
 match S with
 |⟨keys,ids,ctr⟩=>Dj ids fun ids=>qS ctr fun ctr=>k ⟨keys,ids,ctr⟩
theorem nn {α:Sort _} (S:Ren) (k:Ren→α):AQ S k=k S:=by cases S;simp only[AQ,AR,iC]
def qT {α:Sort _}:HS→(HS→α)→α
 | [],k=>k []
 |p::r,k=>match p with
  |(t, .row sz xs)=>qT r fun r=>k ((t, .row sz xs)::r)
  |(t, .mp es c)=>qT r fun r=>k ((t, .mp es c)::r)
theorem iD {α:Sort _}: ∀ (l:HS) (k:HS→α),qT l k=k l
 | [],_=>rfl
 |(t, .row _ _)::r,k=>by simp only[qT];rw[iD r]
 |(t, .mp _ _)::r,k=>by simp only[qT];rw[iD r]
theorem aO {n:Nat} {b:Rc} {Q:Exit→TS→HS→Nat→Prop} {tm:TS} {hp:HS} {ctr:Nat} (keys:List Nat) (nest:List (Nat×Nat)) (ks:List Nat) (R:Nat→List V→Prop) (m0:Nat) (xY:List V) {lc:TS} {hpB:HS} {cB:Nat}
 (hB:AQ (vM keys nest tm hp) fun S=>pO (S.tm tm) fun t=>qT (S.hp hp) fun q=>S.ok=true∧t=lc∧q=hpB∧S.ctr=cB)
 (DG:lc.length=keys.length) (h0:lc=j6 ks xY lc) (Jj:R m0 xY)
 (hstep: ∀m vs,R m vs→pO (j6 ks vs lc) fun ny=>X P n b (gZ (bQ fun bh aH c'=> ∃m' vs',R m' vs'∧bh=j6 ks vs' lc∧aH=hpB∧c'=cB∧m' < m) Q) ny hpB cB):
 ∃I:Nat→TS→HS→Nat→Prop,bQ (fun tm hp c=> ∃m,I m tm hp c) tm hp ctr∧
  ∀m tm hp c,I m tm hp c→X P n b (gZ (bQ fun tm hp c=> ∃m',m' < m∧I m' tm hp c) Q) tm hp c:=by
 rw[nn,fS,iD]at hB
 obtain⟨hS,e1,e2,e3⟩:=hB
 refine⟨fun m bh aH c'=> ∃vs',R m vs'∧bh=j6 ks vs' lc∧aH=hpB∧c'=cB,bQ.mk' ⟨vM keys nest tm hp,hS,m0,xY,Jj,e1.trans h0,e2,e3⟩,?_⟩
 rintro m bh hq c' ⟨vs,hR,rfl,rfl,rfl⟩
 have:=hstep m vs hR
 rw[fS]at this
 refine(congrArg (fun J=>X P n b (gZ (bQ J) Q) _ _ _) ?_).mp this
 funext bh aH c''
 exact propext ⟨fun⟨m',vs',h1,h2,h3,h4,h5⟩=>⟨m',h5,vs',h1,h2,h3,h4⟩,fun⟨m',h5,vs',h1,h2,h3,h4⟩=>⟨m',vs',h1,h2,h3,h4,h5⟩⟩
theorem ct {n:Nat} {b:Rc} {Q:Exit→TS→HS→Nat→Prop} {tm:TS} {hp:HS} {ctr:Nat} (keys:List Nat) (nest:List (Nat×Nat)) (ks:List Nat) (R:Nat→List V→HS→Prop) (m0:Nat) (xY:List V) {lc:TS} {oZ:HS} {cB:Nat}
 (hB:AQ (vM keys nest tm hp) fun S=>pO (S.tm tm) fun t=>qT (S.hp hp) fun q=>S.ok=true∧t=lc∧q=oZ∧S.ctr=cB)
 (DG:lc.length=keys.length) (h0:lc=j6 ks xY lc) (Jj:R m0 xY oZ)
 (hstep: ∀m vs hq,R m vs hq→pO (j6 ks vs lc) fun ny=>X P n b (gZ (bQ fun bh aH c'=> ∃m' vs',R m' vs' aH∧bh=j6 ks vs' lc∧c'=cB∧m' < m) Q) ny hq cB):
 ∃I:Nat→TS→HS→Nat→Prop,bQ (fun tm hp c=> ∃m,I m tm hp c) tm hp ctr∧
  ∀m tm hp c,I m tm hp c→X P n b (gZ (bQ fun tm hp c=> ∃m',m' < m∧I m' tm hp c) Q) tm hp c:=by
 rw[nn,fS,iD]at hB
 obtain⟨hS,e1,e2,e3⟩:=hB
 refine⟨fun m bh aH c'=> ∃vs',R m vs' aH∧bh=j6 ks vs' lc∧c'=cB,bQ.mk' ⟨vM keys nest tm hp,hS,m0,xY,by rw[e2];exact Jj,e1.trans h0,e3⟩,?_⟩
 rintro m bh hq c' ⟨vs,hR,rfl,rfl⟩
 have:=hstep m vs hq hR
 rw[fS]at this
 refine(congrArg (fun J=>X P n b (gZ (bQ J) Q) _ _ _) ?_).mp this
 funext bh aH c''
 exact propext ⟨fun⟨m',vs',h1,h2,h4,h5⟩=>⟨m',h5,vs',h1,h2,h4⟩,fun⟨m',h5,vs',h1,h2,h4⟩=>⟨m',vs',h1,h2,h4,h5⟩⟩
def kq (Pd:List T→Prop) (rows:List (List C)):Prop:= ∀r,r∈rows→ ∃e,r=e.map .t∧Pd e
theorem C8 (e:List T) (f:Nat→Option Nat):(e.map C.t).map (C.az f)=e.map C.t:=by
 rw[List.map_map]
 rfl
theorem kq.az {Pd:List T→Prop} {rows:List (List C)} (h:kq Pd rows) (f:Nat→Option Nat):kq Pd (rows.map fun e=>e.map (C.az f)):=by
 intro r hr
 simp only[List.mem_map]at hr
 obtain⟨r',dn,rfl⟩:=hr
 obtain⟨e,rfl,he⟩:=h r' dn
 exact⟨e,C8 e f,he⟩
theorem kq.set {Pd:List T→Prop} {rows:List (List C)} (h:kq Pd rows) {i:Nat} {e:List T} (he:Pd e):kq Pd (rows.set i (e.map .t)):=by
 intro r hr
 rcases List.mem_or_eq_of_mem_set hr with hr|rfl
 · exact h r hr
 · exact⟨e,rfl,he⟩
theorem kq.snoc {Pd:List T→Prop} {rows:List (List C)} (h:kq Pd rows) {e:List T} (he:Pd e):kq Pd (rows++[e.map .t]):=by
 intro r hr
 simp only[List.mem_append,List.mem_singleton]at hr
 rcases hr with hr|rfl
 · exact h r hr
 · exact⟨e,rfl,he⟩
theorem kq.replicate {Pd:List T→Prop} {n:Nat} {e:List T} (he:Pd e):kq Pd (List.replicate n (e.map .t)):=by
 intro r hr
 obtain⟨_,rfl⟩:=List.mem_replicate.1 hr
 exact⟨e,rfl,he⟩
theorem CL {Pd:List T→Prop} {rows:List (List C)} {i:Nat} {K:List C→Prop} (h:kq Pd rows) (hi:i < rows.length) (hk: ∀e,Pd e→rows[i]? =some (e.map .t)→K (e.map .t)):sJ rows i K:=by
 obtain⟨e,he,hp⟩:=h _ (List.getElem_mem hi)
 have:rows[i]? =some (e.map .t):=by rw[←he];simp[hi]
 simp only[sJ,this]
 exact hk e hp this
theorem AP {Pd:List T→Prop} {hp:HS} {d:Nat}: ∀ {rows:List (List C)},kq Pd rows→ ∃xs,bK (bK (cV d hp)) rows=some xs∧xs.length=rows.length∧ ∀e,e∈xs→Pd e
 | [],_=>⟨[],rfl,rfl,by simp⟩
 |r::rows,h=>by
  obtain⟨xs,h1,h2,h3⟩:=AP (hp:=hp) (d:=d) (rows:=rows) (fun q hq=>h q (List.mem_cons_of_mem _ hq))
  obtain⟨e,rfl,he⟩:=h r List.mem_cons_self
  have hone: ∀e:List T,bK (cV d hp) (e.map .t)=some e:=by
   intro e
   induction e with
   |nil=>rfl
   |cons x e ih=>
    have:cV d hp (.t x)=some x:=by cases d<;>rfl
    simp only[List.map_cons,bK,this,ih]
  refine⟨e::xs,by simp only[bK,hone,h1],by simp[h2],fun q hq=>?_⟩
  rcases List.mem_cons.1 hq with rfl|hq
  · exact he
  · exact h3 q hq
def GL (sz:Nat) (p:Lz→Prop) (ts:List W):Prop:= ∃xs,ts=[.one (.t (.aA sz xs))]∧p xs
theorem gL {rs:List ResultVar} {tm:TS} {hp:HS} {t id sz:Nat} {rows:List (List C)} {Pd:List T→Prop} {len:Nat} {p:Lz→Prop} (hr:rs=[.tmp t]) (h:find tm t=some (.w (.one (.own id sz 0 len)))) (hf:find hp id=some (.row sz rows)) (hl:len=rows.length)
 (hc:kq Pd rows) (hg: ∀xs,xs.length=rows.length→(∀e,e∈xs→Pd e)→p xs): ∃us ts,aP P hp tm rs=some us∧bK (bM hp) us=some ts∧GL sz p ts:=by
 subst hr
 subst hl
 obtain⟨xs,h1,h2,h3⟩:=AP (hp:=hp) (d:=5) hc
 refine⟨[.one (.own id sz 0 rows.length)],[.one (.t (.aA sz xs))],by simp only[aP,cv,h],?_,xs,rfl,hg xs h2 h3⟩
 have hz:cV 6 hp (.own id sz 0 rows.length)=some (.aA sz xs):=by
  have e0:(rows.drop 0).take rows.length=rows:=by simp
  simp only[cV,hf,Nat.zero_add,Nat.le_refl,and_self,if_true,e0,h1,Option.map_some]
 simp only[bK,bM,hz,Option.map_some]
theorem gLt {rs:List ResultVar} {tm:TS} {hp:HS} {t sz:Nat} {xs:Lz} {p:Lz→Prop} (hr:rs=[.tmp t]) (h:find tm t=some (.w (.one (.t (.aA sz xs))))) (hg:p xs): ∃us ts,aP P hp tm rs=some us∧bK (bM hp) us=some ts∧GL sz p ts:=by
 subst hr
 exact⟨[.one (.t (.aA sz xs))],[.one (.t (.aA sz xs))],by simp only[aP,cv,h],rfl,xs,rfl,hg⟩
theorem au {J:TS→HS→Nat→Prop} {tm:TS} {hp:HS} {ctr:Nat} (keys:List Nat) (nest:List (Nat×Nat))
 (h:AQ (vM keys nest tm hp) fun S=>pO (S.tm tm) fun t=>qT (S.hp hp) fun q=>S.ok=true∧J t q S.ctr):bQ J tm hp ctr:=by
 rw[nn,fS,iD]at h
 exact .mk _ h.1 h.2
theorem ai {f:FuncId} {us:List W} {hp:HS} {ctr:Nat} {K:V→HS→Nat→Prop} {Good:List W→Prop} (hT:tg us=true) (h: ∃ts,Fn P f us [] (aT ts) []∧(aT ts).cq=true∧Good ts)
 (hk: ∀ts,Good ts→K (aT ts) hp (ctr+4)): ∃v aH c',eo P f us hp ctr v aH c'∧K v aH c':=by
 obtain⟨ts,h1,h2,h3⟩:=h
 exact⟨_,_,_,lJ (fh h2 hT h1),hk ts h3⟩
theorem aB {f:FuncId} {us:List W} {hp:HS} {ctr:Nat} {K:V→HS→Prop} {Good:List W→Prop} (hT:tg us=true) (h: ∃ts,Fn P f us [] (aT ts) []∧(aT ts).cq=true∧Good ts)
 (hk: ∀ts,Good ts→K (aT ts) hp): ∃v aH,ej P hp ctr f us v aH∧K v aH:=by
 obtain⟨ts,h1,h2,h3⟩:=h
 exact⟨_,_,fh h2 hT h1,hk ts h3⟩
theorem qm {f:FuncId} {us ts:List W} {hp:HS} {ctr:Nat} {K:V→HS→Nat→Prop} {Good:List W→Prop} (hl:bK (bM hp) us=some ts) (h: ∃rs,Fn P f ts [] (aT rs) []∧(aT rs).cq=true∧Good rs)
 (hf: ∀rs,Good rs→(aT rs).flat=true) (hk: ∀rs,Good rs→K (aT rs) hp (ctr+4)): ∃v aH c',eo P f us hp ctr v aH c'∧K v aH c':=by
 obtain⟨rs,h1,h2,h3⟩:=h
 exact⟨_,_,_,(lK h2 hl (hf rs h3) h1).m,hk rs h3⟩
theorem eW {f:FuncId} {us args:List W} {hp hin:HS} {ctr:Nat} {K:V→HS→Nat→Prop} {Good:List W→HS→Prop} (ids:List Nat) (hok:uK ids ctr=true) (h: ∃ts hout,Fn P f args hin (aT ts) hout∧Good ts hout)
 (ha:us.map (W.az (bB ids))=args) (hh:cL (bB ids) hp 0 ids=hin) (hk: ∀ts hout,Good ts hout→K ((aT ts).az (gb ids ctr)) (eK (gb ids ctr) hout++iS ids hp) (ctr+4)): ∃v aH c',eo P f us hp ctr v aH c'∧K v aH c':=by
 obtain⟨ts,hout,h1,h2⟩:=h
 exact⟨_,_,_,sy ids hok h1 ha hh,hk ts hout h2⟩
theorem aD {p:Prop} [Decidable p] {x y:Prop} (hx:p→x) (hy:¬p→y):br (decide p) x y:=
 aI (fun h=>hx (of_decide_eq_true h)) (fun h=>hy (of_decide_eq_false h))
theorem DC {a b:Int} {x y:Prop} (hx:a=b→x) (hy:a≠b→y):br (a==b) x y:=aI (fun h=>hx (by simpa using h)) (fun h=>hy (by simpa using h))
theorem bY {a b:Int} {x y:Prop} (hx:a≠b→x) (hy:a=b→y):br (a !=b) x y:=aI (fun h=>hx (by simpa using h)) (fun h=>hy (by simpa using h))
theorem cF {a b:Int} (ha:0≤a):0≤a.tmod b:=Int.tmod_nonneg _ ha
theorem cA {a b:Int} (hb:0 < b):a.tmod b < b:=Int.tmod_lt_of_pos _ hb
theorem rC (n:Int): -9223372036854775808≤IntKind.i64.wrap n∧IntKind.i64.wrap n < 9223372036854775808:=by
 simp only[IntKind.wrap,IntKind.bits,IntKind.signed,Bool.true_and]
 split
 · rename_i h;simp at h⊢;omega
 · rename_i h;simp at h⊢;omega
def RI (N:Nat) (m:Nat) (vs:List V):Prop:= ∃i:Nat,i≤N∧m=N - i∧vs=[iV .i64 (i:Int)]
theorem RI.zero {N:Nat}:RI N N [iV .i64 0]:=⟨0,Nat.zero_le _,rfl,rfl⟩
theorem RI.succ {N i:Nat} (h:i < N) (hN:N≤maxLen):RI N (N - (i+1)) [iV .i64 (IntKind.i64.wrap ((i:Int)+1))]:=
 ⟨i+1,h,rfl,by rw[aa (by omega) (by simp only[maxLen]at hN;omega)];rfl⟩
theorem aC {xs:Lz} {Pd:List T→Prop} {n:Int} {K:List T→Prop} (hx: ∀e,e∈xs→Pd e) (h0:0≤n) (h1:n < (xs.length:Int)) (hk: ∀e,Pd e→xs[n.toNat]? =some e→K e):0≤n∧ ∃e,xs[n.toNat]? =some e∧K e:=by
 have hlt:n.toNat < xs.length:=by omega
 exact⟨h0,xs[n.toNat],by simp[hlt],hk _ (hx _ (List.getElem_mem hlt)) (by simp[hlt])⟩
theorem od {s:ByteArray} {n:Int} {K:UInt8→Prop} (h0:0≤n) (h1:n < (s.size:Int)) (hk: ∀b,K b):0≤n∧ ∃b,s[n.toNat]? =some b∧K b:=by
 have hlt:n.toNat < s.size:=by omega
 exact⟨h0,s[n.toNat],by simp[hlt],hk _⟩
theorem Il {s:ByteArray} {n:Int} {N B:Nat} {K:UInt8→Prop} (hN:s.size=N) (hB:s.data.toList.all (fun b=>Nat.ble b.toNat B)=true) (h0:0≤n) (h1:n < (N:Int)) (hk: ∀b:UInt8,b.toNat≤B→K b):0≤n∧ ∃b,s[n.toNat]? =some b∧K b:=by
 have hlt:n.toNat < s.size:=by omega
 refine⟨h0,s[n.toNat],by simp[hlt],hk _ ?_⟩
 have hm:s[n.toNat]∈s.data.toList:=by
  have:s[n.toNat]=s.data[n.toNat]'hlt:=rfl
  rw[this]
  simp
 exact Nat.le_of_ble_eq_true (List.all_eq_true.1 hB _ hm)
theorem dQ {α:Type} {xs:List α} {Pd:α→Prop} (h: ∀e,e∈xs→Pd e) (a b:Nat): ∀e,e∈ (xs.drop a).take b→Pd e:=fun e he=>h e (List.mem_of_mem_drop (List.mem_of_mem_take he))
theorem ni {α:Type} {xs:List α} {B:Nat} (h:xs.length≤B) (a b:Nat):((xs.drop a).take b).length≤B:=by simp only[List.length_take,List.length_drop];omega
theorem fT {sz:Nat} {xs:Lz} {l h:Nat} {K:C→Prop} (h1:l≤h) (h2:h≤xs.length) (hk:K (.t (.aA sz ((xs.drop l).take (h - l))))):(l≤h∧h≤xs.length)∧vF (.t (.aA sz xs)) l h K:=by
 refine⟨⟨h1,h2⟩,?_⟩
 simp only[vF,zq,if_pos (⟨h1,h2⟩:l≤h∧h≤xs.length)]
 exact hk
theorem og {id sz i len l h:Nat} {K:C→Prop} (h1:l≤h) (h2:h≤len) (hne:h≠l∨l=0) (hk:K (.own id sz (i+l) (h - l))):(l≤h∧h≤len)∧vF (.own id sz i len) l h K:=by
 refine⟨⟨h1,h2⟩,?_⟩
 have e:¬ (h=l∧l≠0):=by omega
 simp only[vF,zq,if_neg e,if_pos (⟨h1,h2⟩:l≤h∧h≤len)]
 exact hk
theorem g1 {rs:List ResultVar} {tm:TS} {hp:HS} {Good:List W→Prop} {t:Nat} {x:T} (hr:rs=[.tmp t]) (h:find tm t=some (.w (.one (.t x)))) (hg:Good [.one (.t x)]):
 ∃us ts,aP P hp tm rs=some us∧bK (bM hp) us=some ts∧Good ts:=by
 subst hr
 exact⟨[.one (.t x)],[.one (.t x)],by simp only[aP,cv,h],rfl,hg⟩
theorem gC {rs:List ResultVar} {tm:TS} {hp:HS} {Good:List W→Prop} {b ty n:Nat} {c:C} {cs:List C} {j:Nat} {ts:List T} (hr:rs=[.cell b ty]) (ha:iT P ty=some true) (hz:cN P ty=some n)
 (h:find tm b=some (.w (.one c))) (hd:deref hp c=some (cs,j)) (hl:j+n≤cs.length) (hts:bK (cV 6 hp) ((cs.drop j).take n)=some ts) (hg:Good [.agg (ts.map .t)]):
 ∃us ts,aP P hp tm rs=some us∧bK (bM hp) us=some ts∧Good ts:=by
 subst hr
 refine⟨[.agg ((cs.drop j).take n)],[.agg (ts.map .t)],?_,?_,hg⟩
 · simp only[aP,cv,h,dX,hd,jt,ha,hz,if_pos hl,Option.map_some]
 · simp only[bK,bM,hts,Option.map_some]
def nN (p:Int→Prop) (ts:List W):Prop:= ∃n,ts=[.one (.t (.val (.int .i64 n)))]∧p n
def J3 (p:Prop) (ts:List W):Prop:= ∃b,ts=[.one (.t (.val (.bool b)))]∧(b=true↔p)
theorem iP {rs:List ResultVar} {tm:TS} {hp:HS} {t:Nat} {n:Int} {p:Int→Prop} (hr:rs=[.tmp t]) (h:find tm t=some (iV .i64 n)) (aH:p n): ∃us ts,aP P hp tm rs=some us∧bK (bM hp) us=some ts∧nN p ts:=g1 hr h ⟨n,rfl,aH⟩
theorem KH {rs:List ResultVar} {tm:TS} {hp:HS} {t:Nat} {b:Bool} {p:Prop} (hr:rs=[.tmp t]) (h:find tm t=some (bV b)) (aH:b=true↔p): ∃us ts,aP P hp tm rs=some us∧bK (bM hp) us=some ts∧J3 p ts:=g1 hr h ⟨b,rfl,aH⟩
def GI (ts:List W):Prop:= ∃n,ts=[.one (.t (.val (.int .i64 n)))]
def GB (ts:List W):Prop:= ∃b,ts=[.one (.t (.val (.bool b)))]
theorem gI {rs:List ResultVar} {tm:TS} {hp:HS} {t:Nat} {n:Int} (hr:rs=[.tmp t]) (h:find tm t=some (iV .i64 n)): ∃us ts,aP P hp tm rs=some us∧bK (bM hp) us=some ts∧GI ts:=g1 hr h ⟨n,rfl⟩
theorem gB {rs:List ResultVar} {tm:TS} {hp:HS} {t:Nat} {b:Bool} (hr:rs=[.tmp t]) (h:find tm t=some (bV b)): ∃us ts,aP P hp tm rs=some us∧bK (bM hp) us=some ts∧GB ts:=g1 hr h ⟨b,rfl⟩
end Go.aU
end
section
namespace Go.aU.Cd
open Go Go.Proofs
set_option maxRecDepth 100000
abbrev Tg (n:Nat) (a:List W) (G:List W→Prop):Prop:= ∃ts,Fn Tryz.prog n a [] (aT ts) []∧(aT ts).cq=true∧G ts
abbrev Te (n:Nat) (a r:List W):Prop:= ∃ts,Fn Tryz.prog n a [] (aT ts) []∧(aT ts).cq=true∧ts=r
abbrev Sp:=Int×Int
abbrev tI (n:Int):T:= .val (.int .i64 n)
abbrev tB (b:Bool):T:= .val (.bool b)
abbrev oI (n:Int):W:= .one (.t (tI n))
abbrev iq (s:Sp):W:= .agg [.t (tI s.1), .t (tI s.2)]
def c88:Rc:=Sq (Rg [Mb 2 false]) (Sq (Rg [Mv 3 0,Mv 4 0,Bt 5 .neq 3 4,Mv 2 5]) Rt)
theorem WG:ae Tryz.prog (Tryz.f88.body.getD .skip)=some c88:=by kernel_rfl
theorem abF:Tryz.f88.body=some (Tryz.f88.body.getD .skip):=rfl
def c65:Rc:=Sq (Rg [Mk 4 0]) (Sq (Rg [Mv 7 0,p 8 (.call 88 [t 7]),Mv 5 8]) (Sq (Rg [Mv 9 1,p 10 (.call 88 [t 9]),Mv 6 10]) (Sq (Sq (Rg [Mv 11 5]) (Cn 11 (Sq (Sq (Rg [Mv 12 6]) (Cn 12 (Sq (Rg [Mk 4 0]) Rt) Sk)) (Sq (Rg [p 4 (.kF (k (-1)))]) Rt)) Sk)) (Sq (Sq (Rg [Mv 13 6]) (Cn 13 (Sq (Rg [Mk 4 1]) Rt) Sk)) (Sq (Sq (Rg [Mv 14 0,Mv 15 1,Bt 16 .lss 14 15]) (Cn 16 (Sq (Rg [p 4 (.kF (k (-1)))]) Rt) Sk)) (Sq (Sq (Rg [Mv 17 0,Mv 18 1,Bt 19 .gtr 17 18]) (Cn 19 (Sq (Rg [Mk 4 1]) Rt) Sk)) (Sq (Rg [Mk 4 0]) Rt)))))))
theorem O9:ae Tryz.prog (Tryz.f65.body.getD .skip)=some c65:=by kernel_rfl
theorem PA:Tryz.f65.body=some (Tryz.f65.body.getD .skip):=rfl
def c80:Rc:=Sq (Rg [Bx 1 0,Mb 2 false]) (Sq (Rg [Fa 3 0 1,Ld 4 3,p 5 (.bin .lss (t 4) (k (-1048576))),Mv 6 5,Ga 6 (Fa 7 0 1),Ga 6 (Ld 8 7),Ga 6 (Bi 9 .gtr 8 1048576),Pt 10 6 9,Mv 11 10,Ga 11 (Fa 12 1 1),Ga 11 (Ld 13 12),Ga 11 (p 14 (.bin .lss (t 13) (k (-1048576)))),Pt 15 11 14,Mv 16 15,Ga 16 (Fa 17 1 1),Ga 16 (Ld 18 17),Ga 16 (Bi 19 .gtr 18 1048576),Pt 20 16 19,Mv 2 20]) Rt)
theorem atI:ae Tryz.prog (Tryz.f80.body.getD .skip)=some c80:=by kernel_rfl
theorem awJ:Tryz.f80.body=some (Tryz.f80.body.getD .skip):=rfl
def aaC:Rc:=Sq (Rg [Bx 3 0,Bx 4 1,Bx 5 2,Mk 6 0]) (Sq (Rg [Fa 7 0 4,Ld 8 7,Fa 9 0 3,Ld 10 9,Bt 11 .sub 8 10,Fa 12 1 5,Ld 13 12,Fa 14 1 3,Ld 15 14,Bt 16 .sub 13 15,Bt 17 .mul 11 16,Fa 18 1 4,Ld 19 18,Fa 20 1 3,Ld 21 20,Bt 22 .sub 19 21,Fa 23 0 5,Ld 24 23,Fa 25 0 3,Ld 26 25,Bt 27 .sub 24 26,Bt 28 .mul 22 27,Bt 29 .sub 17 28,Mv 6 29]) Rt)
theorem Yn:ae Tryz.prog (Tryz.f140.body.getD .skip)=some aaC:=by kernel_rfl
theorem aeY:Tryz.f140.body=some (Tryz.f140.body.getD .skip):=rfl
def aaB:Rc:=Sq (Rg [Bx 3 0,Bx 4 1,Bx 5 2,Mb 6 false]) (Sq (Rg [Lo 2 7 3,Lo 2 8 4,Lo 2 9 5,p 10 (.call 140 [t 7,t 8,t 9]),Bi 11 .eql 10 0,Mv 12 11,Gb 12 (Fa 13 0 3),Gb 12 (Ld 14 13),Gb 12 (Fa 15 0 4),Gb 12 (Ld 16 15),Gb 12 (p 17 (.mu (t 14) (t 16))),Gb 12 (Fa 18 0 5),Gb 12 (Ld 19 18),Gb 12 (Bt 20 .leq 17 19),Pf 21 12 20,Mv 22 21,Gb 22 (Fa 23 0 5),Gb 22 (Ld 24 23),Gb 22 (Fa 25 0 3),Gb 22 (Ld 26 25),Gb 22 (Fa 27 0 4),Gb 22 (Ld 28 27),Gb 22 (p 29 (.nA (t 26) (t 28))),Gb 22 (Bt 30 .leq 24 29),Pf 31 22 30,Mv 32 31,Gb 32 (Fa 33 1 3),Gb 32 (Ld 34 33),Gb 32 (Fa 35 1 4),Gb 32 (Ld 36 35),Gb 32 (p 37 (.mu (t 34) (t 36))),Gb 32 (Fa 38 1 5),Gb 32 (Ld 39 38),Gb 32 (Bt 40 .leq 37 39),Pf 41 32 40,Mv 42 41,Gb 42 (Fa 43 1 5),Gb 42 (Ld 44 43),Gb 42 (Fa 45 1 3),Gb 42 (Ld 46 45),Gb 42 (Fa 47 1 4),Gb 42 (Ld 48 47),Gb 42 (p 49 (.nA (t 46) (t 48))),Gb 42 (Bt 50 .leq 44 49),Pf 51 42 50,Mv 6 51]) Rt)
theorem Ym:ae Tryz.prog (Tryz.f141.body.getD .skip)=some aaB:=by kernel_rfl
theorem aeX:Tryz.f141.body=some (Tryz.f141.body.getD .skip):=rfl
def aaA:Rc:=Sq (Rg [Bx 4 0,Bx 5 1,Bx 6 2,Bx 7 3,Mb 8 false]) (Sq (Dr [Lo 2 9 4,Lo 2 10 5,Lo 2 11 6,p 12 (.call 140 [t 9,t 10,t 11]),p 13 (.call 65 [t 12,(k 0)]),Lo 2 14 4,Lo 2 15 5,Lo 2 16 7,p 17 (.call 140 [t 14,t 15,t 16]),p 18 (.call 65 [t 17,(k 0)]),Bt 19 .mul 13 18,Bi 20 .lss 19 0,Mv 8 20] [[],[],[],[0,1,2],[3,3],[],[],[],[5,6,7,4],[8,8],[4,9],[10],[11,9,0,1,2,3,4,5,6,7,8,9,10,11]]) Rt)
theorem Yl:ae Tryz.prog (Tryz.f142.body.getD .skip)=some aaA:=by kernel_rfl
theorem aeW:Tryz.f142.body=some (Tryz.f142.body.getD .skip):=rfl
def aaW:Rc:=Sq (Rg [Bx 4 0,Bx 5 1,Bx 6 2,Bx 7 3,Mb 8 false]) (Sq (Rg [Lo 2 9 4,Lo 2 10 5,Lo 2 11 6,p 12 (.call 141 [t 9,t 10,t 11]),Mv 13 12,Ga 13 (Lo 2 14 4),Ga 13 (Lo 2 15 5),Ga 13 (Lo 2 16 7),Ga 13 (p 17 (.call 141 [t 14,t 15,t 16])),Pt 18 13 17,Mv 19 18,Ga 19 (Lo 2 20 6),Ga 19 (Lo 2 21 7),Ga 19 (Lo 2 22 4),Ga 19 (p 23 (.call 141 [t 20,t 21,t 22])),Pt 24 19 23,Mv 25 24,Ga 25 (Lo 2 26 6),Ga 25 (Lo 2 27 7),Ga 25 (Lo 2 28 5),Ga 25 (p 29 (.call 141 [t 26,t 27,t 28])),Pt 30 25 29,Mv 31 30,Ga 31 (Lo 2 32 4),Ga 31 (Lo 2 33 5),Ga 31 (Lo 2 34 6),Ga 31 (Lo 2 35 7),Ga 31 (p 36 (.call 142 [t 32,t 33,t 34,t 35])),Ga 31 (Mv 37 36),Gb 37 (Lo 2 38 6),Gb 37 (Lo 2 39 7),Gb 37 (Lo 2 40 4),Gb 37 (Lo 2 41 5),Gb 37 (p 42 (.call 142 [t 38,t 39,t 40,t 41])),Ga 31 (Pf 43 37 42),Pt 44 31 43,Mv 8 44]) Rt)
theorem YG:ae Tryz.prog (Tryz.f108.body.getD .skip)=some aaW:=by kernel_rfl
theorem afR:Tryz.f108.body=some (Tryz.f108.body.getD .skip):=rfl
def aaX:Rc:=Sq (Rg [Bx 3 0,Bx 4 1,Bx 5 2,Mb 6 false]) (Sq (Rg [Lo 2 7 3,Lo 2 8 4,Lo 2 9 5,p 10 (.call 140 [t 7,t 8,t 9]),Bi 11 .eql 10 0,Mv 12 11,Gb 12 (Fa 13 0 3),Gb 12 (Ld 14 13),Gb 12 (Fa 15 0 4),Gb 12 (Ld 16 15),Gb 12 (Bt 17 .sub 14 16),Gb 12 (Fa 18 0 5),Gb 12 (Ld 19 18),Gb 12 (Fa 20 0 4),Gb 12 (Ld 21 20),Gb 12 (Bt 22 .sub 19 21),Gb 12 (Bt 23 .mul 17 22),Gb 12 (Fa 24 1 3),Gb 12 (Ld 25 24),Gb 12 (Fa 26 1 4),Gb 12 (Ld 27 26),Gb 12 (Bt 28 .sub 25 27),Gb 12 (Fa 29 1 5),Gb 12 (Ld 30 29),Gb 12 (Fa 31 1 4),Gb 12 (Ld 32 31),Gb 12 (Bt 33 .sub 30 32),Gb 12 (Bt 34 .mul 28 33),Gb 12 (Bt 35 .add 23 34),Gb 12 (Bi 36 .gtr 35 0),Pf 37 12 36,Mv 6 37]) Rt)
theorem YH:ae Tryz.prog (Tryz.f107.body.getD .skip)=some aaX:=by kernel_rfl
theorem afS:Tryz.f107.body=some (Tryz.f107.body.getD .skip):=rfl
theorem gW {P:Program} {rs:List ResultVar} {tm:TS} {hp:HS}:True→True→True:=fun _ _=>trivial
theorem g2 {P:Program} {rs:List ResultVar} {tm:TS} {hp:HS}:True→True→True:=fun _ _=>trivial
theorem mX (n:Int):Tg 88 [oI n] GB:=by
 refine ah (n:=6) (rs:=[.tmp 2]) Tryz.func88 abF WG rfl rfl (by simp) ?_
 repeat' (conv=>whnf
          first
  |(refine aI (fun h=>?_) (fun h=>?_))
  |(refine And.intro (by kernel_rfl) ?_)
  |exact gI rfl rfl
  |exact gB rfl rfl
  |exact gW rfl rfl
  |exact g2 rfl rfl)
theorem iA (a b:Int):Tg 65 [oI a,oI b] GI:=by
 refine ah (n:=20) (rs:=[.tmp 4]) Tryz.func65 PA O9 rfl rfl (by simp) ?_
 repeat' (conv=>whnf
          first
  |(refine ai rfl (mX _) ?_;rintro _ ⟨b,rfl⟩)
  |(refine aB rfl (mX _) ?_;rintro _ ⟨b,rfl⟩)
  |(refine aI (fun h=>?_) (fun h=>?_))
  |(refine And.intro (by kernel_rfl) ?_)
  |exact gI rfl rfl
  |exact gB rfl rfl
  |exact gW rfl rfl
  |exact g2 rfl rfl)
theorem dM (a b c:Sp):Tg 140 [iq a,iq b,iq c] GI:=by
 refine ah (n:=30) (rs:=[.tmp 6]) Tryz.func140 aeY Yn rfl rfl (by simp) ?_
 repeat' (conv=>whnf
          first
  |(refine aI (fun h=>?_) (fun h=>?_))
  |(refine And.intro (by kernel_rfl) ?_)
  |exact gI rfl rfl
  |exact gB rfl rfl
  |exact gW rfl rfl
  |exact g2 rfl rfl)
theorem uv (a b c:Sp):Tg 141 [iq a,iq b,iq c] GB:=by
 refine ah (n:=52) (rs:=[.tmp 6]) Tryz.func141 aeX Ym rfl rfl (by simp) ?_
 repeat' (conv=>whnf
          first
  |(refine ai rfl (dM (_,_) (_,_) (_,_)) ?_;rintro _ ⟨n,rfl⟩)
  |(refine aB rfl (dM (_,_) (_,_) (_,_)) ?_;rintro _ ⟨n,rfl⟩)
  |(refine aI (fun h=>?_) (fun h=>?_))
  |(refine And.intro (by kernel_rfl) ?_)
  |exact gI rfl rfl
  |exact gB rfl rfl
  |exact gW rfl rfl
  |exact g2 rfl rfl)
theorem mF (a b c d:Sp):Tg 142 [iq a,iq b,iq c,iq d] GB:=by
 refine ah (n:=21) (rs:=[.tmp 8]) Tryz.func142 aeW Yl rfl rfl (by simp) ?_
 repeat' (conv=>whnf
          first
  |(refine ai rfl (dM (_,_) (_,_) (_,_)) ?_;rintro _ ⟨n,rfl⟩)
  |(refine aB rfl (dM (_,_) (_,_) (_,_)) ?_;rintro _ ⟨n,rfl⟩)
  |(refine ai rfl (iA _ _) ?_;rintro _ ⟨n,rfl⟩)
  |(refine aB rfl (iA _ _) ?_;rintro _ ⟨n,rfl⟩)
  |(refine aI (fun h=>?_) (fun h=>?_))
  |(refine And.intro (by kernel_rfl) ?_)
  |exact gI rfl rfl
  |exact gB rfl rfl
  |exact gW rfl rfl
  |exact g2 rfl rfl)
theorem mG (a b c:Sp):Tg 107 [iq a,iq b,iq c] GB:=by
 refine ah (n:=38) (rs:=[.tmp 6]) Tryz.func107 afS YH rfl rfl (by simp) ?_
 repeat' (conv=>whnf
          first
  |(refine ai rfl (dM (_,_) (_,_) (_,_)) ?_;rintro _ ⟨n,rfl⟩)
  |(refine aB rfl (dM (_,_) (_,_) (_,_)) ?_;rintro _ ⟨n,rfl⟩)
  |(refine aI (fun h=>?_) (fun h=>?_))
  |(refine And.intro (by kernel_rfl) ?_)
  |exact gI rfl rfl
  |exact gB rfl rfl
  |exact gW rfl rfl
  |exact g2 rfl rfl)
theorem pu (a b c d:Sp):Tg 108 [iq a,iq b,iq c,iq d] GB:=by
 refine ah (n:=45) (rs:=[.tmp 8]) Tryz.func108 afR YG rfl rfl (by simp) ?_
 repeat' (conv=>whnf
          first
  |(refine ai rfl (uv (_,_) (_,_) (_,_)) ?_;rintro _ ⟨b,rfl⟩)
  |(refine aB rfl (uv (_,_) (_,_) (_,_)) ?_;rintro _ ⟨b,rfl⟩)
  |(refine ai rfl (mF (_,_) (_,_) (_,_) (_,_)) ?_;rintro _ ⟨b,rfl⟩)
  |(refine aB rfl (mF (_,_) (_,_) (_,_) (_,_)) ?_;rintro _ ⟨b,rfl⟩)
  |(refine aI (fun h=>?_) (fun h=>?_))
  |(refine And.intro (by kernel_rfl) ?_)
  |exact gI rfl rfl
  |exact gB rfl rfl
  |exact gW rfl rfl
  |exact g2 rfl rfl)
end Go.aU.Cd
end
section
namespace Go.aU.Cd
open Go Go.Proofs
set_option maxRecDepth 100000
def JY (e:List T):Prop:= ∃a b,e=[tI a,tI b]
abbrev cc (xs:Lz):Prop:= ∀e,e∈xs→JY e
abbrev oL (k:Nat) (xs:Lz):W:= .one (.t (.aA k xs))
def aaD:Rc:=Sq (Rg [Bx 3 1,Mk 4 0]) (Sq (Sq (Rg [Mv 6 0,Le 7 6,Mk 8 0]) (Bk 0 (Lp (Sq (Rg [Bt 9 .lss 8 7]) (Sq (Cn 9 Sk (Ex 0)) (Sq (Bk 1 (Sq (Rg [Mv 10 8,Mv 5 10]) (Sq (Dr [Lo 2 11 3,Mv 12 0,Mv 13 5,Ia 14 2 12 13,Lo 2 15 14,p 16 (.A3 false [0,0] (t 11) (t 15))] [[],[],[],[1,2],[3],[0,4]]) (Cn 16 (Sq (Rg [Mv 17 5,Mv 4 17]) Rt) Sk)))) (Rg [Bi 18 .add 8 1,Mv 8 18]))))))) (Sq (Rg [p 4 (.kF (k (-1)))]) Rt))
theorem MK:ae Tryz.prog (Tryz.f139.body.getD .skip)=some aaD:=by kernel_rfl
theorem MW:Tryz.f139.body=some (Tryz.f139.body.getD .skip):=rfl
def aaY:Rc:=Sq (Rg [Bx 3 1,Mb 4 false]) (Sq (Rg [Mv 5 0,Lo 2 6 3,p 7 (.call 139 [t 5,t 6]),Bi 8 .geq 7 0,Mv 4 8]) Rt)
theorem MN:ae Tryz.prog (Tryz.f106.body.getD .skip)=some aaY:=by kernel_rfl
theorem MZ:Tryz.f106.body=some (Tryz.f106.body.getD .skip):=rfl
def c81:Rc:=Sq (Rg [Mb 2 false]) (Sq (Rg [Mv 10 0,Le 11 10,Mv 3 11]) (Sq (Sq (Rg [Mv 12 0,Le 13 12,Mk 14 0]) (Bk 0 (Lp (Sq (Rg [Bt 15 .lss 14 13]) (Sq (Cn 15 Sk (Ex 0)) (Sq (Bk 1 (Sq (Rg [Mv 16 14,Ia 17 2 12 14,Lo 2 18 17,p 5 (.alloc [zi,zi]),Mv 4 16,So 2 5 18]) (Sq (Dr [Mv 19 0,Mv 20 4,p 21 (.slice 2 (t 19) none (some (t 20))),Lo 2 22 5,p 23 (.call 106 [t 21,t 22])] [[],[],[0,1],[],[2,3]]) (Cn 23 (Sq (Rg [Mb 2 false]) Rt) Sk)))) (Rg [Bi 24 .add 14 1,Mv 14 24]))))))) (Sq (Sq (Rg [Mv 25 0,Le 26 25,Mk 27 0]) (Bk 2 (Lp (Sq (Rg [Bt 28 .lss 27 26]) (Sq (Cn 28 Sk (Ex 2)) (Sq (Bk 3 (Sq (Rg [Mv 29 27,Ia 30 2 25 27,Lo 2 31 30,p 7 (.alloc [zi,zi]),Mv 6 29,So 2 7 31]) (Sq (Rg [Mv 32 0,Mv 33 6,Bi 34 .add 33 1,Mv 35 3,Bt 36 .rem 34 35,Ia 37 2 32 36,Lo 2 38 37,p 8 (.alloc [zi,zi]),So 2 8 38]) (Sq (Sq (Dr [Lo 2 39 7,Lo 2 40 8,Mv 41 0,Mv 42 6,Bi 43 .add 42 2,Mv 44 3,Bt 45 .rem 43 44,Ia 46 2 41 45,Lo 2 47 46,p 48 (.call 107 [t 39,t 40,t 47])] [[],[],[],[],[3],[],[4,5],[2,6],[7],[0,1,8]]) (Cn 48 (Sq (Rg [Mb 2 false]) Rt) Sk)) (Sq (Rg [Mv 49 6,Bi 50 .add 49 2,Mv 9 50]) (Bk 4 (Lp (Sq (Sq (Rg [Mv 51 9,Mv 52 3,Bt 53 .lss 51 52,Mv 54 53,Gb 54 (Mv 55 9),Gb 54 (Bi 56 .add 55 1),Gb 54 (Mv 57 3),Gb 54 (Bt 58 .rem 56 57),Gb 54 (Mv 59 6),Gb 54 (Bt 60 .neq 58 59),Pf 61 54 60]) (Cn 61 Sk (Ex 4))) (Sq (Bk 5 (Sq (Dr [Lo 2 64 7,Lo 2 65 8,Mv 66 0,Mv 67 9,Ia 68 2 66 67,Lo 2 69 68,Mv 70 0,Mv 71 9,Bi 72 .add 71 1,Mv 73 3,Bt 74 .rem 72 73,Ia 75 2 70 74,Lo 2 76 75,p 77 (.call 108 [t 64,t 65,t 69,t 76])] [[],[],[],[],[2,3],[4],[],[],[7],[],[8,9],[6,10],[11],[0,1,5,12]]) (Cn 77 (Sq (Rg [Mb 2 false]) Rt) Sk))) (Rg [Mv 62 9,Bi 63 .add 62 1,Mv 9 63])))))))))) (Rg [Bi 78 .add 27 1,Mv 27 78]))))))) (Sq (Rg [Mb 2 true]) Rt))))
theorem WH:ae Tryz.prog (Tryz.f81.body.getD .skip)=some c81:=by kernel_rfl
theorem abG:Tryz.f81.body=some (Tryz.f81.body.getD .skip):=rfl
def Z8:Rc:=Sq (Rg [Mk 2 0]) (Sq (Rg [Mk 3 0]) (Sq (Sq (Rg [Mv 7 0,Le 8 7,Mk 9 0]) (Bk 0 (Lp (Sq (Rg [Bt 10 .lss 9 8]) (Sq (Cn 10 Sk (Ex 0)) (Sq (Bk 1 (Sq (Rg [Mv 11 9,Ia 12 2 7 9,Lo 2 13 12,p 5 (.alloc [zi,zi]),Mv 4 11,So 2 5 13]) (Sq (Rg [Mv 14 0,Mv 15 4,Bi 16 .add 15 1,Mv 17 0,Le 18 17,Bt 19 .rem 16 18,Ia 20 2 14 19,Lo 2 21 20,p 6 (.alloc [zi,zi]),So 2 6 21]) (Rg [Mv 22 3,Fa 23 0 5,Ld 24 23,Fa 25 1 6,Ld 26 25,Bt 27 .mul 24 26,Fa 28 1 5,Ld 29 28,Fa 30 0 6,Ld 31 30,Bt 32 .mul 29 31,Bt 33 .sub 27 32,Bt 34 .add 22 33,Mv 3 34])))) (Rg [Bi 35 .add 9 1,Mv 9 35]))))))) (Sq (Rg [Mv 36 3,Mv 2 36]) Rt)))
theorem Yj:ae Tryz.prog (Tryz.f149.body.getD .skip)=some Z8:=by kernel_rfl
theorem aeU:Tryz.f149.body=some (Tryz.f149.body.getD .skip):=rfl
def Z9:Rc:=Sq (Rg [Mk 4 0]) (Sq (Rg [Mv 6 0,Le 7 6,Mv 5 7]) (Sq (Dr [Mv 8 0,Mv 9 1,Mv 10 5,Bt 11 .add 9 10,Bi 12 .sub 11 1,Mv 13 5,Bt 14 .rem 12 13,Ia 15 2 8 14,Lo 2 16 15,Mv 17 0,Mv 18 1,Ia 19 2 17 18,Lo 2 20 19,Mv 21 0,Mv 22 1,Bi 23 .add 22 1,Mv 24 5,Bt 25 .rem 23 24,Ia 26 2 21 25,Lo 2 27 26,p 28 (.call 140 [t 16,t 20,t 27]),Mv 4 28] [[],[],[],[1,2],[3],[],[4,5],[0,6],[7],[],[],[9,10],[11],[],[],[14],[],[15,16],[13,17],[18],[8,12,19],[20,20,0,1,2,3,4,5,6,7,8,9,10,11,12,13,14,15,16,17,18,19,20]]) Rt))
theorem Yk:ae Tryz.prog (Tryz.f148.body.getD .skip)=some Z9:=by kernel_rfl
theorem aeV:Tryz.f148.body=some (Tryz.f148.body.getD .skip):=rfl
theorem oz (xs:Lz) (s:Sp) (hx:cc xs) (hl:xs.length≤1000000):Tg 139 [oL 2 xs,iq s] GI:=by
 refine ah (n:=19) (rs:=[.tmp 4]) Tryz.func139 MW MK rfl rfl (by simp) ?_
 repeat' (conv=>whnf
          first
  |(refine aD (fun h=>?_) (fun h=>?_))
  |(refine aI (fun h=>?_) (fun h=>?_))
  |(refine aC hx (by first|omega|exact cF (by first|omega|(simp (disch:=omega) only[aa];omega))|(simp (disch:=omega) only[aa];omega)) (by first|omega|exact cA (by omega)|(simp (disch:=omega) only[aa];omega)) ?_;rintro _ ⟨a,b,rfl⟩ hs)
  |(refine And.intro (by kernel_rfl) ?_)
  |exact gI rfl rfl
  |(apply aO [0,3,7,8] [] [8] (RI xs.length) (xs.length) [iV .i64 0];(conv=>whnf);exact⟨rfl,rfl,rfl,rfl⟩;exact rfl;exact rfl;exact RI.zero;rintro _ _ ⟨i,hi,rfl,rfl⟩)
  |(refine au [0,3,7,8] [] ?_;(conv=>whnf);exact⟨rfl,_,[_],RI.succ (N:=xs.length) (i:=i) (by omega) (by simp only[maxLen];omega),rfl,rfl,rfl,by omega⟩))
 all_goals (conv=>whnf)
theorem lZ (xs:Lz) (s:Sp) (hx:cc xs) (hl:xs.length≤1000000):Tg 106 [oL 2 xs,iq s] GB:=by
 refine ah (n:=9) (rs:=[.tmp 4]) Tryz.func106 MZ MN rfl rfl (by simp) ?_
 repeat' (conv=>whnf
          first
  |(refine ai rfl (oz xs (_,_) hx hl) ?_;rintro _ ⟨n,rfl⟩)
  |exact gB rfl rfl)
 all_goals (conv=>whnf)
theorem pw (xs:Lz) (hx:cc xs) (hl:xs.length≤1000000):Tg 149 [oL 2 xs] GI:=by
 refine ah (n:=37) (rs:=[.tmp 2]) Tryz.func149 aeU Yj rfl rfl (by simp) ?_
 repeat' (conv=>whnf
          first
  |(refine aD (fun h=>?_) (fun h=>?_))
  |(refine aC hx (by first|omega|exact cF (by first|omega|(simp (disch:=omega) only[aa];omega))|(simp (disch:=omega) only[aa];omega)) (by first|omega|exact cA (by omega)|(simp (disch:=omega) only[aa];omega)) ?_;rintro _ ⟨a,b,rfl⟩ hs)
  |(refine And.intro (by omega) ?_)
  |exact gI rfl rfl
  |(apply aO [0,3,7,8,9] [] [3,9] (fun m vs=> ∃ (i:Nat) (s:Int),i≤xs.length∧m=xs.length - i∧vs=[iV .i64 s,iV .i64 i]) (xs.length) [iV .i64 0,iV .i64 0];(conv=>whnf);exact⟨rfl,rfl,rfl,rfl⟩;exact rfl;exact rfl;exact⟨0,0,by omega,by omega,rfl⟩;rintro _ _ ⟨i,s,hi,rfl,rfl⟩)
  |(refine au [0,3,7,8,9] [] ?_;(conv=>whnf);exact⟨rfl,_,[_,_],⟨i+1,_,by omega,rfl,by rw[aa (n:=(i:Int)+1) (by omega) (by omega)];rfl⟩,rfl,rfl,rfl,by omega⟩))
 all_goals (conv=>whnf)
theorem yC (xs:Lz) (i:Nat) (hx:cc xs) (hl:xs.length≤1000000) (hi:i < xs.length):Tg 148 [oL 2 xs,oI i] GI:=by
 refine ah (n:=29) (rs:=[.tmp 4]) Tryz.func148 aeV Yk rfl rfl (by simp) ?_
 repeat' (conv=>whnf
          first
  |(refine aC hx (by first|omega|exact cF (by first|omega|(simp (disch:=omega) only[aa];omega))|(simp (disch:=omega) only[aa];omega)) (by first|omega|exact cA (by omega)|(simp (disch:=omega) only[aa];omega)) ?_;rintro _ ⟨a,b,rfl⟩ hs)
  |(refine And.intro (by kernel_rfl) ?_)
  |(refine And.intro (by omega) ?_)
  |(refine aB rfl (dM (_,_) (_,_) (_,_)) ?_;rintro _ ⟨n,rfl⟩)
  |exact gI rfl rfl)
 all_goals (conv=>whnf)
theorem uu (xs:Lz) (hx:cc xs) (hl:xs.length≤1000000):Tg 81 [oL 2 xs] GB:=by
 refine ah (n:=79) (rs:=[.tmp 2]) Tryz.func81 abG WH rfl rfl (by simp) ?_
 repeat' (conv=>whnf
          first
  |(refine aD (fun h=>?_) (fun h=>?_))
  |(refine bY (fun h=>?_) (fun h=>?_))
  |(refine aI (fun h=>?_) (fun h=>?_))
  |(refine fT (by omega) (by omega) ?_)
  |(refine aC hx (by first|omega|exact cF (by first|omega|(simp (disch:=omega) only[aa];omega))|(simp (disch:=omega) only[aa];omega)) (by first|omega|exact cA (by omega)|(simp (disch:=omega) only[aa];omega)) ?_;rintro _ ⟨a,b,rfl⟩ hs)
  |(refine And.intro (by kernel_rfl) ?_)
  |(refine And.intro (by omega) ?_)
  |(refine aB rfl (lZ _ (_,_) (dQ hx _ _) (ni hl _ _)) ?_;rintro _ ⟨b,rfl⟩)
  |(refine aB rfl (mG (_,_) (_,_) (_,_)) ?_;rintro _ ⟨b,rfl⟩)
  |(refine aB rfl (pu (_,_) (_,_) (_,_) (_,_)) ?_;rintro _ ⟨b,rfl⟩)
  |exact gB rfl rfl
  |(apply aO [0,3,6,7,8,9,25,26,27] [] [9] (fun m vs=> ∃j:Nat,i+2≤j∧m=xs.length+2 - j∧j≤xs.length+2∧vs=[iV .i64 j]) (xs.length - i) [iV .i64 (IntKind.i64.wrap ((i:Int)+2))];(conv=>whnf);exact⟨rfl,rfl,rfl,rfl⟩;exact rfl;exact rfl;exact⟨i+2,by omega,by omega,by omega,by rw[aa (by omega) (by omega)];rfl⟩;rintro _ _ ⟨j,hj,rfl,hj2,rfl⟩)
  |(refine au [0,3,6,7,8,9,25,26,27] [] ?_;(conv=>whnf);exact⟨rfl,_,[_],⟨j+1,by omega,rfl,by omega,by rw[aa (by omega) (by omega)];rfl⟩,rfl,rfl,rfl,by omega⟩)
  |(apply aO [0,3,25,26,27] [] [27] (RI xs.length) (xs.length) [iV .i64 0];(conv=>whnf);exact⟨rfl,rfl,rfl,rfl⟩;exact rfl;exact rfl;exact RI.zero;rintro _ _ ⟨i,hi,rfl,rfl⟩)
  |(refine au [0,3,25,26,27] [] ?_;(conv=>whnf);exact⟨rfl,_,[_],RI.succ (N:=xs.length) (i:=i) (by omega) (by simp only[maxLen];omega),rfl,rfl,rfl,by omega⟩)
  |(apply aO [0,3,12,13,14] [] [14] (RI xs.length) (xs.length) [iV .i64 0];(conv=>whnf);exact⟨rfl,rfl,rfl,rfl⟩;exact rfl;exact rfl;exact RI.zero;rintro _ _ ⟨i,hi,rfl,rfl⟩)
  |(refine au [0,3,12,13,14] [] ?_;(conv=>whnf);exact⟨rfl,_,[_],RI.succ (N:=xs.length) (i:=i) (by omega) (by simp only[maxLen];omega),rfl,rfl,rfl,by omega⟩))
 all_goals (conv=>whnf)
end Go.aU.Cd
end
section
namespace Go.aU.Cd
open Go Go.Proofs
set_option maxRecDepth 100000
def E7 (s:Sp):Prop:=(-1048576≤s.1∧s.1≤1048576)∧(-1048576≤s.2∧s.2≤1048576)
def J0 (e:List T):Prop:= ∃a b,e=[tI a,tI b]∧E7 (a,b)
def Zt:Rc:=Sq (Rg [Bx 1 0,Mb 2 false]) (Sq (Rg [Fa 3 0 1,Ld 4 3,p 5 (.bin .lss (t 4) (k (-1048576))),Mv 6 5,Ga 6 (Fa 7 0 1),Ga 6 (Ld 8 7),Ga 6 (Bi 9 .gtr 8 1048576),Pt 10 6 9,Mv 11 10,Ga 11 (Fa 12 1 1),Ga 11 (Ld 13 12),Ga 11 (p 14 (.bin .lss (t 13) (k (-1048576)))),Pt 15 11 14,Mv 16 15,Ga 16 (Fa 17 1 1),Ga 16 (Ld 18 17),Ga 16 (Bi 19 .gtr 18 1048576),Pt 20 16 19,Mv 2 20]) Rt)
theorem Xz:ae Tryz.prog (Tryz.f205.body.getD .skip)=some Zt:=by kernel_rfl
theorem adD:Tryz.f205.body=some (Tryz.f205.body.getD .skip):=rfl
def aaZ:Rc:=Sq (Rg [Mk 4 0]) (Sq (Sq (Rg [Mv 6 0,Le 7 6,Mk 8 0]) (Bk 0 (Lp (Sq (Rg [Bt 9 .lss 8 7]) (Sq (Cn 9 Sk (Ex 0)) (Sq (Bk 1 (Sq (Rg [Mv 10 8,Mv 5 10]) (Sq (Rg [Mv 11 1,Mv 12 0,Mv 13 5,Ia 14 2 12 13,Lo 2 15 14,p 16 (.fg (t 11) [t 15])]) (Cn 16 (Sq (Rg [Mv 17 5,Mv 4 17]) Rt) Sk)))) (Rg [Bi 18 .add 8 1,Mv 8 18]))))))) (Sq (Rg [p 4 (.kF (k (-1)))]) Rt))
theorem YI:ae Tryz.prog (Tryz.f105.body.getD .skip)=some aaZ:=by kernel_rfl
theorem afT:Tryz.f105.body=some (Tryz.f105.body.getD .skip):=rfl
def c79:Rc:=Sq (Rg [Mb 4 false]) (Sq (Rg [Mv 5 0,Mv 6 1,p 7 (.call 105 [t 5,t 6]),Bi 8 .geq 7 0,Mv 4 8]) Rt)
theorem atJ:ae Tryz.prog (Tryz.f79.body.getD .skip)=some c79:=by kernel_rfl
theorem awK:Tryz.f79.body=some (Tryz.f79.body.getD .skip):=rfl
def c55:Rc:=Sq (Rg [Mk 2 0]) (Sq (Sq (Rg [Mv 3 0,Le 4 3,Bi 5 .gtr 4 40]) (Cn 5 (Sq (Rg [Mk 2 5]) Rt) Sk)) (Sq (Sq (Rg [Mv 6 0,Le 7 6,Bi 8 .lss 7 3]) (Cn 8 (Sq (Rg [Mk 2 11]) Rt) Sk)) (Sq (Sq (Rg [Mv 9 0,p 10 (.call 79 [t 9,(.c (.w (.one (.t (.val (.func (.func 80) #[] #[]))))))])]) (Cn 10 (Sq (Rg [Mk 2 3]) Rt) Sk)) (Sq (Sq (Rg [Mv 11 0,p 12 (.call 81 [t 11]),Nt 13 12]) (Cn 13 (Sq (Rg [Mk 2 11]) Rt) Sk)) (Sq (Rg [Mk 2 0]) Rt)))))
theorem WJ:ae Tryz.prog (Tryz.f55.body.getD .skip)=some c55:=by kernel_rfl
theorem abI:Tryz.f55.body=some (Tryz.f55.body.getD .skip):=rfl
def ZA:Rc:=Sq (Rg [Mk 2 0]) (Sq (Sq (Rg [Mv 3 0,p 4 (.call 55 [t 3]),Bi 5 .neq 4 0]) (Cn 5 (Sq (Rg [Mk 2 0]) Rt) Sk)) (Sq (Rg [Mv 6 0,p 7 (.call 149 [t 6]),Mv 2 7]) Rt))
theorem XJ:ae Tryz.prog (Tryz.f193.body.getD .skip)=some ZA:=by kernel_rfl
theorem adN:Tryz.f193.body=some (Tryz.f193.body.getD .skip):=rfl
def ZJ:Rc:=Sq (Rg [Mk 2 0]) (Sq (Sq (Rg [Mv 4 0,Le 5 4,Bi 6 .gtr 5 40]) (Cn 6 (Sq (Rg [Mk 2 5]) Rt) Sk)) (Sq (Sq (Rg [Mv 7 0,Le 8 7,Bi 9 .lss 8 2]) (Cn 9 (Sq (Rg [Mk 2 11]) Rt) Sk)) (Sq (Sq (Rg [Mv 10 0,p 11 (.call 79 [t 10,(.c (.w (.one (.t (.val (.func (.func 205) #[] #[]))))))])]) (Cn 11 (Sq (Rg [Mk 2 3]) Rt) Sk)) (Sq (Sq (Rg [Mv 12 0,Le 13 12,Bi 14 .sub 13 1,Mk 15 0]) (Bk 0 (Lp (Sq (Rg [Bt 16 .lss 15 14]) (Sq (Cn 16 Sk (Ex 0)) (Sq (Bk 1 (Sq (Rg [Mv 17 15,Mv 3 17]) (Sq (Dr [Mv 18 0,Mv 19 3,Ia 20 2 18 19,Lo 2 21 20,Mv 22 0,Mv 23 3,Bi 24 .add 23 1,Ia 25 2 22 24,Lo 2 26 25,p 27 (.A3 false [0,0] (t 21) (t 26))] [[],[],[0,1],[2],[],[],[5],[4,6],[7],[3,8]]) (Cn 27 (Sq (Rg [Mk 2 11]) Rt) Sk)))) (Rg [Bi 28 .add 15 1,Mv 15 28]))))))) (Sq (Rg [Mk 2 0]) Rt)))))
theorem MH:ae Tryz.prog (Tryz.f182.body.getD .skip)=some ZJ:=by kernel_rfl
theorem MT:Tryz.f182.body=some (Tryz.f182.body.getD .skip):=rfl
theorem xn (s:Sp):Tg 80 [iq s] (J3 (¬E7 s)):=by
 refine ah (n:=21) (rs:=[.tmp 2]) Tryz.func80 awJ atI rfl rfl (by simp) ?_
 repeat' (conv=>whnf
          first
  |(refine aD (fun h=>?_) (fun h=>?_))
  |(refine KH rfl rfl ?_;simp only[E7];first|(simp;omega)|omega))
 all_goals (conv=>whnf)
theorem Ed (s:Sp):Tg 205 [iq s] (J3 (¬E7 s)):=by
 refine ah (n:=21) (rs:=[.tmp 2]) Tryz.func205 adD Xz rfl rfl (by simp) ?_
 repeat' (conv=>whnf
          first
  |(refine aD (fun h=>?_) (fun h=>?_))
  |(refine KH rfl rfl ?_;simp only[E7];first|(simp;omega)|omega))
 all_goals (conv=>whnf)
def GBq (p:Prop) (ts:List W):Prop:= ∃b,ts=[.one (.t (.val (.bool b)))]∧(b=false→p)
theorem gBq {P:Program} {rs:List ResultVar} {tm:TS} {hp:HS} {t:Nat} {b:Bool} {p:Prop} (hr:rs=[.tmp t]) (h:find tm t=some (bV b)) (hp2:b=false→p): ∃us ts,aP P hp tm rs=some us∧bK (bM hp) us=some ts∧GBq p ts:=g1 hr h ⟨b,rfl,hp2⟩
def agI (f:Nat):Prop:= ∀s, ∃ts,Fn Tryz.prog f [iq s] [] (aT ts) []∧(aT ts).cq=true∧J3 (¬E7 s) ts
abbrev fV (f:Nat):W:= .one (.t (.val (.func (.func f) #[] #[])))
def DJ (xs:Lz) (m:Nat) (vs:List V):Prop:= ∃i:Nat,i≤xs.length∧(∀j e,j < i→xs[j]? =some e→J0 e)∧m=xs.length - i∧vs=[iV .i64 (i:Int)]
theorem DJ.succ {xs:Lz} {i:Nat} {a b:Int} (h:i < xs.length) (hN:xs.length≤1000000) (ha: ∀j e,j < i→xs[j]? =some e→J0 e) (hs:xs[((i:Int)).toNat]? =some [tI a,tI b]) (hi:E7 (a,b)):
 DJ xs (xs.length - (i+1)) [iV .i64 (IntKind.i64.wrap ((i:Int)+1))]:=by
 refine⟨i+1,h,fun j e hj he=>?_,rfl,by rw[aa (by omega) (by omega)];rfl⟩
 by_cases fo:j=i
 · subst fo
   rw[show((j:Int)).toNat=j by omega]at hs
   rw[hs]at he
   exact⟨a,b,(Option.some.inj he).symm,hi⟩
 · exact ha j e (by omega) he
theorem PJ {xs:Lz} {i:Nat} (h: ∀j e,j < i→xs[j]? =some e→J0 e) (hi:xs.length≤i): ∀e,e∈xs→J0 e:=by
 intro e he
 obtain⟨j,hj,rfl⟩:=List.getElem_of_mem he
 exact h j _ (by omega) (by simp[hj])
theorem lj (f:Nat) (mN:enters Tryz.prog f=true) (hf:agI f) (xs:Lz) (hx:cc xs) (hl:xs.length≤1000000):Tg 105 [oL 2 xs,fV f] (nN (fun n=> -1≤n∧(n < 0→ ∀e,e∈xs→J0 e))):=by
 refine ah (n:=19) (rs:=[.tmp 4]) Tryz.func105 afT YI rfl rfl (by simp) ?_
 repeat' (conv=>whnf
          first
  |(refine aD (fun h=>?_) (fun h=>?_))
  |(refine aI (fun h=>?_) (fun h=>?_))
  |(refine And.intro mN ?_)
  |(refine aC hx (by first|omega|exact cF (by first|omega|(simp (disch:=omega) only[aa];omega))|(simp (disch:=omega) only[aa];omega)) (by first|omega|exact cA (by omega)|(simp (disch:=omega) only[aa];omega)) ?_;rintro _ ⟨a,b,rfl⟩ hs)
  |(refine ai rfl (hf (_,_)) ?_;rintro _ ⟨b,rfl,hb⟩)
  |(refine iP rfl rfl ⟨by omega,fun h=>?_⟩;first|omega|exact PJ ha (by omega))
  |(apply aO [0,1,7,8] [] [8] (DJ xs) (xs.length) [iV .i64 0];(conv=>whnf);exact⟨rfl,rfl,rfl,rfl⟩;exact rfl;exact rfl;exact⟨0,by omega,fun j e hj=>by omega,rfl,rfl⟩;rintro _ _ ⟨i,hi,ha,rfl,rfl⟩)
  |(refine au [0,1,7,8] [] ?_;(conv=>whnf);exact⟨rfl,_,[_],DJ.succ (by omega) hl ha hs (by simp_all),rfl,rfl,rfl,by omega⟩))
 all_goals (conv=>whnf)
theorem dA (f:Nat) (mN:enters Tryz.prog f=true) (hf:agI f) (xs:Lz) (hx:cc xs) (hl:xs.length≤1000000):Tg 79 [oL 2 xs,fV f] (GBq (∀e,e∈xs→J0 e)):=by
 refine ah (n:=9) (rs:=[.tmp 4]) Tryz.func79 awK atJ rfl rfl (by simp) ?_
 repeat' (conv=>whnf
          first
  |(refine ai rfl (lj f mN hf xs hx hl) ?_;rintro _ ⟨n,rfl,hn⟩)
  |exact gBq rfl rfl (fun h=>hn.2 (by simpa using h)))
 all_goals (conv=>whnf)
theorem Mz:enters Tryz.prog 80=true:=by kernel_rfl
theorem Wx:enters Tryz.prog 205=true:=by kernel_rfl
def HG (xs:Lz):Prop:=3≤xs.length∧xs.length≤40∧ ∀e,e∈xs→J0 e
def ef (xs:Lz):Prop:=2≤xs.length∧xs.length≤40∧ ∀e,e∈xs→J0 e
theorem wq (xs:Lz) (hx:cc xs) (hl:xs.length≤1000000):Tg 55 [oL 2 xs] (nN (fun n=>n=0→HG xs)):=by
 refine ah (n:=14) (rs:=[.tmp 2]) Tryz.func55 abI WJ rfl rfl (by simp) ?_
 repeat' (conv=>whnf
          first
  |(refine aD (fun h=>?_) (fun h=>?_))
  |(refine aI (fun h=>?_) (fun h=>?_))
  |(refine ai rfl (dA _ Mz xn xs hx hl) ?_;rintro _ ⟨c,rfl,hc⟩)
  |(refine ai rfl (uu xs hx hl) ?_;rintro _ ⟨d,rfl⟩)
  |(refine iP rfl rfl (fun h0=>?_);first|(exfalso;omega)|exact⟨by omega,by omega,hc (by simp_all)⟩))
 all_goals (conv=>whnf)
theorem wu (xs:Lz) (hx:cc xs) (hl:xs.length≤1000000):Tg 193 [oL 2 xs] GI:=by
 refine ah (n:=8) (rs:=[.tmp 2]) Tryz.func193 adN XJ rfl rfl (by simp) ?_
 repeat' (conv=>whnf
          first
  |(refine bY (fun h=>?_) (fun h=>?_))
  |(refine ai rfl (wq xs hx hl) ?_;rintro _ ⟨c,rfl,hc⟩)
  |(refine ai rfl (pw xs hx hl) ?_;rintro _ ⟨d,rfl⟩)
  |exact gI rfl rfl)
 all_goals (conv=>whnf)
theorem uq (xs:Lz) (hx:cc xs) (hl:xs.length≤1000000):Tg 182 [oL 2 xs] (nN (fun n=>n=0→ef xs)):=by
 have hw:=aa (n:=(xs.length:Int) - 1) (by omega) (by omega)
 refine ah (n:=29) (rs:=[.tmp 2]) Tryz.func182 MT MH rfl rfl (by simp) ?_
 repeat' (conv=>whnf
          first
  |(refine aD (fun h=>?_) (fun h=>?_))
  |(refine aI (fun h=>?_) (fun h=>?_))
  |(refine aC hx (by first|omega|exact cF (by first|omega|(simp (disch:=omega) only[aa];omega))|(simp (disch:=omega) only[aa];omega)) (by first|omega|exact cA (by omega)|(simp (disch:=omega) only[aa];omega)) ?_;rintro _ ⟨a,b,rfl⟩ hs)
  |(refine And.intro (by kernel_rfl) ?_)
  |(refine ai rfl (dA _ Wx Ed xs hx hl) ?_;rintro _ ⟨c,rfl,hc⟩)
  |(refine iP rfl rfl (fun h0=>?_);first|(exfalso;omega)|exact⟨by omega,by omega,hc (by simp_all)⟩)
  |(apply aO [0,14,15] [] [15] (RI (xs.length - 1)) (xs.length - 1) [iV .i64 0];(conv=>whnf);exact⟨rfl,rfl,rfl,rfl⟩;exact rfl;exact rfl;exact RI.zero;rintro _ _ ⟨i,hi,rfl,rfl⟩)
  |(refine au [0,14,15] [] ?_;(conv=>whnf);exact⟨rfl,_,[_],RI.succ (N:=xs.length - 1) (i:=i) (by omega) (by simp only[maxLen];omega),rfl,rfl,rfl,by omega⟩))
 all_goals (conv=>whnf)
end Go.aU.Cd
end
section
namespace Go.aU.Cd
open Go Go.Proofs
set_option maxRecDepth 100000
theorem aSp:iT Tryz.prog 57=some true:=by kernel_rfl
theorem zSp:cN Tryz.prog 57=some 2:=by kernel_rfl
theorem aTu:iT Tryz.prog 56=some true:=by kernel_rfl
theorem zTu:cN Tryz.prog 56=some 2:=by kernel_rfl
theorem aRp:iT Tryz.prog 31=some true:=by kernel_rfl
theorem zRp:cN Tryz.prog 31=some 2:=by kernel_rfl
def P7 (p:Sp→Prop) (ts:List W):Prop:= ∃a b,ts=[iq (a,b)]∧p (a,b)
abbrev RN (f:Bool) (q:Int):W:= .agg [.t (tB f), .t (tI q)]
def GTu (p:Bool→Int→Prop) (ts:List W):Prop:= ∃f q,ts=[RN f q]∧p f q
theorem gSp {rs:List ResultVar} {tm:TS} {hp:HS} {b:Nat} {c:C} {cs:List C} {j:Nat} {x y:Int} {p:Sp→Prop} (hr:rs=[.cell b 57]) (h:find tm b=some (.w (.one c))) (hd:deref hp c=some (cs,j)) (hl:j+2≤cs.length) (hts:(cs.drop j).take 2=[.t (tI x), .t (tI y)]) (hg:p (x,y)):
 ∃us ts,aP Tryz.prog hp tm rs=some us∧bK (bM hp) us=some ts∧P7 p ts:=gC hr aSp zSp h hd hl (ts:=[tI x,tI y]) (by rw[hts];rfl) ⟨x,y,rfl,hg⟩
theorem gRp {rs:List ResultVar} {tm:TS} {hp:HS} {b:Nat} {c:C} {cs:List C} {j:Nat} {x y:Int} {p:Sp→Prop} (hr:rs=[.cell b 31]) (h:find tm b=some (.w (.one c))) (hd:deref hp c=some (cs,j)) (hl:j+2≤cs.length) (hts:(cs.drop j).take 2=[.t (tI x), .t (tI y)]) (hg:p (x,y)):
 ∃us ts,aP Tryz.prog hp tm rs=some us∧bK (bM hp) us=some ts∧P7 p ts:=gC hr aRp zRp h hd hl (ts:=[tI x,tI y]) (by rw[hts];rfl) ⟨x,y,rfl,hg⟩
theorem gTu {rs:List ResultVar} {tm:TS} {hp:HS} {b:Nat} {c:C} {cs:List C} {j:Nat} {f:Bool} {q:Int} {p:Bool→Int→Prop} (hr:rs=[.cell b 56]) (h:find tm b=some (.w (.one c))) (hd:deref hp c=some (cs,j)) (hl:j+2≤cs.length) (hts:(cs.drop j).take 2=[.t (tB f), .t (tI q)]) (hg:p f q):
 ∃us ts,aP Tryz.prog hp tm rs=some us∧bK (bM hp) us=some ts∧GTu p ts:=gC hr aTu zTu h hd hl (ts:=[tB f,tI q]) (by rw[hts];rfl) ⟨f,q,rfl,hg⟩
def aaF:Rc:=Sq (Rg [Bx 1 0,p 2 (.alloc [zb,zi])]) (Sq (Rg [Fa 3 0 1,Ld 4 3,Fa 5 1 1,Ld 6 5,Bi 7 .and 6 3,p 8 (.build [zb,zi] [(0,1,t 4),(1,1,t 7)]),So 2 2 8]) Rt)
theorem Yq:ae Tryz.prog (Tryz.f136.body.getD .skip)=some aaF:=by kernel_rfl
theorem afB:Tryz.f136.body=some (Tryz.f136.body.getD .skip):=rfl
def abB:Rc:=Sq (Rg [Bx 5 2,Mb 6 false]) (Sq (Rg [Lo 2 7 5,p 8 (.call 136 [t 7]),So 2 5 8]) (Sq (Sq (Rg [Fa 9 0 5,Ld 10 9,Mv 11 1,p 12 (.oT .neq (t 10) (t 11))]) (Cn 12 (Sq (Rg [Mb 6 false]) Rt) Sk)) (Sq (Sq (Rg [Mv 13 0]) (Bk 0 (Sq (Rg [Bi 15 .eql 13 1,Mv 14 15]) (Cn 14 (Sq (Rg [Fa 16 1 5,Ld 17 16,Bi 18 .eql 17 0,Mv 6 18]) Rt) (Sq (Rg [Bi 20 .eql 13 2,Mv 19 20]) (Cn 19 (Sq (Rg [Fa 21 1 5,Ld 22 21,Bi 23 .eql 22 0,Mv 24 23,Ga 24 (Fa 25 1 5),Ga 24 (Ld 26 25),Ga 24 (Bi 27 .eql 26 2),Pt 28 24 27,Mv 6 28]) Rt) (Sq (Rg [Bi 30 .eql 13 4,Mv 29 30]) (Cn 29 (Sq (Rg [Mb 6 true]) Rt) Sk)))))))) (Sq (Rg [Mb 6 false]) Rt))))
theorem YL:ae Tryz.prog (Tryz.f102.body.getD .skip)=some abB:=by kernel_rfl
theorem afW:Tryz.f102.body=some (Tryz.f102.body.getD .skip):=rfl
def avH:Rc:=Sq (Rg [Mk 2 0]) (Sq (Sq (Rg [Mv 3 0,Bi 4 .lss 3 1,Mv 5 4,Ga 5 (Mv 6 0),Ga 5 (Bi 7 .gtr 6 1048576),Pt 8 5 7]) (Cn 8 (Sq (Rg [Mk 2 0]) Rt) Sk)) (Sq (Rg [Mv 9 0,Mv 2 9]) Rt))
theorem Xo:ae Tryz.prog (Tryz.f216.body.getD .skip)=some avH:=by kernel_rfl
theorem acS:Tryz.f216.body=some (Tryz.f216.body.getD .skip):=rfl
def avL:Rc:=Sq (Rg [Mk 2 0]) (Sq (Rg [Mv 3 0,p 4 (.nA (t 3) (k (-1048576))),p 5 (.mu (t 4) (k 1048576)),Mv 2 5]) Rt)
theorem XG:ae Tryz.prog (Tryz.f196.body.getD .skip)=some avL:=by kernel_rfl
theorem adK:Tryz.f196.body=some (Tryz.f196.body.getD .skip):=rfl
def avM:Rc:=Sq (Rg [Mk 4 0]) (Sq (Sq (Rg [Mv 5 1,Bi 6 .eql 5 0]) (Cn 6 (Sq (Rg [Mk 4 0]) Rt) Sk)) (Sq (Rg [Mv 7 0,Mv 8 1,Bt 9 .rem 7 8,Mv 10 1,Bt 11 .add 9 10,Mv 12 1,Bt 13 .rem 11 12,Mv 4 13]) Rt))
theorem XH:ae Tryz.prog (Tryz.f195.body.getD .skip)=some avM:=by kernel_rfl
theorem adL:Tryz.f195.body=some (Tryz.f195.body.getD .skip):=rfl
def avN:Rc:=Sq (Rg [Bx 1 0,p 2 (.alloc [zi,zi])]) (Sq (Dr [Fa 3 0 1,Ld 4 3,p 5 (.call 216 [t 4]),Fa 6 1 1,Ld 7 6,p 8 (.call 216 [t 7]),p 9 (.build [zi,zi] [(0,1,t 5),(1,1,t 8)]),So 2 2 9] [[],[0],[1],[],[3],[4,2],[2,5],[6,5,0,1,2,3,4,5,6]]) Rt)
theorem XI:ae Tryz.prog (Tryz.f194.body.getD .skip)=some avN:=by kernel_rfl
theorem adM:Tryz.f194.body=some (Tryz.f194.body.getD .skip):=rfl
def avQ:Rc:=Sq (Rg [Bx 2 0,Bx 3 1,p 4 (.alloc [zi,zi])]) (Sq (Rg [Lo 2 5 2,p 6 (.call 194 [t 5]),So 2 2 6]) (Sq (Dr [Fa 7 0 3,Ld 8 7,p 9 (.call 196 [t 8]),Fa 10 0 2,Ld 11 10,p 12 (.call 195 [t 9,t 11]),Fa 13 1 3,Ld 14 13,p 15 (.call 196 [t 14]),Fa 16 1 2,Ld 17 16,p 18 (.call 195 [t 15,t 17]),p 19 (.build [zi,zi] [(0,1,t 12),(1,1,t 18)]),So 2 4 19] [[],[0],[1],[],[3],[2,4,2],[],[6],[7,5],[],[9],[8,10,8],[5,11],[12,11,0,1,2,3,4,5,6,7,8,9,10,11,12]]) Rt))
theorem XZ:ae Tryz.prog (Tryz.f171.body.getD .skip)=some avQ:=by kernel_rfl
theorem aeC:Tryz.f171.body=some (Tryz.f171.body.getD .skip):=rfl
def avS:Rc:=Sq (Rg [Bx 3 0,Bx 4 1,Bx 5 2,Mb 6 false]) (Sq (Dr [Lo 2 7 3,Lo 2 8 4,p 9 (.call 171 [t 7,t 8]),Lo 2 10 3,Lo 2 11 5,p 12 (.call 171 [t 10,t 11]),p 13 (.A3 false [0,0] (t 9) (t 12)),Mv 6 13] [[],[],[0,1],[],[],[3,4,2],[2,5],[6,5,0,1,2,3,4,5,6]]) Rt)
theorem Yp:ae Tryz.prog (Tryz.f137.body.getD .skip)=some avS:=by kernel_rfl
theorem afA:Tryz.f137.body=some (Tryz.f137.body.getD .skip):=rfl
def c54:Rc:=Sq (Rg [Bx 1 0,Mb 2 false]) (Sq (Rg [Fa 3 0 1,Ld 4 3,p 5 (.bin .lss (t 4) (k (-1048576))),Mv 6 5,Ga 6 (Fa 7 0 1),Ga 6 (Ld 8 7),Ga 6 (Bi 9 .gtr 8 1048576),Pt 10 6 9,Mv 11 10,Ga 11 (Fa 12 1 1),Ga 11 (Ld 13 12),Ga 11 (p 14 (.bin .lss (t 13) (k (-1048576)))),Pt 15 11 14,Mv 16 15,Ga 16 (Fa 17 1 1),Ga 16 (Ld 18 17),Ga 16 (Bi 19 .gtr 18 1048576),Pt 20 16 19,Mv 2 20]) Rt)
theorem auC:ae Tryz.prog (Tryz.f54.body.getD .skip)=some c54:=by kernel_rfl
theorem axA:Tryz.f54.body=some (Tryz.f54.body.getD .skip):=rfl
def ZU:Rc:=Sq (Rg [Bx 2 0,Bx 3 1,p 4 (.alloc [zi,zi])]) (Sq (Rg [Fa 5 0 2,Ld 6 5,Fa 7 0 3,Ld 8 7,Bt 9 .add 6 8,Fa 10 1 2,Ld 11 10,Fa 12 1 3,Ld 13 12,Bt 14 .add 11 13,p 15 (.build [zi,zi] [(0,1,t 9),(1,1,t 14)]),So 2 4 15]) Rt)
theorem X5:ae Tryz.prog (Tryz.f167.body.getD .skip)=some ZU:=by kernel_rfl
theorem aeG:Tryz.f167.body=some (Tryz.f167.body.getD .skip):=rfl
def ZS:Rc:=Sq (Rg [Bx 2 0,Mb 4 false]) (Sq (Rg [Mv 5 1,p 6 (.neg (t 5)),Fa 7 0 2,Ld 8 7,Bt 9 .leq 6 8,Mv 10 9,Gb 10 (Fa 11 0 2),Gb 10 (Ld 12 11),Gb 10 (Mv 13 1),Gb 10 (Bt 14 .leq 12 13),Pf 15 10 14,Mv 16 15,Gb 16 (Mv 17 1),Gb 16 (p 18 (.neg (t 17))),Gb 16 (Fa 19 1 2),Gb 16 (Ld 20 19),Gb 16 (Bt 21 .leq 18 20),Pf 22 16 21,Mv 23 22,Gb 23 (Fa 24 1 2),Gb 23 (Ld 25 24),Gb 23 (Mv 26 1),Gb 23 (Bt 27 .leq 25 26),Pf 28 23 27,Mv 4 28]) Rt)
theorem X3:ae Tryz.prog (Tryz.f169.body.getD .skip)=some ZS:=by kernel_rfl
theorem aeE:Tryz.f169.body=some (Tryz.f169.body.getD .skip):=rfl
def Z2:Rc:=Sq (Rg [Mb 4 false]) (Sq (Rg [Mv 5 1,p 6 (.neg (t 5)),Mv 7 0,Bt 8 .leq 6 7,Mv 9 8,Gb 9 (Mv 10 0),Gb 9 (Mv 11 1),Gb 9 (Bt 12 .leq 10 11),Pf 13 9 12,Mv 4 13]) Rt)
theorem Yd:ae Tryz.prog (Tryz.f159.body.getD .skip)=some Z2:=by kernel_rfl
theorem aeO:Tryz.f159.body=some (Tryz.f159.body.getD .skip):=rfl
def aaR:Rc:=Sq (Rg [Bx 3 0,Bx 4 1,Bx 5 2,Mk 6 0]) (Sq (Rg [Fa 7 0 4,Ld 8 7,Fa 9 0 3,Ld 10 9,Bt 11 .sub 8 10,Fa 12 1 5,Ld 13 12,Fa 14 1 3,Ld 15 14,Bt 16 .sub 13 15,Bt 17 .mul 11 16,Fa 18 1 4,Ld 19 18,Fa 20 1 3,Ld 21 20,Bt 22 .sub 19 21,Fa 23 0 5,Ld 24 23,Fa 25 0 3,Ld 26 25,Bt 27 .sub 24 26,Bt 28 .mul 22 27,Bt 29 .sub 17 28,Mv 6 29]) Rt)
theorem YB:ae Tryz.prog (Tryz.f122.body.getD .skip)=some aaR:=by kernel_rfl
theorem afM:Tryz.f122.body=some (Tryz.f122.body.getD .skip):=rfl
def Z6:Rc:=Sq (Rg [Bx 1 0,Mb 2 false]) (Sq (Rg [Fa 3 0 1,Ld 4 3,p 5 (.bin .lss (t 4) (k (-1048576))),Mv 6 5,Ga 6 (Fa 7 0 1),Ga 6 (Ld 8 7),Ga 6 (Bi 9 .gtr 8 1048576),Pt 10 6 9,Mv 11 10,Ga 11 (Fa 12 1 1),Ga 11 (Ld 13 12),Ga 11 (p 14 (.bin .lss (t 13) (k (-1048576)))),Pt 15 11 14,Mv 16 15,Ga 16 (Fa 17 1 1),Ga 16 (Ld 18 17),Ga 16 (Bi 19 .gtr 18 1048576),Pt 20 16 19,Mv 2 20]) Rt)
theorem Yh:ae Tryz.prog (Tryz.f152.body.getD .skip)=some Z6:=by kernel_rfl
theorem aeS:Tryz.f152.body=some (Tryz.f152.body.getD .skip):=rfl
theorem DS (f:Bool) (q:Int):Tg 136 [RN f q] (GTu (fun _ _=>True)):=by
 refine ah (n:=9) (rs:=[.cell 2 56]) Tryz.func136 afB Yq rfl rfl (by simp) ?_
 repeat' (conv=>whnf
          first
  |exact gTu rfl rfl rfl (by simp) rfl trivial)
 all_goals (conv=>whnf)
theorem yb (g:Int) (m f:Bool) (q:Int):Tg 102 [oI g, .one (.t (tB m)),RN f q] GB:=by
 refine ah (n:=31) (rs:=[.tmp 6]) Tryz.func102 afW YL rfl rfl (by simp) ?_
 repeat' (conv=>whnf
          first
  |(refine aD (fun h=>?_) (fun h=>?_))
  |(refine aI (fun h=>?_) (fun h=>?_))
  |(refine ai rfl (DS _ _) ?_;rintro _ ⟨f,q,rfl,_⟩)
  |exact gB rfl rfl)
 all_goals (conv=>whnf)
theorem we (n:Int):Tg 216 [oI n] (nN (fun r=>0≤r∧r≤1048576)):=by
 refine ah (n:=10) (rs:=[.tmp 2]) Tryz.func216 acS Xo rfl rfl (by simp) ?_
 repeat' (conv=>whnf
          first
  |(refine aD (fun h=>?_) (fun h=>?_))
  |exact iP rfl rfl (by omega))
 all_goals (conv=>whnf)
theorem tR (n:Int):Tg 196 [oI n] (nN (fun r=> -1048576≤r∧r≤1048576)):=by
 refine ah (n:=6) (rs:=[.tmp 2]) Tryz.func196 adK XG rfl rfl (by simp) ?_
 repeat' (conv=>whnf
          first
  |(refine iP rfl rfl ?_;(repeat' split)<;>omega))
 all_goals (conv=>whnf)
theorem wg (n p:Int) (hp:0≤p):Tg 195 [oI n,oI p] GI:=by
 refine ah (n:=14) (rs:=[.tmp 4]) Tryz.func195 adL XH rfl rfl (by simp) ?_
 repeat' (conv=>whnf
          first
  |(refine aD (fun h=>?_) (fun h=>?_))
  |(refine And.intro (by omega) ?_)
  |exact gI rfl rfl)
 all_goals (conv=>whnf)
theorem z7 (r:Sp):Tg 194 [iq r] (P7 (fun r=>0≤r.1∧0≤r.2)):=by
 refine ah (n:=10) (rs:=[.cell 2 31]) Tryz.func194 adM XI rfl rfl (by simp) ?_
 repeat' (conv=>whnf
          first
  |(refine And.intro (by kernel_rfl) ?_)
  |(refine aB rfl (we _) ?_;rintro _ ⟨n,rfl,h1,h2⟩)
  |exact gRp rfl rfl rfl (by simp) rfl ⟨by simp only;omega,by simp only;omega⟩)
 all_goals (conv=>whnf)
theorem yg (r a:Sp):Tg 171 [iq r,iq a] (P7 (fun _=>True)):=by
 refine ah (n:=20) (rs:=[.cell 4 57]) Tryz.func171 aeC XZ rfl rfl (by simp) ?_
 repeat' (conv=>whnf
          first
  |(refine And.intro (by kernel_rfl) ?_)
  |(refine ai rfl (z7 (_,_)) ?_;rintro _ ⟨x,y,rfl,h1,h2⟩)
  |(refine aB rfl (tR _) ?_;rintro _ ⟨n,rfl,_⟩)
  |(refine aB rfl (wg _ _ (by simp only at *;omega)) ?_;rintro _ ⟨n,rfl⟩)
  |exact gSp rfl rfl rfl (by simp) rfl trivial)
 all_goals (conv=>whnf)
theorem zZ (r a b:Sp):Tg 137 [iq r,iq a,iq b] GB:=by
 refine ah (n:=14) (rs:=[.tmp 6]) Tryz.func137 afA Yp rfl rfl (by simp) ?_
 repeat' (conv=>whnf
          first
  |(refine And.intro (by kernel_rfl) ?_)
  |(refine aB rfl (yg (_,_) (_,_)) ?_;rintro _ ⟨x,y,rfl,_⟩)
  |exact gB rfl rfl)
 all_goals (conv=>whnf)
theorem pz (s:Sp):Tg 54 [iq s] (J3 (¬E7 s)):=by
 refine ah (n:=21) (rs:=[.tmp 2]) Tryz.func54 axA auC rfl rfl (by simp) ?_
 repeat' (conv=>whnf
          first
  |(refine aD (fun h=>?_) (fun h=>?_))
  |(refine KH rfl rfl ?_;simp only[E7];first|(simp;omega)|omega))
 all_goals (conv=>whnf)
theorem oc (a b:Sp):Tg 167 [iq a,iq b] (P7 (fun _=>True)):=by
 refine ah (n:=16) (rs:=[.cell 4 57]) Tryz.func167 aeG X5 rfl rfl (by simp) ?_
 repeat' (conv=>whnf
          first
  |exact gSp rfl rfl rfl (by simp) rfl trivial)
 all_goals (conv=>whnf)
theorem kS (s:Sp) (b:Int):Tg 169 [iq s,oI b] GB:=by
 refine ah (n:=29) (rs:=[.tmp 4]) Tryz.func169 aeE X3 rfl rfl (by simp) ?_
 repeat' (conv=>whnf
          first
  |(refine aD (fun h=>?_) (fun h=>?_))
  |exact gB rfl rfl)
 all_goals (conv=>whnf)
theorem y8 (n b:Int):Tg 159 [oI n,oI b] (J3 (IntKind.i64.wrap (0 - b)≤n∧n≤b)):=by
 refine ah (n:=14) (rs:=[.tmp 4]) Tryz.func159 aeO Yd rfl rfl (by simp) ?_
 repeat' (conv=>whnf
          first
  |(refine aD (fun h=>?_) (fun h=>?_))
  |(refine KH rfl rfl ?_;constructor<;>intro hh<;>first|exact⟨h,of_decide_eq_true hh⟩|exact decide_eq_true hh.2|exact absurd hh.1 h|exact absurd hh (by simp)))
 all_goals (conv=>whnf)
theorem gz (a b c:Sp):Tg 122 [iq a,iq b,iq c] GI:=by
 refine ah (n:=30) (rs:=[.tmp 6]) Tryz.func122 afM YB rfl rfl (by simp) ?_
 repeat' (conv=>whnf
          first
  |exact gI rfl rfl)
 all_goals (conv=>whnf)
theorem qu (s:Sp):Tg 152 [iq s] GB:=by
 refine ah (n:=21) (rs:=[.tmp 2]) Tryz.func152 aeS Yh rfl rfl (by simp) ?_
 repeat' (conv=>whnf
          first
  |(refine aD (fun h=>?_) (fun h=>?_))
  |exact gB rfl rfl)
 all_goals (conv=>whnf)
end Go.aU.Cd
end
section
namespace Go.aU.Cd
open Go Go.Proofs
set_option maxRecDepth 100000
def c83:Rc:=Sq (Rg [Bx 2 0,Bx 3 1,p 4 (.alloc [zi,zi])]) (Sq (Sq (Rg [Fa 5 0 2,Ld 6 5]) (Cn 6 (Rg [Fa 7 0 3,Ld 8 7,p 9 (.neg (t 8)),Fa 10 0 3,So 1 10 9]) Sk)) (Sq (Sq (Rg [Fa 11 1 2,Ld 12 11,Bi 13 .and 12 3,Mk 14 0]) (Bk 0 (Lp (Sq (Rg [Bt 15 .lss 14 13]) (Sq (Cn 15 Sk (Ex 0)) (Sq (Bk 1 (Rg [Fa 16 1 3,Ld 17 16,p 18 (.neg (t 17)),Fa 19 0 3,Ld 20 19,p 21 (.build [zi,zi] [(0,1,t 18),(1,1,t 20)]),So 2 3 21])) (Rg [Bi 22 .add 14 1,Mv 14 22]))))))) (Sq (Rg [Lo 2 23 3,So 2 4 23]) Rt)))
theorem atG:ae Tryz.prog (Tryz.f83.body.getD .skip)=some c83:=by kernel_rfl
theorem awH:Tryz.f83.body=some (Tryz.f83.body.getD .skip):=rfl
def c57:Rc:=Sq (Rg [Bx 2 0,Mn 4]) (Sq (Rg [Mv 8 1,Le 9 8,p 10 (.make [zi,zi] 16 (t 9) (t 9)),Mv 5 10]) (Sq (Sq (Rg [Mv 11 1,Le 12 11,Mk 13 0]) (Bk 0 (Lp (Sq (Rg [Bt 14 .lss 13 12]) (Sq (Cn 14 Sk (Ex 0)) (Sq (Bk 1 (Sq (Rg [Mv 15 13,Ia 16 2 11 13,Lo 2 17 16,p 7 (.alloc [zi,zi]),Mv 6 15,So 2 7 17]) (Sq (Sq (Rg [Fa 18 0 2,Ld 19 18]) (Cn 19 (Rg [Mv 20 1,Le 21 20,Bi 22 .sub 21 1,Mv 23 6,Bt 24 .sub 22 23,Mv 6 24]) Sk)) (Rg [Mv 25 5,Mv 26 6,Lo 2 27 2,Lo 2 28 7,p 29 (.call 83 [t 27,t 28]),Ia 30 2 25 26,So 2 30 29])))) (Rg [Bi 31 .add 13 1,Mv 13 31]))))))) (Sq (Rg [Mv 32 5,Mv 4 32]) Rt)))
theorem auA:ae Tryz.prog (Tryz.f57.body.getD .skip)=some c57:=by kernel_rfl
theorem awY:Tryz.f57.body=some (Tryz.f57.body.getD .skip):=rfl
def c82:Rc:=Sq (Rg [Bx 3 1,Mn 4]) (Sq (Rg [Mv 8 0,Le 9 8,p 10 (.make [zi,zi] 16 (t 9) (t 9)),Mv 5 10]) (Sq (Sq (Rg [Mv 11 0,Le 12 11,Mk 13 0]) (Bk 0 (Lp (Sq (Rg [Bt 14 .lss 13 12]) (Sq (Cn 14 Sk (Ex 0)) (Sq (Bk 1 (Sq (Rg [Mv 15 13,Ia 16 2 11 13,Lo 2 17 16,p 7 (.alloc [zi,zi]),Mv 6 15,So 2 7 17]) (Rg [Mv 18 5,Mv 19 6,Fa 20 0 7,Ld 21 20,Fa 22 0 3,Ld 23 22,Bt 24 .add 21 23,Fa 25 1 7,Ld 26 25,Fa 27 1 3,Ld 28 27,Bt 29 .add 26 28,p 30 (.build [zi,zi] [(0,1,t 24),(1,1,t 29)]),Ia 31 2 18 19,So 2 31 30]))) (Rg [Bi 32 .add 13 1,Mv 13 32]))))))) (Sq (Rg [Mv 33 5,Mv 4 33]) Rt)))
theorem atH:ae Tryz.prog (Tryz.f82.body.getD .skip)=some c82:=by kernel_rfl
theorem awI:Tryz.f82.body=some (Tryz.f82.body.getD .skip):=rfl
def c56:Rc:=Sq (Rg [Bx 3 1,Mn 4]) (Sq (Rg [Mv 5 0,Lo 2 6 3,p 7 (.call 82 [t 5,t 6]),Mv 4 7]) Rt)
theorem auB:ae Tryz.prog (Tryz.f56.body.getD .skip)=some c56:=by kernel_rfl
theorem awZ:Tryz.f56.body=some (Tryz.f56.body.getD .skip):=rfl
def ZH:Rc:=Sq (Rg [Mk 4 0]) (Sq (Sq (Rg [Mv 5 0,Bi 6 .lss 5 0]) (Cn 6 (Sq (Rg [Mv 7 0,p 8 (.neg (t 7)),Mv 9 1,p 10 (.call 184 [t 8,t 9]),p 11 (.neg (t 10)),Mv 4 11]) Rt) Sk)) (Sq (Rg [Mv 12 0,p 13 (.bin .mul (k 2) (t 12)),Mv 14 1,Bt 15 .add 13 14,Mv 16 1,p 17 (.bin .mul (k 2) (t 16)),Bt 18 .quo 15 17,Mv 4 18]) Rt))
theorem MG:ae Tryz.prog (Tryz.f184.body.getD .skip)=some ZH:=by kernel_rfl
theorem MS:Tryz.f184.body=some (Tryz.f184.body.getD .skip):=rfl
def ZF:Rc:=Sq (Rg [Mk 4 0]) (Sq (Sq (Rg [Mv 5 0,Bi 6 .lss 5 0]) (Cn 6 (Sq (Rg [Mv 7 0,p 8 (.neg (t 7)),Mv 9 1,p 10 (.call 188 [t 8,t 9]),p 11 (.neg (t 10)),Mv 4 11]) Rt) Sk)) (Sq (Rg [Mv 12 0,p 13 (.bin .mul (k 2) (t 12)),Mv 14 1,Bt 15 .add 13 14,Mv 16 1,p 17 (.bin .mul (k 2) (t 16)),Bt 18 .quo 15 17,Mv 4 18]) Rt))
theorem MF:ae Tryz.prog (Tryz.f188.body.getD .skip)=some ZF:=by kernel_rfl
theorem MR:Tryz.f188.body=some (Tryz.f188.body.getD .skip):=rfl
abbrev C5 (q:Int):Int:=IntKind.i64.wrap ((BitVec.ofInt IntKind.i64.bits q&&& BitVec.ofInt IntKind.i64.bits 3).toNat:Int)
theorem kY (f:Bool) (q:Int) (s:Sp):Tg 83 [RN f q,iq s] (P7 (fun _=>True)):=by
 have hq:=rC ((BitVec.ofInt IntKind.i64.bits q&&& BitVec.ofInt IntKind.i64.bits 3).toNat:Int)
 have hqq:C5 q=IntKind.i64.wrap ((BitVec.ofInt IntKind.i64.bits q&&& BitVec.ofInt IntKind.i64.bits 3).toNat:Int):=rfl
 refine ah (n:=24) (rs:=[.cell 4 57]) Tryz.func83 awH atG rfl rfl (by simp) ?_
 repeat' (conv=>whnf
          first
  |(refine aD (fun h=>?_) (fun h=>?_))
  |(refine aI (fun h=>?_) (fun h=>?_))
  |exact gSp rfl rfl rfl (by simp) rfl trivial
  |(apply ct [3,4,13,14] [] [14] (fun m vs hq=> ∃ (i:Nat) (a b:Int),i≤(C5 q).toNat∧m=(C5 q).toNat - i∧vs=[iV .i64 (i:Int)]∧hq=[(4, .row 2 [[.t (tI a), .t (tI b)]]),(8, .row 2 [[.t (tI 0), .t (tI 0)]])]) ((C5 q).toNat) [iV .i64 0];(conv=>whnf);exact⟨rfl,rfl,rfl,rfl⟩;exact rfl;exact rfl;exact⟨0,_,_,by omega,rfl,rfl,rfl⟩;rintro _ _ _ ⟨i,a,b,hi,rfl,rfl,rfl⟩)
  |(refine au [3,4,13,14] [] ?_;(conv=>whnf);exact⟨rfl,_,[_],⟨i+1,_,_,by omega,rfl,by rw[aa (n:=(i:Int)+1) (by omega) (by omega)];rfl,rfl⟩,rfl,rfl,by omega⟩))
 all_goals (conv=>whnf)
theorem wo (xs:Lz) (d:Sp) (hx:cc xs) (hl:xs.length≤1000000):Tg 82 [oL 2 xs,iq d] (GL 2 (fun ys=>ys.length=xs.length∧cc ys)):=by
 refine ah (n:=34) (rs:=[.tmp 4]) Tryz.func82 awI atH rfl rfl (by simp) ?_
 repeat' (conv=>whnf
          first
  |(refine aD (fun h=>?_) (fun h=>?_))
  |(refine And.intro ⟨by omega,by omega,by omega,by omega⟩ ?_)
  |(refine And.intro ⟨by omega,by omega⟩ ?_)
  |(refine aC hx (by first|omega|exact cF (by first|omega|(simp (disch:=omega) only[aa];omega))|(simp (disch:=omega) only[aa];omega)) (by first|omega|exact cA (by omega)|(simp (disch:=omega) only[aa];omega)) ?_;rintro _ ⟨a,b,rfl⟩ hs)
  |(refine CL hc (by omega) ?_;rintro _ ⟨a,b,rfl⟩ hs)
  |exact gL rfl rfl rfl (by omega) hc (fun ys h1 h2=>⟨by omega,h2⟩)
  |(apply ct [3,5,11,12,13] [] [13] (fun m vs hq=> ∃ (i:Nat) (rows:List (List C)),i≤xs.length∧m=xs.length - i∧vs=[iV .i64 (i:Int)]∧hq=[(4, .row 2 [[.t (tI d.1), .t (tI d.2)]]),(8, .row 2 rows)]∧rows.length=xs.length∧kq JY rows) (xs.length) [iV .i64 0];(conv=>whnf);exact⟨rfl,rfl,rfl,rfl⟩;exact rfl;exact rfl;exact⟨0,_,by omega,rfl,rfl,rfl,by simp,(kq.replicate (e:=[tI 0,tI 0]) ⟨0,0,rfl⟩).az _⟩;rintro _ _ _ ⟨i,rows,hi,rfl,rfl,rfl,hrl,hc⟩)
  |(refine au [3,5,11,12,13] [] ?_;(conv=>whnf);exact⟨rfl,_,[_],⟨i+1,_,by omega,rfl,by rw[aa (n:=(i:Int)+1) (by omega) (by omega)];rfl,rfl,by simp[hrl],(hc.set (e:=[_,_]) ⟨_,_,rfl⟩).az _⟩,rfl,rfl,by omega⟩))
 all_goals (conv=>whnf)
theorem yD (xs:Lz) (d:Sp) (hx:cc xs) (hl:xs.length≤1000000):Tg 56 [oL 2 xs,iq d] (GL 2 (fun ys=>ys.length=xs.length∧cc ys)):=by
 refine ah (n:=8) (rs:=[.tmp 4]) Tryz.func56 awZ auB rfl rfl (by simp) ?_
 repeat' (conv=>whnf
          first
  |(refine ai rfl (wo xs (_,_) hx hl) ?_;rintro _ ⟨ys,rfl,h1,h2⟩)
  |exact gLt rfl rfl ⟨h1,h2⟩)
 all_goals (conv=>whnf)
theorem qp (f:Bool) (q:Int) (xs:Lz) (hx:cc xs) (hl:xs.length≤1000000):Tg 57 [RN f q,oL 2 xs] (GL 2 (fun ys=>ys.length=xs.length∧cc ys)):=by
 have Ey:=aa (n:=(xs.length:Int) - 1) (by omega) (by omega)
 refine ah (n:=33) (rs:=[.tmp 4]) Tryz.func57 awY auA rfl rfl (by simp) ?_
 repeat' (conv=>whnf
          first
  |(refine aD (fun h=>?_) (fun h=>?_))
  |(refine aI (fun h=>?_) (fun h=>?_))
  |(refine And.intro ⟨by omega,by omega,by omega,by omega⟩ ?_)
  |(refine And.intro ⟨by first|omega|(rw[Ey,aa (n:=(xs.length:Int) - 1 - (i:Int)) (by omega) (by omega)];omega),by first|omega|(rw[Ey,aa (n:=(xs.length:Int) - 1 - (i:Int)) (by omega) (by omega)];omega)⟩ ?_)
  |(refine aC hx (by first|omega|exact cF (by first|omega|(simp (disch:=omega) only[aa];omega))|(simp (disch:=omega) only[aa];omega)) (by first|omega|exact cA (by omega)|(simp (disch:=omega) only[aa];omega)) ?_;rintro _ ⟨a,b,rfl⟩ hs)
  |(refine ai rfl (kY _ _ (_,_)) ?_;rintro _ ⟨x,y,rfl,_⟩)
  |(refine CL hc (by omega) ?_;rintro _ ⟨a,b,rfl⟩ hs)
  |(refine CL hc (by rw[Ey,aa (n:=(xs.length:Int) - 1 - (i:Int)) (by omega) (by omega)];omega) ?_;rintro _ ⟨a,b,rfl⟩ hs)
  |exact gL rfl rfl rfl (by omega) hc (fun ys h1 h2=>⟨by omega,h2⟩)
  |(apply ct [1,2,5,11,12,13] [] [13] (fun m vs hq=> ∃ (i:Nat) (rows:List (List C)),i≤xs.length∧m=xs.length - i∧vs=[iV .i64 (i:Int)]∧hq=[(4, .row 2 [[.t (tB f), .t (tI q)]]),(8, .row 2 rows)]∧rows.length=xs.length∧kq JY rows) (xs.length) [iV .i64 0];(conv=>whnf);exact⟨rfl,rfl,rfl,rfl⟩;exact rfl;exact rfl;exact⟨0,_,by omega,rfl,rfl,rfl,by simp,(kq.replicate (e:=[tI 0,tI 0]) ⟨0,0,rfl⟩).az _⟩;rintro _ _ _ ⟨i,rows,hi,rfl,rfl,rfl,hrl,hc⟩)
  |(refine au [1,2,5,11,12,13] [] ?_;(conv=>whnf);exact⟨rfl,_,[_],⟨i+1,_,by omega,rfl,by rw[aa (n:=(i:Int)+1) (by omega) (by omega)];rfl,rfl,by simp[hrl],(hc.set (e:=[_,_]) ⟨_,_,rfl⟩).az _⟩,rfl,rfl,by omega⟩))
 all_goals (conv=>whnf)
theorem uY (a b:Int) (ha:0≤a) (hb:0 < b) (kU:b≤1000000000000):Tg 184 [oI a,oI b] GI:=by
 refine ah (n:=19) (rs:=[.tmp 4]) Tryz.func184 MS MG rfl rfl (by simp) ?_
 repeat' (conv=>whnf
          first
  |(refine aD (fun h=>?_) (fun h=>?_))
  |(refine And.intro (by rw[aa (n:=2 * b) (by omega) (by omega)];omega) ?_)
  |exact gI rfl rfl
  |(exfalso;omega))
 all_goals (conv=>whnf)
theorem nX (a b:Int) (ha: -1000000000000000≤a) (hb:0 < b) (kU:b≤1000000000000):Tg 184 [oI a,oI b] GI:=by
 refine ah (n:=19) (rs:=[.tmp 4]) Tryz.func184 MS MG rfl rfl (by simp) ?_
 repeat' (conv=>whnf
          first
  |(refine aD (fun h=>?_) (fun h=>?_))
  |(refine And.intro (by rw[aa (n:=2 * b) (by omega) (by omega)];omega) ?_)
  |(refine ai rfl (uY (IntKind.i64.wrap (0 - a)) b (by rw[aa (n:=0 - a) (by omega) (by omega)];omega) hb kU) ?_;rintro _ ⟨n,rfl⟩)
  |exact gI rfl rfl)
 all_goals (conv=>whnf)
theorem oW (a b:Int) (ha:0≤a) (hb:0 < b) (kU:b≤1000000000000):Tg 188 [oI a,oI b] GI:=by
 refine ah (n:=19) (rs:=[.tmp 4]) Tryz.func188 MR MF rfl rfl (by simp) ?_
 repeat' (conv=>whnf
          first
  |(refine aD (fun h=>?_) (fun h=>?_))
  |(refine And.intro (by rw[aa (n:=2 * b) (by omega) (by omega)];omega) ?_)
  |exact gI rfl rfl
  |(exfalso;omega))
 all_goals (conv=>whnf)
theorem j4 (a b:Int) (ha: -1000000000000000≤a) (hb:0 < b) (kU:b≤1000000000000):Tg 188 [oI a,oI b] GI:=by
 refine ah (n:=19) (rs:=[.tmp 4]) Tryz.func188 MR MF rfl rfl (by simp) ?_
 repeat' (conv=>whnf
          first
  |(refine aD (fun h=>?_) (fun h=>?_))
  |(refine And.intro (by rw[aa (n:=2 * b) (by omega) (by omega)];omega) ?_)
  |(refine ai rfl (oW (IntKind.i64.wrap (0 - a)) b (by rw[aa (n:=0 - a) (by omega) (by omega)];omega) hb kU) ?_;rintro _ ⟨n,rfl⟩)
  |exact gI rfl rfl)
 all_goals (conv=>whnf)
end Go.aU.Cd
end
section
namespace Go.aU.Cd
open Go Go.Proofs
set_option maxRecDepth 100000
def aaN:Rc:=Sq (Rg [Mk 4 0]) (Sq (Rg [Mk 5 1]) (Sq (Sq (Rg [Mv 13 0,Le 14 13,Mk 15 0]) (Bk 0 (Lp (Sq (Rg [Bt 16 .lss 15 14]) (Sq (Cn 16 Sk (Ex 0)) (Sq (Bk 1 (Sq (Rg [Mv 17 15,Ia 18 2 13 15,Lo 2 19 18,p 7 (.alloc [zi,zi]),Mv 6 17,So 2 7 19]) (Sq (Rg [Mv 20 0,Mv 21 6,Bi 22 .add 21 1,Mv 23 0,Le 24 23,Bt 25 .rem 22 24,Ia 26 2 20 25,Lo 2 27 26,p 8 (.alloc [zi,zi]),So 2 8 27]) (Sq (Rg [p 9 (.kF (k (-1)))]) (Sq (Sq (Rg [Mv 28 1,Le 29 28,Mk 30 0]) (Bk 2 (Lp (Sq (Rg [Bt 31 .lss 30 29]) (Sq (Cn 31 Sk (Ex 2)) (Sq (Bk 3 (Sq (Rg [Ia 32 2 28 30,Lo 2 33 32,p 11 (.alloc [zi,zi]),So 2 11 33]) (Sq (Rg [Fa 34 0 8,Ld 35 34,Fa 36 0 7,Ld 37 36,Bt 38 .sub 35 37,Fa 39 1 11,Ld 40 39,Fa 41 1 7,Ld 42 41,Bt 43 .sub 40 42,Bt 44 .mul 38 43,Fa 45 1 8,Ld 46 45,Fa 47 1 7,Ld 48 47,Bt 49 .sub 46 48,Fa 50 0 11,Ld 51 50,Fa 52 0 7,Ld 53 52,Bt 54 .sub 51 53,Bt 55 .mul 49 54,Bt 56 .sub 44 55,Mv 12 56]) (Rg [Mv 57 9,Mv 58 12,p 59 (.call 65 [t 58,(k 0)]),p 60 (.nA (t 57) (t 59)),Mv 9 60])))) (Rg [Bi 61 .add 30 1,Mv 30 61]))))))) (Rg [Mv 62 5,Mv 63 9,p 64 (.mu (t 62) (t 63)),Mv 5 64])))))) (Rg [Bi 65 .add 15 1,Mv 15 65]))))))) (Sq (Rg [Mv 66 5,Mv 4 66]) Rt)))
theorem Yy:ae Tryz.prog (Tryz.f126.body.getD .skip)=some aaN:=by kernel_rfl
theorem afJ:Tryz.f126.body=some (Tryz.f126.body.getD .skip):=rfl
def c92:Rc:=Sq (Rg [Mk 4 0]) (Sq (Rg [Mv 5 0,Mv 6 1,p 7 (.call 126 [t 5,t 6]),Mv 8 1,Mv 9 0,p 10 (.call 126 [t 8,t 9]),p 11 (.mu (t 7) (t 10)),Mv 4 11]) Rt)
theorem asZ:ae Tryz.prog (Tryz.f92.body.getD .skip)=some c92:=by kernel_rfl
theorem awA:Tryz.f92.body=some (Tryz.f92.body.getD .skip):=rfl
def avE:Rc:=Sq (Rg [Mb 2 false]) (Sq (Rg [Mv 3 0,p 4 (.bin .leq (.c (.w (.one (.t (.val (.int .u8 48)))))) (t 3)),Mv 5 4,Gb 5 (Mv 6 0),Gb 5 (p 7 (.bin .leq (t 6) (.c (.w (.one (.t (.val (.int .u8 57)))))))),Pf 8 5 7,Mv 2 8]) Rt)
theorem W4:ae Tryz.prog (Tryz.f238.body.getD .skip)=some avE:=by kernel_rfl
theorem abY:Tryz.f238.body=some (Tryz.f238.body.getD .skip):=rfl
def Zj:Rc:=Sq (Rg [Mb 2 false]) (Sq (Sq (Rg [Mv 6 0,p 7 (.nC (t 6)),Bi 8 .eql 7 0,Mv 9 8,Ga 9 (Mv 10 0),Ga 9 (p 11 (.nC (t 10))),Ga 9 (Bi 12 .gtr 11 24),Pt 13 9 12,Mv 14 13,Ga 14 (Mv 15 0),⟨some 16,some (14,false),.bin .eql (t 15) (.c (.w (.one (.t (.val (.string ⟨#[109,105,110]⟩))))))⟩,Pt 17 14 16,Mv 18 17,Ga 18 (Mv 19 0),⟨some 20,some (18,false),.bin .eql (t 19) (.c (.w (.one (.t (.val (.string ⟨#[109,97,120]⟩))))))⟩,Pt 21 18 20]) (Cn 21 (Sq (Rg [Mb 2 false]) Rt) Sk)) (Sq (Sq (Rg [Mv 22 0,p 23 (.nC (t 22)),Mk 24 0]) (Bk 0 (Lp (Sq (Rg [Bt 25 .lss 24 23]) (Sq (Cn 25 Sk (Ex 0)) (Sq (Bk 1 (Sq (Rg [Mv 26 24,Mv 3 26]) (Sq (Rg [Mv 27 0,Mv 28 3,p 29 (.qy (t 27) (t 28)),Mv 4 29]) (Sq (Rg [Mv 30 4,p 31 (.bin .leq (.c (.w (.one (.t (.val (.int .u8 97)))))) (t 30)),Mv 32 31,Gb 32 (Mv 33 4),Gb 32 (p 34 (.bin .leq (t 33) (.c (.w (.one (.t (.val (.int .u8 122)))))))),Pf 35 32 34,Mv 5 35]) (Sq (Rg [Mv 36 5,Nt 37 36,Mv 38 37,Gb 38 (Mv 39 3),Gb 38 (Bi 40 .eql 39 0),Gb 38 (Mv 41 40),Ga 41 (Mv 42 4),Ga 41 (p 43 (.bin .neq (t 42) (.c (.w (.one (.t (.val (.int .u8 95)))))))),Ga 41 (Mv 44 43),Gb 44 (Mv 45 4),Gb 44 (p 46 (.call 238 [t 45])),Gb 44 (Nt 47 46),Ga 41 (Pf 48 44 47),Gb 38 (Pt 49 41 48),Pf 50 38 49]) (Cn 50 (Sq (Rg [Mb 2 false]) Rt) Sk)))))) (Rg [Bi 51 .add 24 1,Mv 24 51]))))))) (Sq (Rg [Mb 2 true]) Rt)))
theorem Xm:ae Tryz.prog (Tryz.f218.body.getD .skip)=some Zj:=by kernel_rfl
theorem acQ:Tryz.f218.body=some (Tryz.f218.body.getD .skip):=rfl
def Zk:Rc:=Sq (Rg [Mk 2 0,Mk 3 0]) (Sq (Sq (Rg [Mv 4 0]) (Bk 0 (Sq (Sq (Rg [Bi 6 .eql 4 1,Mv 5 6]) (Cn 5 Sk (Rg [Bi 7 .eql 4 2,Mv 5 7]))) (Cn 5 (Sq (Rg [Mk 2 0,Mk 3 0]) Rt) (Sq (Sq (Rg [Bi 9 .eql 4 3,Mv 8 9]) (Cn 8 Sk (Sq (Rg [Bi 10 .eql 4 4,Mv 8 10]) (Cn 8 Sk (Sq (Rg [Bi 11 .eql 4 5,Mv 8 11]) (Cn 8 Sk (Rg [Bi 12 .eql 4 6,Mv 8 12]))))))) (Cn 8 (Sq (Rg [Mk 2 2,Mk 3 2]) Rt) (Sq (Rg [Bi 14 .eql 4 7,Mv 13 14]) (Cn 13 (Sq (Rg [Mk 2 1,Mk 3 1]) Rt) (Sq (Sq (Rg [Bi 16 .eql 4 8,Mv 15 16]) (Cn 15 Sk (Rg [Bi 17 .eql 4 9,Mv 15 17]))) (Cn 15 (Sq (Rg [Mk 2 1,Mk 3 8]) Rt) Sk)))))))))) (Sq (Rg [Mk 2 0,p 3 (.kF (k (-1)))]) Rt))
theorem Xn:ae Tryz.prog (Tryz.f217.body.getD .skip)=some Zk:=by kernel_rfl
theorem acR:Tryz.f217.body=some (Tryz.f217.body.getD .skip):=rfl
def ZO:Rc:=Sq (Rg [Mb 2 false]) (Sq (Sq (Rg [Mv 6 0,p 7 (.nC (t 6)),Mk 8 0]) (Bk 0 (Lp (Sq (Rg [Bt 9 .lss 8 7]) (Sq (Cn 9 Sk (Ex 0)) (Sq (Bk 1 (Sq (Rg [Mv 10 8,Mv 3 10]) (Sq (Rg [Mv 11 0,Mv 12 3,p 13 (.qy (t 11) (t 12)),p 14 (.bin .leq (.c (.w (.one (.t (.val (.int .u8 65)))))) (t 13)),Mv 15 14,Gb 15 (Mv 16 0),Gb 15 (Mv 17 3),Gb 15 (p 18 (.qy (t 16) (t 17))),Gb 15 (p 19 (.bin .leq (t 18) (.c (.w (.one (.t (.val (.int .u8 90)))))))),Pf 20 15 19,Mv 4 20]) (Sq (Rg [Mv 21 0,Mv 22 3,p 23 (.qy (t 21) (t 22)),p 24 (.bin .leq (.c (.w (.one (.t (.val (.int .u8 48)))))) (t 23)),Mv 25 24,Gb 25 (Mv 26 0),Gb 25 (Mv 27 3),Gb 25 (p 28 (.qy (t 26) (t 27))),Gb 25 (p 29 (.bin .leq (t 28) (.c (.w (.one (.t (.val (.int .u8 57)))))))),Pf 30 25 29,Mv 5 30]) (Sq (Rg [Mv 31 4,Nt 32 31,Mv 33 32,Gb 33 (Mv 34 5),Gb 33 (Nt 35 34),Pf 36 33 35]) (Cn 36 (Sq (Rg [Mb 2 false]) Rt) Sk)))))) (Rg [Bi 37 .add 8 1,Mv 8 37]))))))) (Sq (Rg [Mv 38 0,p 39 (.nC (t 38)),p 40 (.bin .leq (k 1) (t 39)),Mv 41 40,Gb 41 (Mv 42 0),Gb 41 (p 43 (.nC (t 42))),Gb 41 (Bi 44 .leq 43 8),Pf 45 41 44,Mv 2 45]) Rt))
theorem XX:ae Tryz.prog (Tryz.f175.body.getD .skip)=some ZO:=by kernel_rfl
theorem aeA:Tryz.f175.body=some (Tryz.f175.body.getD .skip):=rfl
abbrev oS (s:ByteArray):W:= .one (.t (.val (.string s)))
abbrev oU8 (n:Int):W:= .one (.t (.val (.int .u8 n)))
theorem nR (xs ys:Lz) (hx:cc xs) (hy:cc ys) (hl:xs.length≤1000000) (hm:ys.length≤1000000):Tg 126 [oL 2 xs,oL 2 ys] GI:=by
 refine ah (n:=67) (rs:=[.tmp 4]) Tryz.func126 afJ Yy rfl rfl (by simp) ?_
 repeat' (conv=>whnf
          first
  |(refine aD (fun h=>?_) (fun h=>?_))
  |(refine aC hx (by first|omega|exact cF (by first|omega|(simp (disch:=omega) only[aa];omega))|(simp (disch:=omega) only[aa];omega)) (by first|omega|exact cA (by omega)|(simp (disch:=omega) only[aa];omega)) ?_;rintro _ ⟨a,b,rfl⟩ hs)
  |(refine aC hy (by first|omega|exact cF (by first|omega|(simp (disch:=omega) only[aa];omega))|(simp (disch:=omega) only[aa];omega)) (by first|omega|exact cA (by omega)|(simp (disch:=omega) only[aa];omega)) ?_;rintro _ ⟨a,b,rfl⟩ hs)
  |(refine And.intro (by omega) ?_)
  |(refine ai rfl (iA _ _) ?_;rintro _ ⟨n,rfl⟩)
  |exact gI rfl rfl
  |(apply aO [0,1,5,7,8,9,13,14,15,28,29,30] [] [9,30] (fun m vs=> ∃ (j:Nat) (s:Int),j≤ys.length∧m=ys.length - j∧vs=[iV .i64 s,iV .i64 j]) (ys.length) [iV .i64 (-1),iV .i64 0];(conv=>whnf);exact⟨rfl,rfl,rfl,rfl⟩;exact rfl;exact rfl;exact⟨0, -1,by omega,rfl,rfl⟩;rintro _ _ ⟨j,s',hj,rfl,rfl⟩)
  |(refine au [0,1,5,7,8,9,13,14,15,28,29,30] [] ?_;(conv=>whnf);exact⟨rfl,_,[_,_],⟨j+1,_,by omega,rfl,by rw[aa (n:=(j:Int)+1) (by omega) (by omega)];rfl⟩,rfl,rfl,rfl,by omega⟩)
  |(apply aO [0,1,5,13,14,15] [] [5,15] (fun m vs=> ∃ (i:Nat) (s:Int),i≤xs.length∧m=xs.length - i∧vs=[iV .i64 s,iV .i64 i]) (xs.length) [iV .i64 1,iV .i64 0];(conv=>whnf);exact⟨rfl,rfl,rfl,rfl⟩;exact rfl;exact rfl;exact⟨0,1,by omega,rfl,rfl⟩;rintro _ _ ⟨i,s,hi,rfl,rfl⟩)
  |(refine au [0,1,5,13,14,15] [] ?_;(conv=>whnf);exact⟨rfl,_,[_,_],⟨i+1,_,by omega,rfl,by rw[aa (n:=(i:Int)+1) (by omega) (by omega)];rfl⟩,rfl,rfl,rfl,by omega⟩))
 all_goals (conv=>whnf)
theorem lT (xs ys:Lz) (hx:cc xs) (hy:cc ys) (hl:xs.length≤1000000) (hm:ys.length≤1000000):Tg 92 [oL 2 xs,oL 2 ys] GI:=by
 refine ah (n:=12) (rs:=[.tmp 4]) Tryz.func92 awA asZ rfl rfl (by simp) ?_
 repeat' (conv=>whnf
          first
  |(refine ai rfl (nR xs ys hx hy hl hm) ?_;rintro _ ⟨n,rfl⟩)
  |(refine ai rfl (nR ys xs hy hx hm hl) ?_;rintro _ ⟨n,rfl⟩)
  |exact gI rfl rfl)
 all_goals (conv=>whnf)
theorem sX (c:Int):Tg 238 [oU8 c] GB:=by
 refine ah (n:=9) (rs:=[.tmp 2]) Tryz.func238 abY W4 rfl rfl (by simp) ?_
 repeat' (conv=>whnf
          first
  |(refine aD (fun h=>?_) (fun h=>?_))
  |exact gB rfl rfl)
 all_goals (conv=>whnf)
theorem ve (s:ByteArray) (hs:s.size≤maxLen):Tg 218 [oS s] GB:=by
 refine ah (n:=52) (rs:=[.tmp 2]) Tryz.func218 acQ Xm rfl rfl (by simp) ?_
 repeat' (conv=>whnf
          first
  |(refine aD (fun h=>?_) (fun h=>?_))
  |(refine bY (fun h=>?_) (fun h=>?_))
  |(refine aI (fun h=>?_) (fun h=>?_))
  |(refine od (by omega) (by omega) ?_;intro bb)
  |(refine ai rfl (sX _) ?_;rintro _ ⟨b,rfl⟩)
  |exact gB rfl rfl
  |(apply aO [0,23,24] [] [24] (RI s.size) (s.size) [iV .i64 0];(conv=>whnf);exact⟨rfl,rfl,rfl,rfl⟩;exact rfl;exact rfl;exact RI.zero;rintro _ _ ⟨i,hi,rfl,rfl⟩)
  |(refine au [0,23,24] [] ?_;(conv=>whnf);exact⟨rfl,_,[_],RI.succ (N:=s.size) (i:=i) (by omega) hs,rfl,rfl,rfl,by omega⟩))
 all_goals (conv=>whnf)
theorem zy (s:ByteArray) (hs:s.size≤maxLen):Tg 175 [oS s] GB:=by
 refine ah (n:=46) (rs:=[.tmp 2]) Tryz.func175 aeA XX rfl rfl (by simp) ?_
 repeat' (conv=>whnf
          first
  |(refine aD (fun h=>?_) (fun h=>?_))
  |(refine aI (fun h=>?_) (fun h=>?_))
  |(refine od (by omega) (by omega) ?_;intro bb)
  |exact gB rfl rfl
  |(apply aO [0,7,8] [] [8] (RI s.size) (s.size) [iV .i64 0];(conv=>whnf);exact⟨rfl,rfl,rfl,rfl⟩;exact rfl;exact rfl;exact RI.zero;rintro _ _ ⟨i,hi,rfl,rfl⟩)
  |(refine au [0,7,8] [] ?_;(conv=>whnf);exact⟨rfl,_,[_],RI.succ (N:=s.size) (i:=i) (by omega) hs,rfl,rfl,rfl,by omega⟩))
 all_goals (conv=>whnf)
def IsI (e:List T):Prop:= ∃a,e=[tI a]
end Go.aU.Cd
end
section
namespace Go.aU.Cd
open Go Go.Proofs
set_option maxRecDepth 100000
def c87:Rc:=Sq (Rg [Mk 2 0]) (Sq (.cond (kb false) (Sq (Rg [Mv 3 0,p 4 (.conv .u32 (t 3)),p 5 (.call 117 [t 4]),Mv 2 5]) Rt) Sk) (Sq (Rg [Mv 6 0,p 7 (.call 118 [t 6]),Mv 2 7]) Rt))
theorem atD:ae Tryz.prog (Tryz.f87.body.getD .skip)=some c87:=by kernel_rfl
theorem awE:Tryz.f87.body=some (Tryz.f87.body.getD .skip):=rfl
def aaV:Rc:=Sq (Rg [Mk 2 0]) (Sq (Sq (Rg [Mv 3 0,p 4 (.bin .geq (t 3) (.c (.w (.one (.t (.val (.int .u64 4294967296)))))))]) (Cn 4 (Sq (Rg [Mv 5 0,p 6 (.bin .shr (t 5) (.c (.w (.one (.t (.val (.int .u64 32))))))),Mv 0 6]) (Rg [Mk 2 32])) Sk)) (Sq (Sq (Rg [Mv 7 0,p 8 (.bin .geq (t 7) (.c (.w (.one (.t (.val (.int .u64 65536)))))))]) (Cn 8 (Sq (Rg [Mv 9 0,p 10 (.bin .shr (t 9) (.c (.w (.one (.t (.val (.int .u64 16))))))),Mv 0 10]) (Rg [Mv 11 2,Bi 12 .add 11 16,Mv 2 12])) Sk)) (Sq (Sq (Rg [Mv 13 0,p 14 (.bin .geq (t 13) (.c (.w (.one (.t (.val (.int .u64 256)))))))]) (Cn 14 (Sq (Rg [Mv 15 0,p 16 (.bin .shr (t 15) (.c (.w (.one (.t (.val (.int .u64 8))))))),Mv 0 16]) (Rg [Mv 17 2,Bi 18 .add 17 8,Mv 2 18])) Sk)) (Sq (Rg [Mv 19 2,Mv 20 0,p 21 (.conv .u8 (t 20)),p 22 (.qy (.c (.w (.one (.t (.val (.string ⟨#[0,1,2,2,3,3,3,3,4,4,4,4,4,4,4,4,5,5,5,5,5,5,5,5,5,5,5,5,5,5,5,5,6,6,6,6,6,6,6,6,6,6,6,6,6,6,6,6,6,6,6,6,6,6,6,6,6,6,6,6,6,6,6,6,7,7,7,7,7,7,7,7,7,7,7,7,7,7,7,7,7,7,7,7,7,7,7,7,7,7,7,7,7,7,7,7,7,7,7,7,7,7,7,7,7,7,7,7,7,7,7,7,7,7,7,7,7,7,7,7,7,7,7,7,7,7,7,7,8,8,8,8,8,8,8,8,8,8,8,8,8,8,8,8,8,8,8,8,8,8,8,8,8,8,8,8,8,8,8,8,8,8,8,8,8,8,8,8,8,8,8,8,8,8,8,8,8,8,8,8,8,8,8,8,8,8,8,8,8,8,8,8,8,8,8,8,8,8,8,8,8,8,8,8,8,8,8,8,8,8,8,8,8,8,8,8,8,8,8,8,8,8,8,8,8,8,8,8,8,8,8,8,8,8,8,8,8,8,8,8,8,8,8,8,8,8,8,8,8,8,8,8,8,8,8,8]⟩)))))) (t 21)),p 23 (.conv .i64 (t 22)),Bt 24 .add 19 23,Mv 2 24]) Rt))))
theorem MM:ae Tryz.prog (Tryz.f118.body.getD .skip)=some aaV:=by kernel_rfl
theorem MY:Tryz.f118.body=some (Tryz.f118.body.getD .skip):=rfl
def avG:Rc:=Sq (Rg [Mk 2 0]) (Sq (Sq (Rg [Mv 5 0,Bi 6 .lss 5 2]) (Cn 6 (Sq (Rg [Mv 7 0,Mv 2 7]) Rt) Sk)) (Sq (Rg [Mv 8 0,p 9 (.conv .u64 (t 8)),p 10 (.call 87 [t 9]),Bi 11 .add 10 1,Bi 12 .quo 11 2,p 13 (.bin .shl (k 1) (t 12)),Mv 3 13]) (Bk 0 (Lp (Bk 1 (Sq (Rg [Mv 14 3,Mv 15 0,Mv 16 3,Bt 17 .quo 15 16,Bt 18 .add 14 17,Bi 19 .quo 18 2,Mv 4 19]) (Sq (Sq (Rg [Mv 20 4,Mv 21 3,Bt 22 .geq 20 21]) (Cn 22 (Sq (Rg [Mv 23 3,Mv 2 23]) Rt) Sk)) (Rg [Mv 24 4,Mv 3 24]))))))))
theorem Xf:ae Tryz.prog (Tryz.f226.body.getD .skip)=some avG:=by kernel_rfl
theorem acJ:Tryz.f226.body=some (Tryz.f226.body.getD .skip):=rfl
def avK:Rc:=Sq (Rg [Bx 2 0,Bx 3 1,Mk 4 0]) (Sq (Dr [Fa 7 0 3,Ld 8 7,Fa 9 0 2,Ld 10 9,Bt 11 .sub 8 10,Fa 12 1 3,Ld 13 12,Fa 14 1 2,Ld 15 14,Bt 16 .sub 13 15,Mv 5 11,Mv 6 16] [[],[0],[],[2],[1,3],[],[5],[],[7],[6,8],[4,0,1,2,3,4],[9,10,0,1,2,3,4,5,6,7,8,9,10]]) (Sq (Rg [Mv 17 5,Mv 18 5,Bt 19 .mul 17 18,Mv 20 6,Mv 21 6,Bt 22 .mul 20 21,Bt 23 .add 19 22,p 24 (.bin .mul (k 1000000) (t 23)),p 25 (.call 226 [t 24]),Mv 4 25]) Rt))
theorem Xy:ae Tryz.prog (Tryz.f206.body.getD .skip)=some avK:=by kernel_rfl
theorem adC:Tryz.f206.body=some (Tryz.f206.body.getD .skip):=rfl
def avP:Rc:=Sq (Rg [Mk 2 0,Mk 3 0]) (Sq (Sq (Rg [Mv 7 0,p 8 (.call 182 [t 7]),Mv 4 8]) (Sq (Rg [Mv 9 4,Bi 10 .neq 9 0]) (Cn 10 (Sq (Rg [Mv 11 4,Mk 2 0,Mv 3 11]) Rt) Sk))) (Sq (Rg [Mk 5 0]) (Sq (Sq (Rg [Mv 12 0,Le 13 12,Bi 14 .sub 13 1,Mk 15 0]) (Bk 0 (Lp (Sq (Rg [Bt 16 .lss 15 14]) (Sq (Cn 16 Sk (Ex 0)) (Sq (Bk 1 (Sq (Rg [Mv 17 15,Mv 6 17]) (Dr [Mv 18 5,Mv 19 0,Mv 20 6,Ia 21 2 19 20,Lo 2 22 21,Mv 23 0,Mv 24 6,Bi 25 .add 24 1,Ia 26 2 23 25,Lo 2 27 26,p 28 (.call 206 [t 22,t 27]),Bt 29 .add 18 28,Mv 5 29] [[],[],[],[1,2],[3],[],[],[6],[5,7],[8],[4,9],[0,10],[11,10,0,1,2,3,4,5,6,7,8,9,10,11]]))) (Rg [Bi 30 .add 15 1,Mv 15 30]))))))) (Sq (Rg [Mv 31 5,Mv 2 31,Mk 3 0]) Rt))))
theorem XQ:ae Tryz.prog (Tryz.f185.body.getD .skip)=some avP:=by kernel_rfl
theorem adU:Tryz.f185.body=some (Tryz.f185.body.getD .skip):=rfl
abbrev oU (n:Int):W:= .one (.t (.val (.int .u64 n)))
theorem Ql (n:Int):0≤IntKind.u8.wrap n∧IntKind.u8.wrap n < 256:=by
 simp[IntKind.wrap,IntKind.bits,IntKind.signed];omega
theorem sP (x:Int):Tg 118 [oU x] (nN (fun n=>0≤n∧n≤64)):=by
 refine ah (n:=25) (rs:=[.tmp 2]) Tryz.func118 MY MM rfl rfl (by simp) ?_
 repeat' (conv=>whnf
          first
  |(refine aD (fun h=>?_) (fun h=>?_))
  |(refine Il (N:=256) (B:=8) (by kernel_rfl) (by kernel_rfl) (Ql _).1 (Ql _).2 ?_;intro bb Dg)
  |(refine And.intro (by omega) ?_)
  |(refine iP rfl rfl ?_;simp (disch:=omega) only[aa];omega))
 all_goals (conv=>whnf)
theorem wA (x:Int):Tg 87 [oU x] (nN (fun n=>0≤n∧n≤64)):=by
 refine ah (n:=8) (rs:=[.tmp 2]) Tryz.func87 awE atD rfl rfl (by simp) ?_
 repeat' (conv=>whnf
          first
  |(refine ai rfl (sP _) ?_;rintro _ ⟨n,rfl,h1,h2⟩)
  |exact iP rfl rfl ⟨h1,h2⟩)
 all_goals (conv=>whnf)
theorem ID (k:Nat) (h:k≤60):IntKind.i64.wrap (1 * 2 ^ (min k IntKind.i64.bits))=((2 ^ k:Nat):Int)∧1≤2 ^ k∧2 ^ k≤1152921504606846976:=by
 have h1:2 ^ k≤2 ^ 60:=Nat.pow_le_pow_right (by omega) h
 have h2:1≤2 ^ k:=Nat.one_le_two_pow
 have e:min k IntKind.i64.bits=k:=by simp only[IntKind.bits];omega
 refine⟨?_,h2,by simpa using h1⟩
 rw[e,Int.one_mul]
 have e2:((2:Int) ^ k)=((2 ^ k:Nat):Int):=by simp
 rw[e2]
 exact aa (by omega) (by omega)
theorem Dh {a:Int} (h0:0≤a) (h1:a < 9223372036854775808):IntKind.i64.wrap (a.tdiv 2)=a / 2:=by
 rw[Int.tdiv_eq_ediv_of_nonneg h0,aa (by omega) (by omega)]
theorem FR {n x:Int} (h0:0≤n) (h1:1≤x):0≤n.tdiv x∧n.tdiv x≤n:=by
 rw[Int.tdiv_eq_ediv_of_nonneg h0]
 exact⟨Int.ediv_nonneg h0 (by omega),Int.ediv_le_self _ h0⟩
theorem NH {n x:Int} (h0:2≤n) (h1:n≤9223372036854775806) (hx:1≤x) (hx2:x≤1152921504606846976):
 1≤IntKind.i64.wrap ((IntKind.i64.wrap (x+IntKind.i64.wrap (n.tdiv x))).tdiv 2):=by
 obtain⟨q0,q1⟩:=FR (n:=n) (x:=x) (by omega) hx
 have q2:x=1∨n.tdiv x≤4611686018427387903:=by
  by_cases h:x=1
  · exact .inl h
  · right
    rw[Int.tdiv_eq_ediv_of_nonneg (by omega)]
    have h3:n / x * x≤n:=Int.ediv_mul_le _ (by omega)
    have h4:0≤n / x:=Int.ediv_nonneg (by omega) (by omega)
    have h5:n / x * 2≤n / x * x:=Int.mul_le_mul_of_nonneg_left (by omega) h4
    omega
 have q3:x=1→n.tdiv x=n:=fun h=>by subst h;simp
 rw[aa (n:=n.tdiv x) (by omega) (by omega)]
 rw[aa (n:=x+n.tdiv x) (by omega) (by rcases q2 with h|h<;>omega)]
 rw[Dh (by omega) (by rcases q2 with h|h<;>omega)]
 rcases q2 with h|h
 · have:=q3 h;omega
 · by_cases qL:x=1
   · have:=q3 qL;omega
   · omega
theorem yq {r:Int} (h1:0≤r) (h2:r≤64):(0≤IntKind.i64.wrap ((IntKind.i64.wrap (r+1)).tdiv 2))∧1≤IntKind.i64.wrap (1 * 2 ^ (min (IntKind.i64.wrap ((IntKind.i64.wrap (r+1)).tdiv 2)).toNat IntKind.i64.bits))∧IntKind.i64.wrap (1 * 2 ^ (min (IntKind.i64.wrap ((IntKind.i64.wrap (r+1)).tdiv 2)).toNat IntKind.i64.bits))≤1152921504606846976:=by
 rw[aa (n:=r+1) (by omega) (by omega),Dh (by omega) (by omega)]
 obtain⟨a,b,c⟩:=ID (((r+1) / 2).toNat) (by omega)
 rw[a]
 omega
theorem wm (n:Int) (h1:n≤9223372036854775806):Tg 226 [oI n] GI:=by
 refine ah (n:=25) (rs:=[.tmp 2]) Tryz.func226 acJ Xf rfl rfl (by simp) ?_
 repeat' (conv=>whnf
          first
  |(refine aD (fun h=>?_) (fun h=>?_))
  |(refine And.intro (yq rT uN).1 ?_)
  |(refine And.intro (by omega) ?_)
  |(refine ai rfl (wA _) ?_;rintro _ ⟨r,rfl,rT,uN⟩)
  |exact gI rfl rfl
  |(apply aO [0,3] [] [3] (fun m vs=> ∃x:Int,1≤x∧x≤1152921504606846976∧m=x.toNat∧vs=[iV .i64 x]) ((IntKind.i64.wrap (1 * 2 ^ (min (IntKind.i64.wrap ((IntKind.i64.wrap (r+1)).tdiv 2)).toNat IntKind.i64.bits))).toNat) [_];(conv=>whnf);exact⟨rfl,rfl,rfl,rfl⟩;exact rfl;exact rfl;exact⟨_,(yq rT uN).2.1,(yq rT uN).2.2,rfl,rfl⟩;rintro _ _ ⟨x,qL,hx2,rfl,rfl⟩)
  |(refine au [0,3] [] ?_;(conv=>whnf);exact⟨rfl,_,[_],⟨_,NH (by omega) h1 qL hx2,by omega,rfl,rfl⟩,rfl,rfl,rfl,by omega⟩))
 all_goals (conv=>whnf)
end Go.aU.Cd
end
section
namespace Go.aU
open Go
variable {P:Program}
abbrev iu:T:= .val (.slice none 0 0)
inductive JW:C→C→Prop
 |refl (c:C):JW c c
 |nil (sz:Nat):JW (.t iu) (.t (.aA sz []))
inductive cR:List C→List C→Prop
 |nil:cR [] []
 |cons {a b:C} {r s:List C} (h:JW a b) (t:cR r s):cR (a::r) (b::s)
inductive zP:W→W→Prop
 |one {a b:C} (h:JW a b):zP (.one a) (.one b)
 |agg {r s:List C} (h:cR r s):zP (.agg r) (.agg s)
inductive jh:List W→List W→Prop
 |nil:jh [] []
 |cons {a b:W} {r s:List W} (h:zP a b) (t:jh r s):jh (a::r) (b::s)
theorem cR.refl: ∀l:List C,cR l l
 | []=> .nil
 |_::r=> .cons (.refl _) (cR.refl r)
theorem zP.refl: ∀u:W,zP u u
 | .one c=> .one (.refl c)
 | .agg cs=> .agg (cR.refl cs)
theorem jh.refl: ∀l:List W,jh l l
 | []=> .nil
 |_::r=> .cons (zP.refl _) (jh.refl r)
variable {w:World} {A:Nat→Prop} {ρ:Env}
theorem JW.rc {a b:C} {x:Value} (h:JW a b) (hr:RC w A ρ a x):RC w A ρ b x:=by
 cases h with
 |refl=>exact hr
 |nil sz=>
  have dn:RT w A iu x:=hr
  cases dn
  exact RT.nil
theorem cR.len {r s:List C} (h:cR r s):r.length=s.length:=by
 induction h with
 |nil=>rfl
 |cons _ _ ih=>simp[ih]
theorem cR.get {r s:List C} (h:cR r s): ∀ {k:Nat} {b:C},s[k]? =some b→ ∃a,r[k]? =some a∧JW a b:=by
 induction h with
 |nil=>intro k b hb;simp at hb
 |cons hh _ ih=>
  intro k c hb
  cases k with
  |zero=>simp only[List.getElem?_cons_zero,Option.some.injEq]at hb;subst hb;exact⟨_,rfl,hh⟩
  |succ k=>exact ih hb
theorem jh.len {r s:List W} (h:jh r s):r.length=s.length:=by
 induction h with
 |nil=>rfl
 |cons _ _ ih=>simp[ih]
theorem jh.get {r s:List W} (h:jh r s): ∀ {k:Nat} {b:W},s[k]? =some b→ ∃a,r[k]? =some a∧zP a b:=by
 induction h with
 |nil=>intro k b hb;simp at hb
 |cons hh _ ih=>
  intro k c hb
  cases k with
  |zero=>simp only[List.getElem?_cons_zero,Option.some.injEq]at hb;subst hb;exact⟨_,rfl,hh⟩
  |succ k=>exact ih hb
theorem zP.rw {a b:W} {x:Value} (h:zP a b) (hr:RW w A ρ a x):RW w A ρ b x:=by
 cases h with
 |one h=>exact⟨h.rc hr.1,hr.2⟩
 |agg h=>
  obtain⟨vs,h1,h2,h3⟩:=hr
  refine⟨vs,h1,by rw[←h.len];exact h2,fun k c y hc hy=>?_⟩
  obtain⟨c',B9,hle⟩:=h.get hc
  exact⟨hle.rc (h3 k c' y B9 hy).1,(h3 k c' y B9 hy).2⟩
theorem jh.rws {a b:List W} {xs:List Value} (h:jh a b) (hr:tE w A ρ a xs):tE w A ρ b xs:=by
 refine⟨by rw[←h.len];exact hr.1,fun k u x hu hx=>?_⟩
 obtain⟨u',yR,hle⟩:=h.get hu
 exact hle.rw (hr.2 k u' x yR hx)
theorem jh.rv {a b:List W} {x:Value} (h:jh a b) (hr:RV w A ρ (aT a) x):RV w A ρ (aT b) x:=by
 cases h with
 |nil=>exact hr
 |cons h t=>
  cases t with
  |nil=>exact h.rw hr
  |cons h2 t=>
   obtain⟨vs,h1,Tk,h3⟩:=hr
   have hh:=jh.cons h (jh.cons h2 t)
   refine⟨vs,h1,by rw[←hh.len];exact Tk,fun k u y hu hy=>?_⟩
   obtain⟨u',yR,hle⟩:=hh.get hu
   exact hle.rw (h3 k u' y yR hy)
theorem Fn.Fs {f:FuncId} {args args' ts ts':List W} {hin hout:HS} (h:Fn P f args hin (aT ts) hout) (ha:jh args' args) (hr:jh ts ts'):Fn P f args' hin (aT ts') hout:=by
 intro w A ρ xs hH hx
 refine(h w A ρ xs hH (ha.rws hx)).mono ?_
 rintro e w' ⟨x,A',ρ',F',h1,h2,h3⟩
 exact⟨x,A',ρ',F',h1,hr.rv h2,h3⟩
theorem JW.cq {a b:C} (h:JW a b) (hT:a.cq=true):b.cq=true:=by
 cases h with
 |refl=>exact hT
 |nil=>rfl
theorem cR.cq {a b:List C} (h:cR a b) (hT:a.all C.cq=true):b.all C.cq=true:=by
 induction h with
 |nil=>rfl
 |cons hh _ ih=>
  simp only[List.all_cons,Bool.and_eq_true]at hT⊢
  exact⟨hh.cq hT.1,ih hT.2⟩
theorem zP.cq {a b:W} (h:zP a b) (hT:a.cq=true):b.cq=true:=by
 cases h with
 |one h=>exact h.cq hT
 |agg h=>exact h.cq hT
theorem jh.cq {a b:List W} (h:jh a b) (hT:a.all W.cq=true):b.all W.cq=true:=by
 induction h with
 |nil=>rfl
 |cons hh _ ih=>
  simp only[List.all_cons,Bool.and_eq_true]at hT⊢
  exact⟨hh.cq hT.1,ih hT.2⟩
def Wk (Good:List W→Prop) (ts:List W):Prop:= ∃ts',jh ts ts'∧ts.all W.cq=true∧Good ts'
theorem aL {f:FuncId} {args:List W} {Good:List W→Prop} (h: ∃ts,Fn P f args [] (aT ts) []∧(aT ts).cq=true∧Wk Good ts): ∃ts,Fn P f args [] (aT ts) []∧(aT ts).cq=true∧Good ts:=by
 obtain⟨ts,h1,_,ts',h3,h4,h5⟩:=h
 exact⟨ts',h1.Fs (jh.refl _) h3,uf (h3.cq h4),h5⟩
theorem Dn {f:FuncId} {args args':List W} {Good:List W→Prop} (h: ∃ts,Fn P f args [] (aT ts) []∧(aT ts).cq=true∧Good ts) (ha:jh args' args): ∃ts,Fn P f args' [] (aT ts) []∧(aT ts).cq=true∧Good ts:=by
 obtain⟨ts,h1,h2,h3⟩:=h
 exact⟨ts,h1.Fs ha (jh.refl _),h2,h3⟩
def tr (xs:Lz):List (List C):=xs.map fun e=>e.map .t
def aF (rows:List (List C)) (xs:Lz):Prop:=rows=tr xs
theorem eG (xs:Lz) (f:Nat→Option Nat):(tr xs).map (fun e=>e.map (C.az f))=tr xs:=by
 unfold tr
 rw[List.map_map]
 apply List.map_congr_left
 intro e _
 exact C8 e f
theorem Ke (xs:Lz) (n:Nat):(tr xs).map (fun e=>e.map (C.up n))=tr xs:=by
 unfold tr
 rw[List.map_map]
 apply List.map_congr_left
 intro e _
 simp only[Function.comp,List.map_map]
 rfl
theorem aF.az {rows:List (List C)} {xs:Lz} (h:aF rows xs) (f:Nat→Option Nat):aF (rows.map fun e=>e.map (C.az f)) xs:=by
 unfold aF at h⊢
 rw[h,eG]
theorem aF.set {rows:List (List C)} {xs:Lz} (h:aF rows xs) (i:Nat) (e:List T):aF (rows.set i (e.map .t)) (xs.set i e):=by
 unfold aF at h⊢
 rw[h]
 unfold tr
 rw[List.map_set]
theorem aF.snoc {rows:List (List C)} {xs:Lz} (h:aF rows xs) (e:List T):aF (rows++[e.map .t]) (xs++[e]):=by
 unfold aF at h⊢
 rw[h]
 unfold tr
 simp
theorem aF.If {rows:List (List C)} {xs:Lz} (h:aF rows xs) (ys:Lz):aF (rows++tr ys) (xs++ys):=by
 unfold aF at h⊢
 rw[h]
 unfold tr
 simp
theorem aF.replicate (n:Nat) (e:List T):aF (List.replicate n (e.map .t)) (List.replicate n e):=by
 unfold aF tr
 simp
theorem aF.nil:aF [] []:=rfl
theorem aF.len {rows:List (List C)} {xs:Lz} (h:aF rows xs):rows.length=xs.length:=by
 rw[h];simp[tr]
theorem cj {Pd:List T→Prop} {rows:List (List C)} {xs:Lz} {i:Nat} {K:List C→Prop} (h:aF rows xs) (hx: ∀e,e∈xs→Pd e) (hi:i < xs.length) (hk: ∀e,Pd e→xs[i]? =some e→K (e.map .t)):sJ rows i K:=by
 have e1:xs[i]? =some xs[i]:=by simp[hi]
 have:rows[i]? =some (xs[i].map .t):=by rw[h];simp[tr,hi]
 simp only[sJ,this]
 exact hk _ (hx _ (List.getElem_mem hi)) e1
theorem qQ {hp:HS} {d:Nat}: ∀ (xs:Lz),bK (bK (cV d hp)) (tr xs)=some xs
 | []=>rfl
 |e::xs=>by
  have hone: ∀e:List T,bK (cV d hp) (e.map .t)=some e:=by
   intro e
   induction e with
   |nil=>rfl
   |cons x e ih=>
    have:cV d hp (.t x)=some x:=by cases d<;>rfl
    simp only[List.map_cons,bK,this,ih]
  have:=qQ (hp:=hp) (d:=d) xs
  unfold tr at this⊢
  simp only[List.map_cons,bK,hone,this]
theorem tP (xs:Lz) (i len:Nat):((tr xs).drop i).take len=tr ((xs.drop i).take len):=by
 unfold tr
 simp
theorem lE {hp:HS} {id sz i len:Nat} {rows:List (List C)} {xs:Lz} (hf:find hp id=some (.row sz rows)) (hR:aF rows xs) (hl:i+len≤xs.length):
 bM hp (.one (.own id sz i len))=some (.one (.t (.aA sz ((xs.drop i).take len)))):=by
 have hl':i+len≤rows.length:=by rw[hR.len];exact hl
 have:cV 6 hp (.own id sz i len)=some (.aA sz ((xs.drop i).take len)):=by
  simp only[cV,hf,true_and,hl',if_true]
  rw[hR,tP,qQ]
  rfl
 simp only[bM,this,Option.map_some]
def Rs (P:Program) (hp:HS) (tm:TS) (r:ResultVar) (u:W):Prop:= ∃a b,cv P hp tm r=some a∧bM hp a=some b∧zP b u
theorem bZ {hp:HS} {tm:TS} {t:Nat} {x:T} (h:find tm t=some (.w (.one (.t x)))):Rs P hp tm (.tmp t) (.one (.t x)):=
 ⟨.one (.t x), .one (.t x),by simp only[cv,h],rfl,zP.refl _⟩
theorem bS {hp:HS} {tm:TS} {t:Nat} (sz:Nat) (h:find tm t=some (.w (.one (.t iu)))):Rs P hp tm (.tmp t) (.one (.t (.aA sz []))):=
 ⟨.one (.t iu), .one (.t iu),by simp only[cv,h],rfl, .one (.nil sz)⟩
theorem fA {hp:HS} {tm:TS} {t id sz i len:Nat} {rows:List (List C)} {xs:Lz} (h:find tm t=some (.w (.one (.own id sz i len)))) (hf:find hp id=some (.row sz rows)) (hR:aF rows xs) (hl:i+len≤xs.length):Rs P hp tm (.tmp t) (.one (.t (.aA sz ((xs.drop i).take len)))):=
 ⟨.one (.own id sz i len),_,by simp only[cv,h],lE hf hR hl,zP.refl _⟩
theorem bI {tm:TS} {hp:HS} {b ty n:Nat} {c:C} {cs:List C} {j:Nat} {ts:List T} {ds:List C} (ha:iT P ty=some true) (hz:cN P ty=some n)
 (h:find tm b=some (.w (.one c))) (hd:deref hp c=some (cs,j)) (hl:j+n≤cs.length) (hts:bK (cV 6 hp) ((cs.drop j).take n)=some ts) (hle:cR (ts.map .t) ds):Rs P hp tm (.cell b ty) (.agg ds):=by
 refine⟨.agg ((cs.drop j).take n), .agg (ts.map .t),?_,?_, .agg hle⟩
 · simp only[cv,h,dX,hd,jt,ha,hz,if_pos hl,Option.map_some]
 · simp only[bM,hts,Option.map_some]
theorem nj {hp:HS} {tm:TS} {rs:List ResultVar} {r1:ResultVar} {u1:W} {Good:List W→Prop} (hr:rs=[r1]) (h1:Rs P hp tm r1 u1) (hg:Good [u1]):
 ∃us ts,aP P hp tm rs=some us∧bK (bM hp) us=some ts∧Wk Good ts:=by
 subst hr
 obtain⟨a,b,e1,e2,e3⟩:=h1
 exact⟨[a],[b],by simp only[aP,e1],by simp only[bK,e2],[u1], .cons e3 .nil,by simp[gj e2],hg⟩
theorem dz {hp:HS} {tm:TS} {rs:List ResultVar} {r1 r2:ResultVar} {u1 u2:W} {Good:List W→Prop} (hr:rs=[r1,r2]) (h1:Rs P hp tm r1 u1) (h2:Rs P hp tm r2 u2) (hg:Good [u1,u2]):
 ∃us ts,aP P hp tm rs=some us∧bK (bM hp) us=some ts∧Wk Good ts:=by
 subst hr
 obtain⟨a,b,e1,e2,e3⟩:=h1
 obtain⟨c,d,k1,k2,k3⟩:=h2
 exact⟨[a,c],[b,d],by simp only[aP,e1,k1],by simp only[bK,e2,k2],[u1,u2], .cons e3 (.cons k3 .nil),by simp[gj e2,gj k2],hg⟩
theorem EJ {hp:HS} {tm:TS} {rs:List ResultVar} {r1 r2 r3:ResultVar} {u1 u2 u3:W} {Good:List W→Prop} (hr:rs=[r1,r2,r3]) (h1:Rs P hp tm r1 u1) (h2:Rs P hp tm r2 u2) (h3:Rs P hp tm r3 u3) (hg:Good [u1,u2,u3]):
 ∃us ts,aP P hp tm rs=some us∧bK (bM hp) us=some ts∧Wk Good ts:=by
 subst hr
 obtain⟨a,b,e1,e2,e3⟩:=h1
 obtain⟨c,d,k1,k2,k3⟩:=h2
 obtain⟨c',d',j1,j2,j3⟩:=h3
 exact⟨[a,c,c'],[b,d,d'],by simp only[aP,e1,k1,j1],by simp only[bK,e2,k2,j2],[u1,u2,u3], .cons e3 (.cons k3 (.cons j3 .nil)),by simp[gj e2,gj k2,gj j2],hg⟩
def GN (sz:Nat) (p:Lz→Prop) (ts:List W) (hout:HS):Prop:= ∃xs,ts=[.one (.own 0 sz 0 xs.length)]∧hout=[(0, .row sz (tr xs))]∧p xs
theorem gN {hp:HS} {tm:TS} {rs:List ResultVar} {t id sz len:Nat} {rows:List (List C)} {xs:Lz} {p:Lz→Prop} (hr:rs=[.tmp t]) (h:find tm t=some (.w (.one (.own id sz 0 len)))) (hf:find hp id=some (.row sz rows)) (hR:aF rows xs) (hl:len=xs.length) (hg:p xs):
 ∃us ids,aP P hp tm rs=some us∧(ids.length≤4∧ids.Nodup)∧GN sz p (us.map (W.az (bB ids))) (cL (bB ids) hp 0 ids):=by
 subst hr
 subst hl
 refine⟨[.one (.own id sz 0 xs.length)],[id],by simp only[aP,cv,h],⟨by simp,by simp⟩,xs,?_,?_,hg⟩
 · simp[W.az,C.az,bB]
 · simp only[cL,hf,bD.az]
   rw[hR,eG]
theorem BH {f:FuncId} {us:List W} {hp:HS} {ctr sz:Nat} {K:V→HS→Prop} {p:Lz→Prop} (hT:tg us=true) (h: ∃ts hout,zQ P f us (aT ts) hout∧GN sz p ts hout)
 (hk: ∀xs,p xs→K (.w (.one (.own (0+ctr) sz 0 xs.length))) ((0+ctr, .row sz (tr xs))::hp)): ∃v aH,ej P hp ctr f us v aH∧K v aH:=by
 obtain⟨ts,hout,h1,xs,rfl,rfl,h2⟩:=h
 refine⟨_,_,Cw hT h1,?_⟩
 have:=hk xs h2
 simp only[aT,V.up,W.up,C.up,fB,bD.up,Nat.zero_lt_succ,if_true,Ke]at this⊢
 exact this
theorem Q4 {f:FuncId} {us:List W} {hp:HS} {ctr sz:Nat} {K:V→HS→Nat→Prop} {p:Lz→Prop} (hT:tg us=true) (h: ∃ts hout,zQ P f us (aT ts) hout∧GN sz p ts hout)
 (hk: ∀xs,p xs→K (.w (.one (.own (0+ctr) sz 0 xs.length))) ((0+ctr, .row sz (tr xs))::hp) (ctr+4)): ∃v aH c',eo P f us hp ctr v aH c'∧K v aH c':=by
 obtain⟨v,aH,h1,h2⟩:=BH (hp:=hp) (ctr:=ctr) (K:=fun v aH=>K v aH (ctr+4)) hT h hk
 exact⟨v,aH,ctr+4,lJ h1,h2⟩
theorem Od {hp:HS} {sz:Nat} {xs ys:Lz} (h:find hp 0=some (.row sz (tr ys))):kp [(0, .row sz (tr xs))] hp [(0, .row sz (tr ys))]:=by
 refine⟨fun k b hk=>?_,fun k blk hk=>?_⟩
 · simp only[find]at hk
   split at hk
   · rename_i e;subst e;exact⟨by omega,_,h⟩
   · simp at hk
 · simp only[find]at hk
   split at hk
   · rename_i e
     subst e
     simp only[Option.some.injEq]at hk
     subst hk
     refine⟨h,rfl,fun e he c hc=>?_⟩
     simp only[tr,List.mem_map]at he
     obtain⟨e',_,rfl⟩:=he
     simp only[List.mem_map]at hc
     obtain⟨c',_,rfl⟩:=hc
     rfl
   · simp at hk
theorem Fl {f:FuncId} {us args:List W} {hp:HS} {ctr id sz:Nat} {rows:List (List C)} {xs:Lz} {K:V→HS→Prop} {Good:List W→HS→Prop} (hsub:(us.flatMap W.ids).head? =some id) (hf:find hp id=some (.row sz rows)) (h: ∃ts hout,Fn P f args [(0, .row sz (tr xs))] (aT ts) hout∧hout=[(0, .row sz (tr xs))]∧Good ts hout)
 (ha:us.map (W.az (bB [id]))=args) (hR:aF rows xs)
 (hk: ∀ts,Good ts [(0, .row sz (tr xs))]→K ((aT ts).az (fun j=>[id][j]?)) hp): ∃v aH,ej P hp ctr f us v aH∧K v aH:=by
 obtain⟨ts,hout,h1,rfl,h2⟩:=h
 refine⟨_,_, .inr ⟨rfl,Cx [id] (by simp) (by simp) (fun i hi=>?_) h1 ha ?_ (fun i hi=>?_)⟩,hk ts h2⟩
 · simp only[List.mem_singleton]at hi
   subst hi
   exact List.mem_of_mem_head? (by rw[hsub];rfl)
 · simp only[cL,hf,bD.az]
   rw[hR,eG]
 · simp only[List.mem_singleton]at hi
   subst hi
   refine⟨_,hf,?_⟩
   simp only[bD.az]
   rw[hR,eG,eG]
theorem DR {f:FuncId} {us args:List W} {hp:HS} {ctr id sz:Nat} {rows:List (List C)} {xs:Lz} {K:V→HS→Nat→Prop} {Good:List W→HS→Prop} (hsub:(us.flatMap W.ids).head? =some id) (hf:find hp id=some (.row sz rows)) (h: ∃ts hout,Fn P f args [(0, .row sz (tr xs))] (aT ts) hout∧hout=[(0, .row sz (tr xs))]∧Good ts hout)
 (ha:us.map (W.az (bB [id]))=args) (hR:aF rows xs)
 (hk: ∀ts,Good ts [(0, .row sz (tr xs))]→K ((aT ts).az (fun j=>[id][j]?)) hp (ctr+4)): ∃v aH c',eo P f us hp ctr v aH c'∧K v aH c':=by
 obtain⟨v,aH,h1,h2⟩:=Fl (hp:=hp) (ctr:=ctr) (K:=fun v aH=>K v aH (ctr+4)) hsub hf h ha hR hk
 exact⟨v,aH,ctr+4,lJ h1,h2⟩
abbrev GRd (sz:Nat) (xs:Lz) (G:List W→Prop) (ts:List W) (hout:HS):Prop:=hout=[(0, .row sz (tr xs))]∧G ts
theorem B0 {hp:HS} {sz:Nat} {rows:List (List C)} {xs ys:Lz} (h:find hp 0=some (.row sz rows)) (hR:aF rows ys):kp [(0, .row sz (tr xs))] hp [(0, .row sz (tr ys))]:=Od (by rw[h,hR])
theorem Tn {hp:HS} {tm:TS} {rs:List ResultVar} {t sz i len:Nat} {rows:List (List C)} {xs:Lz} {G:List W→Prop} (hr:rs=[.tmp t]) (h:find tm t=some (.w (.one (.own 0 sz i len)))) (hf:find hp 0=some (.row sz rows)) (hR:aF rows xs) (hg:G [.one (.own 0 sz i len)]):
 ∃us ts hout,aP P hp tm rs=some us∧bK (yw [(0, .row sz (tr xs))] hp) us=some ts∧kp [(0, .row sz (tr xs))] hp hout∧GRd sz xs G ts hout:=by
 subst hr
 refine⟨[.one (.own 0 sz i len)],[.one (.own 0 sz i len)],_,by simp only[aP,cv,h],?_,B0 hf hR,rfl,hg⟩
 simp only[bK,yw,Sj,Gg,find,if_true,Option.isSome_some]
theorem aqG {hp:HS} {tm:TS} {rs:List ResultVar} {t id sz dj i len:Nat} {rows w6:List (List C)} {xs ys:Lz} {G:List W→Prop} (hr:rs=[.tmp t]) (h:find tm t=some (.w (.one (.own id dj i len)))) (bN:Nat.blt id 4=false) (Gz:find (pU hp) id=some (.row dj w6)) (hR2:aF w6 ys) (hl:i+len≤ys.length)
 (hf:find hp 0=some (.row sz rows)) (hR:aF rows xs) (hg:G [.one (.t (.aA dj ((ys.drop i).take len)))]):
 ∃us ts hout,aP P hp tm rs=some us∧bK (yw [(0, .row sz (tr xs))] hp) us=some ts∧kp [(0, .row sz (tr xs))] hp hout∧GRd sz xs G ts hout:=by
 subst hr
 have Jc:¬id < 4:=by
  intro hlt
  have:Nat.blt id 4=true:=by simpa using hlt
  rw[bN]at this
  simp at this
 refine⟨[.one (.own id dj i len)],_,_,by simp only[aP,cv,h],?_,B0 hf hR,rfl,hg⟩
 have hne:Sj [(0,bD.row sz (tr xs))] (.one (.own id dj i len))=false:=by
  have:¬ (0=id):=by omega
  simp only[Sj,Gg,find,this,if_false,Option.isSome_none]
 simp only[bK,yw,hne,Bool.false_eq_true,if_false,lE Gz hR2 hl]
def R9:List (Nat×Nat)→List (Lz)→HS
 |(id,sz)::L,xs::xss=>(id, .row sz (tr xs))::R9 L xss
 |_,_=>[]
inductive mZ:List (Nat×Nat)→HS→List (Lz)→Prop
 |nil:mZ [] [] []
 |cons {id sz:Nat} {L:List (Nat×Nat)} {rows:List (List C)} {xs:Lz} {hp:HS} {xss:List (Lz)} (h:aF rows xs) (t:mZ L hp xss):mZ ((id,sz)::L) ((id, .row sz rows)::hp) (xs::xss)
theorem mZ.eq {L:List (Nat×Nat)} {hp:HS} {xss:List (Lz)} (h:mZ L hp xss):hp=R9 L xss:=by
 induction h with
 |nil=>rfl
 |cons h _ ih=>simp only[R9];rw[h,ih]
theorem bH {n:Nat} {b:Rc} {Q:Exit→TS→HS→Nat→Prop} {tm:TS} {hp:HS} {ctr:Nat} (keys:List Nat) (nest:List (Nat×Nat)) (ks:List Nat) (L:List (Nat×Nat)) (R:Nat→List V→List (Lz)→Prop) (m0:Nat) (xY:List V) {ia:List (Lz)} {lc:TS} {oZ:HS} {cB:Nat}
 (hB:AQ (vM keys nest tm hp) fun S=>pO (S.tm tm) fun t=>qT (S.hp hp) fun q=>S.ok=true∧t=lc∧q=oZ∧S.ctr=cB)
 (DG:lc.length=keys.length) (h0:lc=j6 ks xY lc) (hH:mZ L oZ ia) (Jj:R m0 xY ia)
 (hstep: ∀m vs xss,R m vs xss→pO (j6 ks vs lc) fun ny=>qT (R9 L xss) fun hq=>X P n b (gZ (bQ fun bh aH c'=> ∃m' vs' xss',mZ L aH xss'∧R m' vs' xss'∧bh=j6 ks vs' lc∧c'=cB∧m' < m) Q) ny hq cB):
 ∃I:Nat→TS→HS→Nat→Prop,bQ (fun tm hp c=> ∃m,I m tm hp c) tm hp ctr∧
  ∀m tm hp c,I m tm hp c→X P n b (gZ (bQ fun tm hp c=> ∃m',m' < m∧I m' tm hp c) Q) tm hp c:=by
 rw[nn,fS,iD]at hB
 obtain⟨hS,e1,e2,e3⟩:=hB
 refine⟨fun m bh aH c'=> ∃vs' xss',mZ L aH xss'∧R m vs' xss'∧bh=j6 ks vs' lc∧c'=cB,bQ.mk' ⟨vM keys nest tm hp,hS,m0,xY,ia,by rw[e2];exact hH,Jj,e1.trans h0,e3⟩,?_⟩
 rintro m bh hq c' ⟨vs,xss,hH',hR,rfl,rfl⟩
 have:=hstep m vs xss hR
 rw[fS,iD, ←hH'.eq]at this
 refine(congrArg (fun J=>X P n b (gZ (bQ J) Q) _ _ _) ?_).mp this
 funext bh aH c''
 exact propext ⟨fun⟨m',vs',xss',h1,h2,h3,h4,h5⟩=>⟨m',h5,vs',xss',h1,h2,h3,h4⟩,fun⟨m',h5,vs',xss',h1,h2,h3,h4⟩=>⟨m',vs',xss',h1,h2,h3,h4,h5⟩⟩
theorem w4 (xs ys:Lz) (i:Nat):aZ (tr xs) i (tr ys)=tr (aZ xs i ys):=by
 unfold aZ tr
 simp
theorem yc (xs:Lz):(tr xs).length=xs.length:=by simp[tr]
theorem tu (xs:Lz) (n:Nat):(tr xs).take n=tr (xs.take n):=by simp[tr]
theorem Fo {n d s t1 t2 ty e id sz i len ctr:Nat} {tm:TS} {hp:HS} {c:C} {rows:List (List C)} {xs ys:Lz} {K:V→HS→Prop}
 (hd:find tm d=some (.w (.one (.own id sz i len)))) (hs:find tm s=some (.w (.one c))) (hn:isNil c=false) (he:elems hp c=some (sz,tr ys))
 (ht:P.underlying t1=some (.slice e)) (hz:cN P e=some sz) (hf:find hp id=some (.row sz rows)) (hR:aF rows xs) (hl:i+len≤xs.length)
 (hk:K (iV .i64 (((ys.take len).length:Nat):Int)) (jM hp id (.row sz (tr (aZ xs i (ys.take len)))))):
 ∃v aH,jD P n (.call ⟨.builtin .copy, #[.tmp d, .tmp s], #[t1,t2]⟩) ty tm hp ctr v aH∧K v aH:=by
 refine⟨_,_,?_,hk⟩
 rintro⟨dst',op',ty',pos',after',guard'⟩ rfl rfl
 have Ce:rows=tr xs:=hR
 subst Ce
 by_cases h0:(ys.take len).length=0
 · have dJ:aj P (St.get ⟨n,tm,hp⟩) hp ctr ⟨dst', .call ⟨.builtin .copy, #[.tmp d, .tmp s], #[t1,t2]⟩,ty',pos',after',guard'⟩=some (.w (.one (.t (.val (goInt 0)))),hp):=by
    simp only[aj,St.get,hd,hs,Option.getD_some,eA,ht,hz,hn,he,Bool.false_eq_true,if_false,tu,yc,h0,if_true]
   intro M A ρ a w hr
   obtain⟨x,w',A',ρ',g1,g2,g3⟩:=lH dJ M A ρ a w hr
   refine⟨x,w',A',ρ',g1,g2.forget rfl (fun _ _ h=>h) (fun k b hb=>?_),by rw[h0];exact g3⟩
   simp only[bU]at hb
   split at hb
   · rename_i ek
     subst ek
     rw[hf]at hb
     simp only[Option.map_some,Option.some.injEq]at hb
     rw[←hb,hf,List.eq_nil_of_length_eq_zero h0]
     simp[aZ]
   · exact hb
 · have dJ:aj P (St.get ⟨n,tm,hp⟩) hp ctr ⟨dst', .call ⟨.builtin .copy, #[.tmp d, .tmp s], #[t1,t2]⟩,ty',pos',after',guard'⟩=some (.w (.one (.t (.val (goInt ((ys.take len).length:Int))))),jM hp id (.row sz (tr (aZ xs i (ys.take len))))):=by
    have hl':True∧True∧True∧i+len≤xs.length:=⟨trivial,trivial,trivial,hl⟩
    simp only[aj,St.get,hd,hs,Option.getD_some,eA,ht,hz,hn,he,hf,Bool.false_eq_true,if_false,tu,yc,h0,w4]
    rw[if_pos hl']
   exact lH dJ
end Go.aU
end
section
namespace Go.aU.Cd
open Go
abbrev tU (n:Int):T:= .val (.int .u32 n)
def IsU (e:List T):Prop:= ∃n:Int,e=[tU n]∧0≤n∧n < 4294967296
abbrev Us (xs:Lz):Prop:= ∀e,e∈xs→IsU e
def lb:List T→Nat
 | [.val (.int _ n)]=>n.toNat
 |_=>0
def nv:Lz→Nat
 | []=>0
 |e::r=>lb e+4294967296 * nv r
theorem jV (n:Int):lb [tU n]=n.toNat:=rfl
theorem IsU.lt {e:List T} (h:IsU e):lb e < 4294967296:=by obtain⟨n,rfl,h0,h1⟩:=h;rw[jV];omega
theorem yI: ∀ (xs ys:Lz),nv (xs++ys)=nv xs+4294967296 ^ xs.length * nv ys
 | [],ys=>by simp[nv]
 |e::xs,ys=>by
  simp only[List.cons_append,nv,yI xs ys,List.length_cons,Nat.pow_succ]
  grind
theorem yG: ∀ {xs:Lz},(∀e,e∈xs→lb e=0)→nv xs=0
 | [],_=>rfl
 |e::xs,h=>by
  simp only[nv]
  rw[h e List.mem_cons_self,yG (fun q hq=>h q (List.mem_cons_of_mem _ hq))]
theorem uy (xs:Lz) (n:Nat):nv xs=nv (xs.take n)+4294967296 ^ (xs.take n).length * nv (xs.drop n):=by
 rw[←yI,List.take_append_drop]
theorem xp: ∀ {xs:Lz},Us xs→nv xs < 4294967296 ^ xs.length
 | [],_=>by simp[nv]
 |e::xs,h=>by
  have h1:=(h e List.mem_cons_self).lt
  have h2:=xp (xs:=xs) (fun q hq=>h q (List.mem_cons_of_mem _ hq))
  simp only[nv,List.length_cons,Nat.pow_succ]
  omega
theorem Us.take {xs:Lz} (h:Us xs) (n:Nat):Us (xs.take n):=fun e he=>h e (List.mem_of_mem_take he)
theorem Us.drop {xs:Lz} (h:Us xs) (n:Nat):Us (xs.drop n):=fun e he=>h e (List.mem_of_mem_drop he)
theorem Us.cut {xs:Lz} (h:Us xs) (a b:Nat):Us ((xs.drop a).take b):=(h.drop a).take b
theorem Us.set {xs:Lz} (h:Us xs) {i:Nat} {n:Int} (h0:0≤n) (hn:n < 4294967296):Us (xs.set i [tU n]):=by
 intro e he
 rcases List.mem_or_eq_of_mem_set he with he|rfl
 · exact h e he
 · exact⟨n,rfl,h0,hn⟩
theorem Us.snoc {xs:Lz} (h:Us xs) {n:Int} (h0:0≤n) (hn:n < 4294967296):Us (xs++[[tU n]]):=by
 intro e he
 simp only[List.mem_append,List.mem_singleton]at he
 rcases he with he|rfl
 · exact h e he
 · exact⟨n,rfl,h0,hn⟩
theorem Us.replicate (k:Nat):Us (List.replicate k [tU (0:Int)]):=by
 intro e he
 obtain⟨_,rfl⟩:=List.mem_replicate.1 he
 exact⟨0,rfl,by omega,by omega⟩
theorem Us.nil:Us []:=fun e he=>by simp at he
theorem yH (k:Nat):nv (List.replicate k [tU (0:Int)])=0:=by
 apply yG
 intro e he
 obtain⟨_,rfl⟩:=List.mem_replicate.1 he
 rfl
def Bm (xs ys:Lz):Prop:=ys.length≤xs.length∧Us ys∧nv ys=nv xs∧(∀e,ys.getLast? =some e→lb e≠0)∧ ∃k,ys=xs.take k
theorem zV {xs:Lz} {n:Nat} (hx:Us xs) (hn:n≤xs.length) (hz: ∀e,e∈xs.drop n→lb e=0) (hl:n=0∨ ∃e,xs[n - 1]? =some e∧lb e≠0):Bm xs (xs.take n):=by
 refine⟨by simp;omega,hx.take n,?_,?_,n,rfl⟩
 · rw[uy xs n,yG hz];simp
 · intro e he
   rcases hl with rfl|⟨e',h1,h2⟩
   · simp at he
   · have:(xs.take n).getLast? =xs[n - 1]? :=by
      rw[List.getLast?_eq_getElem?,List.getElem?_take]
      have h0:0 < n:=by
       rcases Nat.eq_zero_or_pos n with h|h
       · subst h;simp at he
       · exact h
      rw[if_pos (by simp;omega)]
      congr 1
      simp;omega
     rw[this,h1]at he
     simp only[Option.some.injEq]at he
     subst he
     exact h2
theorem drop_zero {xs:Lz} {n:Nat} {e:List T} (h:xs[n]? =some e) (he:lb e=0) (hz: ∀e,e∈xs.drop (n+1)→lb e=0): ∀e,e∈xs.drop n→lb e=0:=by
 obtain⟨hlt,rfl⟩:=List.getElem?_eq_some_iff.1 h
 intro q hq
 rw[List.drop_eq_getElem_cons hlt]at hq
 rcases List.mem_cons.1 hq with rfl|hq
 · exact he
 · exact hz q hq
theorem Aj: ∀ {xs:Lz},(∀e,xs.getLast? =some e→lb e≠0)→xs≠ []→4294967296 ^ (xs.length - 1)≤nv xs
 | [],_,h=>absurd rfl h
 | [e],h,_=>by
   have:=h e rfl
   simp only[nv,List.length_singleton,Nat.sub_self,Nat.pow_zero]
   omega
 |e::e'::r,h,_=>by
  have ih:=Aj (xs:=e'::r) (fun q hq=>h q (by simpa using hq)) (by simp)
  simp only[nv,List.length_cons]at ih⊢
  have e1:r.length+1+1 - 1=(r.length+1 - 1)+1:=by omega
  rw[e1,Nat.pow_succ]
  omega
theorem kX (n:Int):IntKind.u32.wrap n=n % 4294967296:=by simp[IntKind.wrap,IntKind.bits,IntKind.signed]
theorem qo (n:Int):IntKind.u64.wrap n=n % 18446744073709551616:=by simp[IntKind.wrap,IntKind.bits,IntKind.signed]
theorem dZ (n:Int):0≤IntKind.u32.wrap n:=by rw[kX];omega
theorem eX (n:Int):IntKind.u32.wrap n < 4294967296:=by rw[kX];omega
theorem u64_in {n:Int} (h0:0≤n) (h1:n < 18446744073709551616):IntKind.u64.wrap n=n:=by rw[qo];omega
theorem u32_in {n:Int} (h0:0≤n) (h1:n < 4294967296):IntKind.u32.wrap n=n:=by rw[kX];omega
theorem qz (a:Int) (k:Nat) (hk:k≤64):a.fdiv (2 ^ (min ((k:Int)).toNat IntKind.u64.bits))=a / ((2 ^ k:Nat):Int):=by
 have:min ((k:Int)).toNat IntKind.u64.bits=k:=by simp only[IntKind.bits,Int.toNat_natCast];omega
 rw[this,Int.fdiv_eq_ediv_of_nonneg]
 · simp
 · exact Int.pow_nonneg (by omega)
theorem C2 (a:Int):a.fdiv (2 ^ (min (32:Int).toNat IntKind.u64.bits))=a / 4294967296:=qz a 32 (by omega)
theorem Rr (a:Int):a.fdiv (2 ^ (min (63:Int).toNat IntKind.u64.bits))=a / 9223372036854775808:=qz a 63 (by omega)
theorem FF (a:Int) (k:Nat) (hk:k≤64):IntKind.u64.wrap (a * 2 ^ (min ((k:Int)).toNat IntKind.u64.bits))=(a * ((2 ^ k:Nat):Int)) % 18446744073709551616:=by
 have:min ((k:Int)).toNat IntKind.u64.bits=k:=by simp only[IntKind.bits,Int.toNat_natCast];omega
 rw[this,qo]
 simp
theorem FG (a:Int):IntKind.u64.wrap (a * 2 ^ (min (32:Int).toNat IntKind.u64.bits))=(a * 4294967296) % 18446744073709551616:=FF a 32 (by omega)
theorem FX {a b:Nat} (k:Nat) (ha:a < 2 ^ k):a|||(b * 2 ^ k)=a+b * 2 ^ k:=by
 have h:=Nat.two_pow_add_eq_or_of_lt ha b
 rw[Nat.mul_comm,Nat.or_comm, ←h,Nat.add_comm]
theorem NX {a b:Int} (ha0:0≤a) (ha:a < 4294967296) (hb0:0≤b) (hb:b < 4294967296):
 IntKind.u64.wrap ((BitVec.ofInt IntKind.u64.bits (b * 4294967296)|||BitVec.ofInt IntKind.u64.bits a).toNat:Int)=b * 4294967296+a:=by
 have e: ∀x:Int,0≤x→x < 18446744073709551616→(BitVec.ofInt IntKind.u64.bits x).toNat=x.toNat:=by
  intro x h0 h1
  simp only[BitVec.toNat_ofInt,IntKind.bits]
  congr 1
  omega
 rw[BitVec.toNat_or,e _ (by omega) (by omega),e _ (by omega) (by omega),Nat.or_comm]
 have:=FX (a:=a.toNat) (b:=b.toNat) 32 (by omega)
 rw[show(b * 4294967296).toNat=b.toNat * 2 ^ 32 by omega,this,u64_in (by omega) (by omega)]
 omega
def Nm (k:Nat) (ys:Lz):Prop:=ys.length≤k∧Us ys∧(∀e,ys.getLast? =some e→lb e≠0)
theorem Bm.nm {xs ys:Lz} {k:Nat} (h:Bm xs ys) (hk:xs.length≤k):Nm k ys:=⟨by have:=h.1;omega,h.2.1,h.2.2.2.1⟩
theorem zu {aZ_ bs:Lz} (ha:Us aZ_) (hb: ∀e,bs.getLast? =some e→lb e≠0) (h:aZ_.length < bs.length):nv aZ_ < nv bs:=by
 have h1:=xp ha
 have h2:=Aj hb (by intro e;subst e;simp at h)
 have h3:4294967296 ^ aZ_.length≤4294967296 ^ (bs.length - 1):=Nat.pow_le_pow_right (by omega) (by omega)
 omega
theorem Ak {xs:Lz} {k:Nat} {x:Int} (h:xs[k]? =some [tU x]):nv xs=nv (xs.take k)+4294967296 ^ k * (x.toNat+4294967296 * nv (xs.drop (k+1))):=by
 obtain⟨hlt,he⟩:=List.getElem?_eq_some_iff.1 h
 rw[uy xs k,List.drop_eq_getElem_cons hlt,he]
 simp only[nv,jV,List.length_take]
 rw[Nat.min_eq_left (by omega)]
theorem Hp {aZ_ bs:Lz} {k:Nat} {x y:Int} (ha:Us aZ_) (hd:aZ_.drop (k+1)=bs.drop (k+1)) (h1:aZ_[k]? =some [tU x]) (h2:bs[k]? =some [tU y]) (h0:0≤x) (h:x < y):nv aZ_ < nv bs:=by
 rw[Ak h1,Ak h2,hd]
 have hlt:=xp (ha.take k)
 have hk:(aZ_.take k).length=k:=by
  have:=(List.getElem?_eq_some_iff.1 h1).1
  simp;omega
 rw[hk]at hlt
 have:4294967296 ^ k * (x.toNat+1+4294967296 * nv (bs.drop (k+1)))≤4294967296 ^ k * (y.toNat+4294967296 * nv (bs.drop (k+1))):=Nat.mul_le_mul_left _ (by omega)
 rw[show x.toNat+1+4294967296 * nv (bs.drop (k+1))=(x.toNat+4294967296 * nv (bs.drop (k+1)))+1 by omega,Nat.mul_add]at this
 omega
theorem E0 {aZ_ bs:Lz} {k:Nat} {x:Int} (hd:aZ_.drop (k+1)=bs.drop (k+1)) (h1:aZ_[k]? =some [tU x]) (h2:bs[k]? =some [tU x]):aZ_.drop k=bs.drop k:=by
 obtain⟨g1,e1⟩:=List.getElem?_eq_some_iff.1 h1
 obtain⟨g2,e2⟩:=List.getElem?_eq_some_iff.1 h2
 rw[List.drop_eq_getElem_cons g1,List.drop_eq_getElem_cons g2,e1,e2,hd]
def E6 (n:Int) (a b:Nat):Prop:=(n < 0↔a < b)∧(n=0↔a=b)
end Go.aU.Cd
end
section
namespace Go.aU.Cd
open Go Go.Proofs
set_option maxRecDepth 100000
def Y3:Rc:=Sq (Rg [Mn 2]) (Sq (Rg [Mv 4 0,Le 5 4,Mv 3 5]) (Sq (Bk 0 (Lp (Sq (Sq (Rg [Mv 6 3,Bi 7 .gtr 6 0,Mv 8 7,Gb 8 (Mv 9 0),Gb 8 (Mv 10 3),Gb 8 (Bi 11 .sub 10 1),Gb 8 (Ia 12 1 9 11),Gb 8 (Ld 13 12),Gb 8 (p 14 (.bin .eql (t 13) (.c (.w (.one (.t (.val (.int .u32 0)))))))),Pf 15 8 14]) (Cn 15 Sk (Ex 0))) (Bk 1 (Rg [Mv 16 3,Bi 17 .sub 16 1,Mv 3 17]))))) (Sq (Rg [Mv 18 0,Mv 19 3,p 20 (.slice 1 (t 18) none (some (t 19))),Mv 2 20]) Rt)))
theorem ME:ae Tryz.prog (Tryz.f239.body.getD .skip)=some Y3:=by kernel_rfl
theorem MQ:Tryz.f239.body=some (Tryz.f239.body.getD .skip):=rfl
def Zh:Rc:=Sq (Rg [Mn 2]) (Sq (Rg [Mv 3 0,p 4 (.conv .u32 (t 3)),Mv 5 0,p 6 (.bin .shr (t 5) (.c (.w (.one (.t (.val (.int .u64 32))))))),p 7 (.conv .u32 (t 6)),p 8 (.bc [.t (.val (.int .u32 0))] 2 [(0,t 4),(1,t 7)]),p 9 (.call 239 [t 8]),Mv 2 9]) Rt)
theorem Xk:ae Tryz.prog (Tryz.f221.body.getD .skip)=some Zh:=by kernel_rfl
theorem acO:Tryz.f221.body=some (Tryz.f221.body.getD .skip):=rfl
def YZ:Rc:=Sq (Rg [Mn 2]) (Sq (Rg [Mv 4 0,p 5 (.call 239 [t 4]),Mv 0 5]) (Sq (Rg [Mv 6 0,Le 7 6,p 8 (.make [.t (.val (.int .u32 0))] 4 (t 7) (t 7)),Mv 3 8]) (Sq (Rg [Mv 9 3,Mv 10 0,p 11 (.raw (.call ⟨.builtin .copy,#[(.tmp 9),(.tmp 10)],#[276,276]⟩) 3)]) (Sq (Rg [Mv 12 3,Mv 2 12]) Rt))))
theorem WY:ae Tryz.prog (Tryz.f241.body.getD .skip)=some YZ:=by kernel_rfl
theorem abW:Tryz.f241.body=some (Tryz.f241.body.getD .skip):=rfl
def YS:Rc:=Sq (Rg [Mb 2 false]) (Sq (Rg [Mv 3 0,Mv 4 0,Bt 5 .neq 3 4,Mv 2 5]) Rt)
theorem WR:ae Tryz.prog (Tryz.f248.body.getD .skip)=some YS:=by kernel_rfl
theorem abP:Tryz.f248.body=some (Tryz.f248.body.getD .skip):=rfl
def Y2:Rc:=Sq (Rg [Mk 4 0]) (Sq (Rg [Mv 7 0,p 8 (.call 248 [t 7]),Mv 5 8]) (Sq (Rg [Mv 9 1,p 10 (.call 248 [t 9]),Mv 6 10]) (Sq (Sq (Rg [Mv 11 5]) (Cn 11 (Sq (Sq (Rg [Mv 12 6]) (Cn 12 (Sq (Rg [Mk 4 0]) Rt) Sk)) (Sq (Rg [p 4 (.kF (k (-1)))]) Rt)) Sk)) (Sq (Sq (Rg [Mv 13 6]) (Cn 13 (Sq (Rg [Mk 4 1]) Rt) Sk)) (Sq (Sq (Rg [Mv 14 0,Mv 15 1,Bt 16 .lss 14 15]) (Cn 16 (Sq (Rg [p 4 (.kF (k (-1)))]) Rt) Sk)) (Sq (Sq (Rg [Mv 17 0,Mv 18 1,Bt 19 .gtr 17 18]) (Cn 19 (Sq (Rg [Mk 4 1]) Rt) Sk)) (Sq (Rg [Mk 4 0]) Rt)))))))
theorem WZ:ae Tryz.prog (Tryz.f240.body.getD .skip)=some Y2:=by kernel_rfl
theorem abX:Tryz.f240.body=some (Tryz.f240.body.getD .skip):=rfl
def Zf:Rc:=Sq (Rg [Mk 4 0]) (Sq (Rg [Mv 8 0,p 9 (.call 239 [t 8]),Mv 10 1,p 11 (.call 239 [t 10]),Mv 0 9,Mv 1 11]) (Sq (Sq (Rg [Mv 12 0,Le 13 12,Mv 14 1,Le 15 14,p 16 (.call 65 [t 13,t 15]),Mv 5 16]) (Sq (Rg [Mv 17 5,Bi 18 .neq 17 0]) (Cn 18 (Sq (Rg [Mv 19 5,Mv 4 19]) Rt) Sk))) (Sq (Sq (Rg [Mv 20 0,Le 21 20,Bi 22 .sub 21 1,Mv 6 22]) (Bk 0 (Lp (Sq (Sq (Rg [Mv 23 6,Bi 24 .geq 23 0]) (Cn 24 Sk (Ex 0))) (Sq (Bk 1 (Sq (Dr [Mv 27 0,Mv 28 6,Ia 29 1 27 28,Ld 30 29,Mv 31 1,Mv 32 6,Ia 33 1 31 32,Ld 34 33,p 35 (.call 240 [t 30,t 34]),Mv 7 35] [[],[],[0,1],[2],[],[],[4,5],[6],[3,7],[8,8,0,1,2,3,4,5,6,7,8]]) (Sq (Rg [Mv 36 7,Bi 37 .neq 36 0]) (Cn 37 (Sq (Rg [Mv 38 7,Mv 4 38]) Rt) Sk)))) (Rg [Mv 25 6,Bi 26 .sub 25 1,Mv 6 26])))))) (Sq (Rg [Mk 4 0]) Rt))))
theorem Xi:ae Tryz.prog (Tryz.f223.body.getD .skip)=some Zf:=by kernel_rfl
theorem acM:Tryz.f223.body=some (Tryz.f223.body.getD .skip):=rfl
def xS (xs:Lz) (m:Nat) (vs:List V):Prop:= ∃n:Nat,n≤xs.length∧(∀e,e∈xs.drop n→lb e=0)∧m=n∧vs=[iV .i64 (n:Int)]
theorem xS.next {xs:Lz} {n:Nat} {a:Int} (hn:n≤xs.length) (h0:(n:Int) > 0) (hz: ∀e,e∈xs.drop n→lb e=0) (hs:xs[(IntKind.i64.wrap ((n:Int) - 1)).toNat]? =some [tU a]) (ha:a=0) (hl:xs.length≤1000000):
 xS xs (n - 1) [iV .i64 (IntKind.i64.wrap ((n:Int) - 1))]:=by
 have e1:IntKind.i64.wrap ((n:Int) - 1)=((n - 1:Nat):Int):=by rw[aa (by omega) (by omega)];omega
 rw[e1]at hs
 refine⟨n - 1,by omega,?_,rfl,by rw[e1]⟩
 refine drop_zero hs ?_ ?_
 · subst ha
   rfl
 · rw[show n - 1+1=n by omega]
   exact hz
theorem wZ {xs:Lz} {n:Nat} (hx:Us xs) (hn:n≤xs.length) (hz: ∀e,e∈xs.drop n→lb e=0) (h:¬ (n:Int) > 0):Bm xs ((xs.drop 0).take ((n:Int).toNat - 0)):=by
 have:=zV hx hn hz (.inl (by omega))
 simpa using this
theorem wY {xs:Lz} {n:Nat} {a:Int} (hx:Us xs) (hn:n≤xs.length) (hz: ∀e,e∈xs.drop n→lb e=0) (h:(n:Int) > 0) (hs:xs[(IntKind.i64.wrap ((n:Int) - 1)).toNat]? =some [tU a]) (h0:0≤a) (ha:a≠0) (hl:xs.length≤1000000):Bm xs ((xs.drop 0).take ((n:Int).toNat - 0)):=by
 have e1:IntKind.i64.wrap ((n:Int) - 1)=((n - 1:Nat):Int):=by rw[aa (by omega) (by omega)];omega
 rw[e1]at hs
 have:=zV hx hn hz (.inr ⟨_,hs,by rw[jV];omega⟩)
 simpa using this
theorem cK (xs:Lz) (hx:Us xs) (hl:xs.length≤1000000):Tg 239 [oL 1 xs] (GL 1 (Bm xs)):=by
 refine ah (n:=21) (rs:=[.tmp 2]) Tryz.func239 MQ ME rfl rfl (by simp) ?_
 repeat' (conv=>whnf
          first
  |(refine aD (fun h=>?_) (fun h=>?_))
  |(refine fT (Nat.zero_le _) (by omega) ?_)
  |(refine aC hx (by first|omega|exact cF (by first|omega|(simp (disch:=omega) only[aa];omega))|(simp (disch:=omega) only[aa];omega)) (by first|omega|exact cA (by omega)|(simp (disch:=omega) only[aa];omega)) ?_;rintro _ ⟨a,rfl,ha0,ha1⟩ hs)
  |(refine And.intro (by omega) ?_)
  |(first|exact gLt rfl rfl (wZ hx hn hz (by omega))|exact gLt rfl rfl (wY hx hn hz (by omega) hs ha0 (by omega) hl))
  |(apply aO [0,3] [] [3] (xS xs) (xs.length) [iV .i64 (xs.length:Int)];(conv=>whnf);exact⟨rfl,rfl,rfl,rfl⟩;exact rfl;exact rfl;exact⟨xs.length,by omega,by simp,rfl,rfl⟩;rintro _ _ ⟨n,hn,hz,rfl,rfl⟩)
  |(refine au [0,3] [] ?_;(conv=>whnf);exact⟨rfl,_,[_],xS.next hn (by omega) hz hs (by omega) hl,rfl,rfl,rfl,by omega⟩))
 all_goals (conv=>whnf)
def agQ (xs:Lz) (ts:List W):Prop:= ∃k,ts=[.one (.own 0 1 0 k)]∧k≤xs.length∧Bm xs (xs.take k)
theorem QZ (n:Nat):0+n=n:=Nat.zero_add n
theorem dN (xs:Lz) (hx:Us xs) (hl:xs.length≤1000000): ∃ts hout,Fn Tryz.prog 239 [.one (.own 0 1 0 xs.length)] [(0, .row 1 (tr xs))] (aT ts) hout∧GRd 1 xs (agQ xs) ts hout:=by
 refine gP (n:=21) (rs:=[.tmp 2]) Tryz.func239 MQ ME rfl rfl (by simp) ?_
 repeat' (conv=>whnf
          first
  |(refine aD (fun h=>?_) (fun h=>?_))
  |(refine og (Nat.zero_le _) (by omega) (.inr rfl) ?_)
  |(refine And.intro ⟨by(simp (disch:=omega) only[aa];omega),by(simp (disch:=omega) only[aa];omega)⟩ ?_)
  |(refine And.intro (by omega) ?_)
  |(refine cj (xs:=xs) rfl hx (by(simp (disch:=omega) only[aa];omega)) ?_;rintro _ ⟨a,rfl,ha0,ha1⟩ hs)
  |(first|exact Tn rfl rfl rfl rfl ⟨_,rfl,by omega,by have:=wZ hx hn hz (by omega);simpa using this⟩|exact Tn rfl rfl rfl rfl ⟨_,rfl,by omega,by have:=wY hx hn hz (by omega) (by rw[QZ]at hs;exact hs) ha0 (by omega) hl;simpa using this⟩)
  |(apply bH [0,3] [] [3] [(0,1)] (fun m vs xss=>xS xs m vs∧xss=[xs]) (xs.length) [iV .i64 (xs.length:Int)];(conv=>whnf);exact⟨rfl,rfl,rfl,rfl⟩;exact rfl;exact rfl;exact .cons (aF.az rfl _) .nil;exact⟨⟨xs.length,by omega,by simp,rfl,rfl⟩,rfl⟩;rintro _ _ _ ⟨⟨n,hn,hz,rfl,rfl⟩,rfl⟩)
  |(refine au [0,3] [] ?_;(conv=>whnf);exact⟨rfl,_,[_],_, .cons (aF.az rfl _) .nil,⟨xS.next hn (by omega) hz (by rw[QZ]at hs;exact hs) (by omega) hl,rfl⟩,rfl,rfl,by omega⟩))
 all_goals (conv=>whnf)
theorem mm {a b:Int}:Us [[tU (IntKind.u32.wrap a)],[tU (IntKind.u32.wrap b)]]:=by
 intro e he
 simp only[List.mem_cons,List.not_mem_nil,or_false]at he
 rcases he with rfl|rfl
 · exact⟨_,rfl,dZ _,eX _⟩
 · exact⟨_,rfl,dZ _,eX _⟩
theorem NZ {n:Int} (h0:0≤n) (h1:n < 18446744073709551616):nv [[tU (IntKind.u32.wrap n)],[tU (IntKind.u32.wrap (n.fdiv (2 ^ (min (32:Int).toNat IntKind.u64.bits))))]]=n.toNat:=by
 simp only[nv,jV,C2,kX]
 omega
theorem oJ (n:Int) (h0:0≤n) (h1:n < 18446744073709551616):Tg 221 [oU n] (GL 1 (fun ys=>Nm 2 ys∧nv ys=n.toNat)):=by
 refine aL ?_
 refine ah (n:=10) (rs:=[.tmp 2]) Tryz.func221 acO Xk rfl rfl (by simp) ?_
 repeat' (conv=>whnf
          first
  |(refine And.intro (by omega) ?_)
  |(refine DR rfl rfl (dN [[tU (IntKind.u32.wrap n)],[tU (IntKind.u32.wrap (n.fdiv (2 ^ (min (32:Int).toNat IntKind.u64.bits))))]] mm (by simp)) rfl rfl ?_;rintro _ ⟨k,rfl,hk,hT⟩)
  |exact nj rfl (fA rfl rfl (xs:=[[_],[_]]) rfl (by simp at hk⊢;omega)) ⟨_,rfl,by simpa using hT.nm (by simp),by simpa using hT.2.2.1.trans (NZ h0 h1)⟩)
 all_goals (conv=>whnf)
theorem Q8:Tryz.prog.underlying 276=some (.slice 238):=by kernel_rfl
theorem Rl:cN Tryz.prog 238=some 1:=by kernel_rfl
abbrev Ee (n:Int):W:= .one (.t (tU n))
theorem jb (xs:Lz) (hx:Us xs) (hl:xs.length≤1000000):Tg 241 [oL 1 xs] (GL 1 (fun ys=>Nm xs.length ys∧nv ys=nv xs)):=by
 refine aL ?_
 refine ah (n:=13) (rs:=[.tmp 2]) Tryz.func241 abW WY rfl rfl (by simp) ?_
 repeat' (conv=>whnf
          first
  |(refine And.intro ⟨by omega,by omega,by have:=hT.1;omega,by have:=hT.1;omega⟩ ?_)
  |(refine ai rfl (cK xs hx hl) ?_;rintro _ ⟨ys,rfl,hT⟩)
  |(refine Fo (ys:=ys) rfl rfl rfl rfl Q8 Rl rfl (aF.replicate _ [tU 0]) (by simp) ?_)
  |exact nj rfl (fA rfl rfl rfl (by simp[aZ])) ⟨_,rfl,by have h:=hT.nm (Nat.le_refl _);simpa[aZ]using h,by have h:=hT.2.2.1;simpa[aZ]using h⟩)
 all_goals (conv=>whnf)
theorem I4 (n:Int):Tg 248 [Ee n] (J3 False):=by
 refine ah (n:=6) (rs:=[.tmp 2]) Tryz.func248 abP WR rfl rfl (by simp) ?_
 repeat' (conv=>whnf
          first
  |(refine KH rfl rfl ?_;simp))
 all_goals (conv=>whnf)
theorem E8 (a b:Int):Tg 240 [Ee a,Ee b] (nN (fun n=>(n < 0↔a < b)∧(n=0↔a=b))):=by
 refine ah (n:=20) (rs:=[.tmp 4]) Tryz.func240 abX WZ rfl rfl (by simp) ?_
 repeat' (conv=>whnf
          first
  |(refine aD (fun h=>?_) (fun h=>?_))
  |(refine aI (fun h=>?_) (fun h=>?_))
  |(refine ai rfl (I4 _) ?_;rintro _ ⟨c,rfl,hc⟩)
  |(first|(refine iP rfl rfl ?_;omega)|(exfalso;simp_all;done)))
 all_goals (conv=>whnf)
theorem Gd (n:Int):Tg 88 [oI n] (J3 False):=by
 refine ah (n:=6) (rs:=[.tmp 2]) Tryz.func88 abF WG rfl rfl (by simp) ?_
 repeat' (conv=>whnf
          first
  |(refine KH rfl rfl ?_;simp))
 all_goals (conv=>whnf)
theorem HL (a b:Int):Tg 65 [oI a,oI b] (nN (fun n=>(n < 0↔a < b)∧(n=0↔a=b))):=by
 refine ah (n:=20) (rs:=[.tmp 4]) Tryz.func65 PA O9 rfl rfl (by simp) ?_
 repeat' (conv=>whnf
          first
  |(refine aD (fun h=>?_) (fun h=>?_))
  |(refine aI (fun h=>?_) (fun h=>?_))
  |(refine ai rfl (Gd _) ?_;rintro _ ⟨c,rfl,hc⟩)
  |(first|(refine iP rfl rfl ?_;omega)|(exfalso;simp_all;done)))
 all_goals (conv=>whnf)
def JP (ps qs:Lz) (m:Nat) (vs:List V):Prop:= ∃k:Nat,k≤ps.length∧ps.drop k=qs.drop k∧m=k∧vs=[iV .i64 ((k:Int) - 1)]
theorem JP.next {ps qs:Lz} {k:Nat} {x y:Int} (hk:k≤ps.length) (hl:ps.length≤1000000) (h0:(k:Int) - 1≥0) (hd:ps.drop k=qs.drop k) (h1:ps[((k:Int) - 1).toNat]? =some [tU x]) (h2:qs[((k:Int) - 1).toNat]? =some [tU y]) (he:x=y):
 JP ps qs (k - 1) [iV .i64 (IntKind.i64.wrap ((k:Int) - 1 - 1))]:=by
 subst he
 have e1:((k:Int) - 1).toNat=k - 1:=by omega
 rw[e1]at h1 h2
 have e2:IntKind.i64.wrap ((k:Int) - 1 - 1)=((k - 1:Nat):Int) - 1:=by rw[aa (by omega) (by omega)];omega
 exact⟨k - 1,by omega,E0 (by rw[show k - 1+1=k by omega];exact hd) h1 h2,rfl,by rw[e2]⟩
theorem Jy {ps qs:Lz} {k:Nat} {x y n:Int} (ha:Us ps) (hb:Us qs) (h0:(k:Int) - 1≥0) (hd:ps.drop k=qs.drop k) (h1:ps[((k:Int) - 1).toNat]? =some [tU x]) (h2:qs[((k:Int) - 1).toNat]? =some [tU y]) (hx:0≤x) (hy:0≤y)
 (hn:n≠0) (hc:(n < 0↔x < y)∧(n=0↔x=y)):E6 n (nv ps) (nv qs):=by
 have e1:((k:Int) - 1).toNat=k - 1:=by omega
 have e2:k - 1+1=k:=by omega
 rw[e1]at h1 h2
 rcases Int.lt_trichotomy x y with h|h|h
 · have:=Hp ha (by rw[e2];exact hd) h1 h2 hx h
   exact⟨by omega,by omega⟩
 · omega
 · have:=Hp hb (by rw[e2];exact hd.symm) h2 h1 hy h
   exact⟨by omega,by omega⟩
theorem Ho {ps qs:Lz} {n:Int} (ha:Us ps) (hb:Us qs) (ha2: ∀e,ps.getLast? =some e→lb e≠0) (kU: ∀e,qs.getLast? =some e→lb e≠0) (hn:n≠0) (hc:(n < 0↔(ps.length:Int) < (qs.length:Int))∧(n=0↔(ps.length:Int)=(qs.length:Int))):E6 n (nv ps) (nv qs):=by
 rcases Nat.lt_trichotomy ps.length qs.length with h|h|h
 · have:=zu ha kU h
   exact⟨by omega,by omega⟩
 · omega
 · have:=zu hb ha2 h
   exact⟨by omega,by omega⟩
theorem Hl {ps qs:Lz} {k:Nat} (hd:ps.drop k=qs.drop k) (hk:¬ ((k:Int) - 1≥0)):E6 0 (nv ps) (nv qs):=by
 have:k=0:=by omega
 subst this
 simp only[List.drop_zero]at hd
 rw[hd]
 exact⟨by omega,by omega⟩
theorem iH (xs ys:Lz) (hx:Us xs) (hy:Us ys) (hl:xs.length≤1000000) (hm:ys.length≤1000000):Tg 223 [oL 1 xs,oL 1 ys] (nN (fun n=>E6 n (nv xs) (nv ys))):=by
 refine ah (n:=39) (rs:=[.tmp 4]) Tryz.func223 acM Xi rfl rfl (by simp) ?_
 repeat' (conv=>whnf
          first
  |(refine aD (fun h=>?_) (fun h=>?_))
  |(refine bY (fun h=>?_) (fun h=>?_))
  |(refine aC ua (by omega) (by omega) ?_;rintro _ ⟨x,rfl,hx0,qL⟩ hs1)
  |(refine aC ub (by omega) (by omega) ?_;rintro _ ⟨y,rfl,hy0,qK⟩ cg)
  |(refine And.intro (by kernel_rfl) ?_)
  |(refine ai rfl (cK xs hx hl) ?_;rintro _ ⟨ps,rfl,⟨la,ua,va,ta,_⟩⟩)
  |(refine ai rfl (cK ys hy hm) ?_;rintro _ ⟨qs,rfl,⟨lb',ub,vb,tb,_⟩⟩)
  |(refine ai rfl (HL _ _) ?_;rintro _ ⟨c,rfl,hc⟩)
  |(refine aB rfl (E8 _ _) ?_;rintro _ ⟨d,rfl,QE⟩)
  |(refine iP rfl rfl ?_;rw[←va, ←vb];first|exact Ho ua ub ta tb (by omega) hc|exact Jy ua ub (by omega) hd hs1 cg hx0 hy0 (by omega) QE|exact Hl hd (by omega))
  |(apply aO [0,1,6] [] [6] (JP ps qs) (ps.length) [iV .i64 (IntKind.i64.wrap ((ps.length:Int) - 1))];(conv=>whnf);exact⟨rfl,rfl,rfl,rfl⟩;exact rfl;exact rfl;exact⟨ps.length,by omega,by rw[List.drop_length,List.drop_eq_nil_of_le (by omega)],rfl,by rw[aa (by omega) (by omega)]⟩;rintro _ _ ⟨k,hk,hd,rfl,rfl⟩)
  |(refine au [0,1,6] [] ?_;(conv=>whnf);exact⟨rfl,_,[_],JP.next hk (by omega) (by omega) hd hs1 cg (by omega),rfl,rfl,rfl,by omega⟩))
 all_goals (conv=>whnf)
end Go.aU.Cd
end
section
namespace Go.aU.Cd
open Go
def dy (xs:Lz) (i k:Nat):Nat:=nv ((xs.drop i).take k)
theorem Ac (xs:Lz) (i:Nat):dy xs i 0=0:=by simp[dy,nv]
theorem ii {α:Type} {l:List α} {k:Nat} {e:α} (h:l[k]? =some e):l.take (k+1)=l.take k++[e]:=by
 rw[List.take_add_one,h];rfl
theorem dI {xs:Lz} {i k:Nat} {x:Int} (h:xs[i+k]? =some [tU x]):dy xs i (k+1)=dy xs i k+4294967296 ^ k * x.toNat:=by
 have h':(xs.drop i)[k]? =some [tU x]:=by rw[List.getElem?_drop];exact h
 have hk:((xs.drop i).take k).length=k:=by
  have:=(List.getElem?_eq_some_iff.1 h').1
  rw[List.length_take];omega
 unfold dy
 rw[ii h',yI,hk]
 simp[nv,jV]
theorem FJ {xs:Lz} {i k:Nat} {x:Int} (h:xs[i]? =some [tU x]):dy xs i (k+1)=x.toNat+4294967296 * dy xs (i+1) k:=by
 obtain⟨hlt,he⟩:=List.getElem?_eq_some_iff.1 h
 unfold dy
 rw[List.drop_eq_getElem_cons hlt,he,List.take_succ_cons]
 simp[nv,jV]
theorem D0 {xs ys:Lz} {i k:Nat} (h: ∀j,i≤j→j < i+k→xs[j]? =ys[j]?):dy xs i k=dy ys i k:=by
 unfold dy
 congr 1
 apply List.ext_getElem?
 intro n
 rw[List.getElem?_take,List.getElem?_take]
 split
 · rw[List.getElem?_drop,List.getElem?_drop];exact h _ (by omega) (by omega)
 · rfl
theorem pq {xs:Lz} {i k j:Nat} {e:List T} (h:j < i∨i+k≤j):dy (xs.set j e) i k=dy xs i k:=
 D0 fun n h1 h2=>by rw[List.getElem?_set_ne (by omega)]
theorem qC {xs:Lz} (hx:Us xs) (i k:Nat):dy xs i k < 4294967296 ^ k:=by
 have h:=xp (hx.cut i k)
 exact Nat.lt_of_lt_of_le h (Nat.pow_le_pow_right (by omega) (by simp only[List.length_take];omega))
theorem Nb (k:Nat):0 < 4294967296 ^ k:=Nat.pow_pos (by omega)
theorem EU {U V X top v1 q Q:Nat} (hU:U < (top+1) * X) (hV:v1 * X≤V) (hq:q=top / v1) (h1:1≤v1) (hQ:Q * V≤U):Q≤q:=by
 subst hq
 rw[Nat.le_div_iff_mul_le (by omega)]
 have h2:Q * v1 * X≤U:=by
  rw[Nat.mul_assoc]
  exact Nat.le_trans (Nat.mul_le_mul_left _ hV) hQ
 have h3:Q * v1 * X < (top+1) * X:=by omega
 have:=Nat.lt_of_mul_lt_mul_right h3
 omega
theorem G5 {U V X B top v1 v0 u0 q r Q:Nat} (hU:U < (top * B+u0+1) * X) (hV:(v1 * B+v0) * X≤V) (ht:q * v1+r=top) (hQ:Q * V≤U) (hQB:Q < B) (hqQ:Q≤q) (hc:B≤q∨r * B+u0 < q * v0):Q < q:=by
 rcases Nat.lt_or_eq_of_le hqQ with h|h
 · exact h
 · subst h
   rcases hc with h|h
   · omega
   · exfalso
     have h2:Q * (v1 * B+v0) * X < (top * B+u0+1) * X:=by
      rw[Nat.mul_assoc]
      exact Nat.lt_of_le_of_lt (Nat.le_trans (Nat.mul_le_mul_left _ hV) hQ) hU
     have h3:=Nat.lt_of_mul_lt_mul_right h2
     have h4:Q * (v1 * B+v0)=Q * v1 * B+Q * v0:=by rw[Nat.mul_add,Nat.mul_assoc]
     have h5:top * B=Q * v1 * B+r * B:=by rw[←ht,Nat.add_mul]
     omega
theorem Jr {U V X B top v1 v0 u0 q r:Nat} (hX:0 < X) (hB:0 < B) (hU:(top * B+u0) * X≤U) (Ta:(v1 * B+v0) * X≤V) (hV2:V < (v1 * B+v0+1) * X) (Fe:v0 < B) (h1:1≤v1) (Sv:top < v1 * B+B) (ht:q * v1+r=top)
 (hc:¬ (r < B∧(B≤q∨r * B+u0 < q * v0))):q < B∧q * V < U+V:=by
 have hBX:B * X≤V:=by
  refine Nat.le_trans ?_ Ta
  refine Nat.mul_le_mul_right X ?_
  have:1 * B≤v1 * B:=Nat.mul_le_mul_right B h1
  omega
 have aFW:0 < B * X:=Nat.mul_pos hB hX
 by_cases hr:r < B
 · have hq:q < B:=by
    apply Nat.lt_of_not_le
    intro h
    exact hc ⟨hr, .inl h⟩
   have AG:q * v0≤r * B+u0:=by
    apply Nat.le_of_not_lt
    intro h
    exact hc ⟨hr, .inr h⟩
   refine⟨hq,?_⟩
   have e1:q * (v1 * B+v0)≤top * B+u0:=by
    have e2:q * (v1 * B+v0)=q * v1 * B+q * v0:=by rw[Nat.mul_add,Nat.mul_assoc]
    have e3:top * B=q * v1 * B+r * B:=by rw[←ht,Nat.add_mul]
    omega
   have e4:q * V≤q * ((v1 * B+v0+1) * X):=Nat.mul_le_mul_left q (Nat.le_of_lt hV2)
   have e5:q * ((v1 * B+v0+1) * X)=q * (v1 * B+v0) * X+q * X:=by
    rw[←Nat.mul_assoc,Nat.mul_add q (v1 * B+v0) 1,Nat.mul_one,Nat.add_mul]
   have e6:q * (v1 * B+v0) * X≤(top * B+u0) * X:=Nat.mul_le_mul_right X e1
   have e7:q * X < B * X:=Nat.mul_lt_mul_of_pos_right hq hX
   omega
 · have hv:q * v1 < v1 * B:=by omega
   have hq:q < B:=by
    rw[Nat.mul_comm q v1]at hv
    exact Nat.lt_of_mul_lt_mul_left hv
   refine⟨hq,?_⟩
   have e1:(v1 * B+v0+1) * X≤(v1+1) * (B * X):=by
    rw[←Nat.mul_assoc]
    refine Nat.mul_le_mul_right X ?_
    rw[Nat.add_mul];omega
   have e2:q * V≤q * ((v1+1) * (B * X)):=Nat.mul_le_mul_left q (by omega)
   have e3:q * ((v1+1) * (B * X))=(q * v1+q) * (B * X):=by rw[←Nat.mul_assoc,Nat.mul_add q v1 1,Nat.mul_one]
   have e4:(q * v1+q) * (B * X)≤top * (B * X):=Nat.mul_le_mul_right _ (by omega)
   have e5:top * (B * X)=top * B * X:=by rw[Nat.mul_assoc]
   have e6:top * B * X≤(top * B+u0) * X:=Nat.mul_le_mul_right X (by omega)
   omega
theorem FA {a b c q y u Bi d borrow zC carry lo hi:Nat} (ha:a+(borrow+carry) * Bi=b+q * c) (hc:carry+q * y=lo+hi * 4294967296) (hd:u+zC * 4294967296=d+lo+borrow):(a+Bi * u)+(zC+hi) * (4294967296 * Bi)=(b+Bi * d)+q * (c+Bi * y):=by
 have h1:Bi * (u+zC * 4294967296)=Bi * (d+lo+borrow):=by rw[hd]
 have h2:Bi * (carry+q * y)=Bi * (lo+hi * 4294967296):=by rw[hc]
 grind
theorem Hw {a b c y u Bi d carry Cv:Nat} (ha:a+c=b+carry * Bi) (hd:carry+u+y=d+Cv * 4294967296):(a+Bi * u)+(c+Bi * y)=(b+Bi * d)+Cv * (4294967296 * Bi):=by
 have h1:Bi * (carry+u+y)=Bi * (d+Cv * 4294967296):=by rw[hd]
 grind
theorem Iz {U V q Q un carry borrow lo new Bn:Nat} (hU:U=lo+Bn * un) (h:lo+(borrow+carry) * Bn=new+q * V) (hQ:U < (Q+1) * V) (hq:Q≤q) (hge:carry+borrow≤un):new < V:=by
 obtain⟨k,rfl⟩: ∃k,un=carry+borrow+k:=⟨un - (carry+borrow),by omega⟩
 have e1:Bn * (carry+borrow+k)=(borrow+carry) * Bn+Bn * k:=by
  rw[Nat.mul_add,Nat.mul_comm,Nat.add_comm carry borrow]
 have e2:(Q+1) * V≤(q+1) * V:=Nat.mul_le_mul_right V (by omega)
 have e3:(q+1) * V=q * V+V:=by rw[Nat.add_mul,Nat.one_mul]
 have e4:0≤Bn * k:=Nat.zero_le _
 omega
theorem FC {U V q un carry borrow lo new N4 c2 Bn:Nat} (hU:U=lo+Bn * un) (h:lo+(borrow+carry) * Bn=new+q * V) (hV:V < Bn) (hq:q * V < U+V) (hlt:un < carry+borrow) (h2:new+V=N4+c2 * Bn) (hn:new < Bn) (hn2:N4 < Bn):N4 < V:=by
 obtain⟨k,hk⟩: ∃k,borrow+carry=un+1+k:=⟨borrow+carry - un - 1,by omega⟩
 rw[hk]at h
 have e1:(un+1+k) * Bn=Bn * un+Bn+k * Bn:=by
  rw[Nat.add_mul,Nat.add_mul,Nat.one_mul,Nat.mul_comm un Bn]
 match c2,h2 with
 |0,h2=>simp only[Nat.zero_mul,Nat.add_zero]at h2;have:=Nat.zero_le (k * Bn);omega
 |1,h2=>simp only[Nat.one_mul]at h2;omega
 |c+2,h2=>
  have e2:(c+2) * Bn=c * Bn+2 * Bn:=by rw[Nat.add_mul]
  have:=Nat.zero_le (c * Bn)
  omega
end Go.aU.Cd
end
section
namespace Go.aU.Cd
open Go Go.Proofs
set_option maxRecDepth 100000
def YV:Rc:=Sq (Rg [Mn 4]) (Sq (Rg [Mv 9 0,p 10 (.call 239 [t 9]),Mv 11 1,p 12 (.call 239 [t 11]),Mv 0 10,Mv 1 12]) (Sq (Sq (Rg [Mv 13 0,Le 14 13,Mv 15 1,Le 16 15,Bt 17 .lss 14 16]) (Cn 17 (Rg [Mv 18 1,Mv 19 0,Mv 0 18,Mv 1 19]) Sk)) (Sq (Rg [Mv 20 0,Le 21 20,Bi 22 .add 21 1,p 23 (.make [.t (.val (.int .u32 0))] 4 (k 0) (t 22)),Mv 5 23]) (Sq (Rg [p 6 (.kF (.c (.w (.one (.t (.val (.int .u64 0)))))))]) (Sq (Sq (Rg [Mv 24 0,Le 25 24,Mk 26 0]) (Bk 0 (Lp (Sq (Rg [Bt 27 .lss 26 25]) (Sq (Cn 27 Sk (Ex 0)) (Sq (Bk 1 (Sq (Rg [Mv 28 26,Ia 29 1 24 26,Ld 30 29,Mv 7 28,Mv 8 30]) (Sq (Rg [Mv 31 6,Mv 32 8,p 33 (.conv .u64 (t 32)),Bt 34 .add 31 33,Mv 6 34]) (Sq (Sq (Rg [Mv 35 7,Mv 36 1,Le 37 36,Bt 38 .lss 35 37]) (Cn 38 (Rg [Mv 39 6,Mv 40 1,Mv 41 7,Ia 42 1 40 41,Ld 43 42,p 44 (.conv .u64 (t 43)),Bt 45 .add 39 44,Mv 6 45]) Sk)) (Sq (Rg [Mv 46 5,Mv 47 6,p 48 (.conv .u32 (t 47)),p 49 (.bc [.t (.val (.int .u32 0))] 1 [(0,t 48)]),p 50 (.append 1 4 (t 46) (t 49)),Mv 5 50]) (Rg [Mv 51 6,p 52 (.bin .shr (t 51) (.c (.w (.one (.t (.val (.int .u64 32))))))),Mv 6 52])))))) (Rg [Bi 53 .add 26 1,Mv 26 53]))))))) (Sq (Rg [Mv 54 5,Mv 55 6,p 56 (.conv .u32 (t 55)),p 57 (.bc [.t (.val (.int .u32 0))] 1 [(0,t 56)]),p 58 (.append 1 4 (t 54) (t 57)),p 59 (.call 239 [t 58]),Mv 4 59]) Rt))))))
theorem WU:ae Tryz.prog (Tryz.f245.body.getD .skip)=some YV:=by kernel_rfl
theorem abS:Tryz.f245.body=some (Tryz.f245.body.getD .skip):=rfl
def YQ:Rc:=Sq (Rg [Mn 4,Mb 5 false]) (Sq (Rg [Mv 11 0,p 12 (.call 239 [t 11]),Mv 13 1,p 14 (.call 239 [t 13]),Mv 0 12,Mv 1 14]) (Sq (Sq (Rg [Mv 15 0,Mv 16 1,p 17 (.call 223 [t 15,t 16]),Bi 18 .lss 17 0]) (Cn 18 (Sq (Rg [Mn 4,Mb 5 false]) Rt) Sk)) (Sq (Rg [Mv 19 0,Le 20 19,p 21 (.make [.t (.val (.int .u32 0))] 4 (t 20) (t 20)),Mv 6 21]) (Sq (Rg [p 7 (.kF (.c (.w (.one (.t (.val (.int .u64 0)))))))]) (Sq (Sq (Rg [Mv 22 0,Le 23 22,Mk 24 0]) (Bk 0 (Lp (Sq (Rg [Bt 25 .lss 24 23]) (Sq (Cn 25 Sk (Ex 0)) (Sq (Bk 1 (Sq (Rg [Mv 26 24,Ia 27 1 22 24,Ld 28 27,Mv 8 26,Mv 9 28]) (Sq (Rg [Mv 29 9,p 30 (.conv .u64 (t 29)),Mv 31 7,Bt 32 .sub 30 31,Mv 10 32]) (Sq (Sq (Rg [Mv 33 8,Mv 34 1,Le 35 34,Bt 36 .lss 33 35]) (Cn 36 (Rg [Mv 37 10,Mv 38 1,Mv 39 8,Ia 40 1 38 39,Ld 41 40,p 42 (.conv .u64 (t 41)),Bt 43 .sub 37 42,Mv 10 43]) Sk)) (Sq (Rg [Mv 44 6,Mv 45 8,Mv 46 10,p 47 (.conv .u32 (t 46)),Ia 48 1 44 45,So 1 48 47]) (Rg [Mv 49 10,p 50 (.bin .shr (t 49) (.c (.w (.one (.t (.val (.int .u64 63))))))),Mv 7 50])))))) (Rg [Bi 51 .add 24 1,Mv 24 51]))))))) (Sq (Rg [Mv 52 6,p 53 (.call 239 [t 52]),Mv 4 53,Mb 5 true]) Rt))))))
theorem WK:ae Tryz.prog (Tryz.f254.body.getD .skip)=some YQ:=by kernel_rfl
theorem abJ:Tryz.f254.body=some (Tryz.f254.body.getD .skip):=rfl
def Zd:Rc:=Sq (Rg [Mn 4]) (Sq (Rg [Mv 11 0,p 12 (.call 239 [t 11]),Mv 13 1,p 14 (.call 239 [t 13]),Mv 0 12,Mv 1 14]) (Sq (Rg [Mv 15 0,Le 16 15,Mv 17 1,Le 18 17,Bt 19 .add 16 18,p 20 (.make [.t (.val (.int .u32 0))] 4 (t 19) (t 19)),Mv 5 20]) (Sq (Sq (Rg [Mv 21 0,Le 22 21,Mk 23 0]) (Bk 0 (Lp (Sq (Rg [Bt 24 .lss 23 22]) (Sq (Cn 24 Sk (Ex 0)) (Sq (Bk 1 (Sq (Rg [Mv 25 23,Ia 26 1 21 23,Ld 27 26,Mv 6 25,Mv 7 27]) (Sq (Rg [p 8 (.kF (.c (.w (.one (.t (.val (.int .u64 0)))))))]) (Sq (Sq (Rg [Mv 28 1,Le 29 28,Mk 30 0]) (Bk 2 (Lp (Sq (Rg [Bt 31 .lss 30 29]) (Sq (Cn 31 Sk (Ex 2)) (Sq (Bk 3 (Sq (Rg [Mv 32 30,Ia 33 1 28 30,Ld 34 33,Mv 9 32,Mv 10 34]) (Sq (Rg [Mv 35 8,Mv 36 7,p 37 (.conv .u64 (t 36)),Mv 38 10,p 39 (.conv .u64 (t 38)),Bt 40 .mul 37 39,Mv 41 5,Mv 42 6,Mv 43 9,Bt 44 .add 42 43,Ia 45 1 41 44,Ld 46 45,p 47 (.conv .u64 (t 46)),Bt 48 .add 40 47,Bt 49 .add 35 48,Mv 8 49]) (Sq (Rg [Mv 50 5,Mv 51 6,Mv 52 9,Bt 53 .add 51 52,Mv 54 8,p 55 (.conv .u32 (t 54)),Ia 56 1 50 53,So 1 56 55]) (Rg [Mv 57 8,p 58 (.bin .shr (t 57) (.c (.w (.one (.t (.val (.int .u64 32))))))),Mv 8 58]))))) (Rg [Bi 59 .add 30 1,Mv 30 59]))))))) (Rg [Mv 60 5,Mv 61 6,Mv 62 1,Le 63 62,Bt 64 .add 61 63,Mv 65 8,p 66 (.conv .u32 (t 65)),Ia 67 1 60 64,So 1 67 66]))))) (Rg [Bi 68 .add 23 1,Mv 23 68]))))))) (Sq (Rg [Mv 69 5,p 70 (.call 239 [t 69]),Mv 4 70]) Rt))))
theorem Xg:ae Tryz.prog (Tryz.f225.body.getD .skip)=some Zd:=by kernel_rfl
theorem acK:Tryz.f225.body=some (Tryz.f225.body.getD .skip):=rfl
def YR:Rc:=Sq (Rg [Mn 4,p 5 (.kF (.c (.w (.one (.t (.val (.int .u32 0)))))))]) (Sq (Rg [Mv 9 0,Le 10 9,p 11 (.make [.t (.val (.int .u32 0))] 4 (t 10) (t 10)),Mv 6 11]) (Sq (Rg [p 7 (.kF (.c (.w (.one (.t (.val (.int .u64 0)))))))]) (Sq (Sq (Rg [Mv 12 0,Le 13 12,Bi 14 .sub 13 1,Mv 8 14]) (Bk 0 (Lp (Sq (Sq (Rg [Mv 15 8,Bi 16 .geq 15 0]) (Cn 16 Sk (Ex 0))) (Sq (Bk 1 (Sq (Rg [Mv 19 7,p 20 (.bin .shl (t 19) (.c (.w (.one (.t (.val (.int .u64 32))))))),Mv 21 0,Mv 22 8,Ia 23 1 21 22,Ld 24 23,p 25 (.conv .u64 (t 24)),Bt 26 .or 20 25,Mv 7 26]) (Sq (Rg [Mv 27 6,Mv 28 8,Mv 29 7,Mv 30 1,p 31 (.conv .u64 (t 30)),Bt 32 .quo 29 31,p 33 (.conv .u32 (t 32)),Ia 34 1 27 28,So 1 34 33]) (Rg [Mv 35 7,Mv 36 1,p 37 (.conv .u64 (t 36)),Bt 38 .rem 35 37,Mv 7 38])))) (Rg [Mv 17 8,Bi 18 .sub 17 1,Mv 8 18])))))) (Sq (Rg [Mv 39 6,p 40 (.call 239 [t 39]),Mv 41 7,p 42 (.conv .u32 (t 41)),Mv 4 40,Mv 5 42]) Rt))))
theorem WQ:ae Tryz.prog (Tryz.f249.body.getD .skip)=some YR:=by kernel_rfl
theorem abO:Tryz.f249.body=some (Tryz.f249.body.getD .skip):=rfl
def avT:Rc:=Sq (Rg [Mk 2 0]) (Sq (Sq (Rg [Mv 3 0,p 4 (.bin .geq (t 3) (.c (.w (.one (.t (.val (.int .u32 65536)))))))]) (Cn 4 (Sq (Rg [Mv 5 0,p 6 (.bin .shr (t 5) (.c (.w (.one (.t (.val (.int .u64 16))))))),Mv 0 6]) (Rg [Mk 2 16])) Sk)) (Sq (Sq (Rg [Mv 7 0,p 8 (.bin .geq (t 7) (.c (.w (.one (.t (.val (.int .u32 256)))))))]) (Cn 8 (Sq (Rg [Mv 9 0,p 10 (.bin .shr (t 9) (.c (.w (.one (.t (.val (.int .u64 8))))))),Mv 0 10]) (Rg [Mv 11 2,Bi 12 .add 11 8,Mv 2 12])) Sk)) (Sq (Rg [Mv 13 2,Mv 14 0,p 15 (.conv .u8 (t 14)),p 16 (.qy (.c (.w (.one (.t (.val (.string ⟨#[0,1,2,2,3,3,3,3,4,4,4,4,4,4,4,4,5,5,5,5,5,5,5,5,5,5,5,5,5,5,5,5,6,6,6,6,6,6,6,6,6,6,6,6,6,6,6,6,6,6,6,6,6,6,6,6,6,6,6,6,6,6,6,6,7,7,7,7,7,7,7,7,7,7,7,7,7,7,7,7,7,7,7,7,7,7,7,7,7,7,7,7,7,7,7,7,7,7,7,7,7,7,7,7,7,7,7,7,7,7,7,7,7,7,7,7,7,7,7,7,7,7,7,7,7,7,7,7,8,8,8,8,8,8,8,8,8,8,8,8,8,8,8,8,8,8,8,8,8,8,8,8,8,8,8,8,8,8,8,8,8,8,8,8,8,8,8,8,8,8,8,8,8,8,8,8,8,8,8,8,8,8,8,8,8,8,8,8,8,8,8,8,8,8,8,8,8,8,8,8,8,8,8,8,8,8,8,8,8,8,8,8,8,8,8,8,8,8,8,8,8,8,8,8,8,8,8,8,8,8,8,8,8,8,8,8,8,8,8,8,8,8,8,8,8,8,8,8,8,8,8,8,8,8,8,8]⟩)))))) (t 15)),p 17 (.conv .i64 (t 16)),Bt 18 .add 13 17,Mv 2 18]) Rt)))
theorem YF:ae Tryz.prog (Tryz.f117.body.getD .skip)=some avT:=by kernel_rfl
theorem afQ:Tryz.f117.body=some (Tryz.f117.body.getD .skip):=rfl
def avD:Rc:=Sq (Rg [Mk 2 0]) (Sq (Rg [Mv 3 0,p 4 (.call 117 [t 3]),p 5 (.bin .sub (k 32) (t 4)),Mv 2 5]) Rt)
theorem WO:ae Tryz.prog (Tryz.f250.body.getD .skip)=some avD:=by kernel_rfl
theorem abN:Tryz.f250.body=some (Tryz.f250.body.getD .skip):=rfl
theorem bt {n:Int} (h0: -9223372036854775808≤n) (h1:n < 9223372036854775808):IntKind.i64.wrap n=n:=aa h0 h1
abbrev bP (id sz len:Nat):V:= .w (.one (.own id sz 0 len))
def CD (N:Nat) (m:Nat) (vs:List V) (xss:List (Lz)):Prop:= ∃ (i:Nat) (zs:Lz) (c:Int),i≤N∧m=N - i∧vs=[bP 4 1 i,iV .u64 c,iV .i64 (i:Int)]∧xss=[zs]∧zs.length=i∧Us zs
theorem CD.zero {N:Nat}:CD N N [bP 4 1 0,iV .u64 0,iV .i64 0] [[]]:=⟨0,[],0,by omega,rfl,rfl,rfl,rfl,Us.nil⟩
theorem CD.next {N i k:Nat} {zs:Lz} {c d:Int} (h:i < N) (hN:N≤1000001) (hl:zs.length=i) (hU:Us zs) (hk:k=i+1):CD N (N - (i+1)) [bP 4 1 k,iV .u64 d,iV .i64 (IntKind.i64.wrap ((i:Int)+1))] [zs++[[tU (IntKind.u32.wrap c)]]]:=
 ⟨i+1,_,d,by omega,rfl,by rw[bt (by omega) (by omega),hk];rfl,rfl,by simp[hl],hU.snoc (dZ _) (eX _)⟩
theorem jU (xs ys:Lz) (hx:Us xs) (hy:Us ys) (hl:xs.length≤400000) (hm:ys.length≤400000):Tg 245 [oL 1 xs,oL 1 ys] (GL 1 (Nm (max xs.length ys.length+1))):=by
 refine aL ?_
 refine ah (n:=60) (rs:=[.tmp 4]) Tryz.func245 abS WU rfl rfl (by simp) ?_
 repeat' (conv=>whnf
          first
  |(refine aD (fun h=>?_) (fun h=>?_))
  |(refine aC ua (by omega) (by omega) ?_;rintro _ ⟨x,rfl,hx0,qL⟩ hs1)
  |(refine aC ub (by omega) (by omega) ?_;rintro _ ⟨y,rfl,hy0,qK⟩ cg)
  |(refine And.intro ⟨(by first|omega|(simp (disch:=omega) only[aa];omega)),(by first|omega|(simp (disch:=omega) only[aa];omega)),(by first|omega|(simp (disch:=omega) only[aa];omega)),(by first|omega|(simp (disch:=omega) only[aa];omega))⟩ ?_)
  |(refine And.intro ⟨by simp[tr,hz],by simp[tr,aX];omega,by simp[tr,maxLen];omega⟩ ?_)
  |(refine And.intro (by omega) ?_)
  |(refine ai rfl (cK xs hx (by omega)) ?_;rintro _ ⟨ps,rfl,⟨la,ua,va,ta,_⟩⟩)
  |(refine ai rfl (cK ys hy (by omega)) ?_;rintro _ ⟨qs,rfl,⟨lb',ub,vb,tb,_⟩⟩)
  |(refine DR rfl rfl (dN (zs++[[tU (IntKind.u32.wrap c)]]) (hU.snoc (dZ _) (eX _)) (by simp;omega)) (by simp[W.az,C.az,bB,tr]) (aF.snoc (xs:=zs) rfl [tU _]) ?_;rintro _ ⟨k,rfl,hk,hT⟩)
  |exact nj rfl (fA rfl rfl (aF.snoc (xs:=zs) rfl [tU _]) (by simp at hk⊢;omega)) ⟨_,rfl,by simpa using hT.nm (by simp;omega)⟩
  |(apply bH [1,5,6,24,25,26] [] [5,6,26] [(4,1)] (CD (max ps.length qs.length)) (max ps.length qs.length) [bP 4 1 0,iV .u64 0,iV .i64 0];(conv=>whnf);exact⟨rfl,rfl,rfl,rfl⟩;exact rfl;exact rfl;exact .cons (aF.az (aF.replicate 0 [tU 0]) _) .nil;exact CD.zero;rintro _ _ _ ⟨i,zs,c,hi,rfl,rfl,rfl,hz,hU⟩)
  |(refine au [1,5,6,24,25,26] [] ?_;(conv=>whnf);exact⟨rfl,_,[_,_,_],_, .cons (aF.az (aF.snoc (xs:=zs) rfl [tU _]) _) .nil,CD.next (by omega) (by omega) hz hU (by simp[tr,hz]),rfl,rfl,by omega⟩))
 all_goals (conv=>whnf)
def wO (N L:Nat) (m:Nat) (vs:List V) (xss:List (Lz)):Prop:= ∃ (i:Nat) (zs:Lz) (c:Int),i≤N∧m=N - i∧vs=[iV .u64 c,iV .i64 (i:Int)]∧xss=[zs]∧zs.length=L∧Us zs
theorem wO.zero {N L:Nat} {zs:Lz} (hz:zs.length=L) (hU:Us zs):wO N L N [iV .u64 0,iV .i64 0] [zs]:=⟨0,zs,0,by omega,rfl,rfl,rfl,hz,hU⟩
theorem wO.next {N L i j:Nat} {zs:Lz} {c d:Int} (h:i < N) (hN:N≤1000001) (hl:zs.length=L) (hU:Us zs):wO N L (N - (i+1)) [iV .u64 d,iV .i64 (IntKind.i64.wrap ((i:Int)+1))] [zs.set j [tU (IntKind.u32.wrap c)]]:=
 ⟨i+1,_,d,by omega,rfl,by rw[bt (by omega) (by omega)];rfl,rfl,by simp[hl],hU.set (dZ _) (eX _)⟩
def GLB (p:Lz→Prop) (ts:List W):Prop:= ∃xs b,ts=[.one (.t (.aA 1 xs)), .one (.t (.val (.bool b)))]∧p xs
theorem rM (xs ys:Lz) (hx:Us xs) (hy:Us ys) (hl:xs.length≤400000) (hm:ys.length≤400000):Tg 254 [oL 1 xs,oL 1 ys] (GLB (Nm xs.length)):=by
 refine aL ?_
 refine ah (n:=54) (rs:=[.tmp 4, .tmp 5]) Tryz.func254 abJ WK rfl rfl (by simp) ?_
 repeat' (conv=>whnf
          first
  |(refine aD (fun h=>?_) (fun h=>?_))
  |(refine aC ua (by omega) (by omega) ?_;rintro _ ⟨x,rfl,hx0,qL⟩ hs1)
  |(refine aC ub (by omega) (by omega) ?_;rintro _ ⟨y,rfl,hy0,qK⟩ cg)
  |(refine And.intro ⟨(by first|omega|(simp (disch:=omega) only[aa];omega)),(by first|omega|(simp (disch:=omega) only[aa];omega)),(by first|omega|(simp (disch:=omega) only[aa];omega)),(by first|omega|(simp (disch:=omega) only[aa];omega))⟩ ?_)
  |(refine And.intro ⟨by omega,by omega⟩ ?_)
  |(refine And.intro (by omega) ?_)
  |(refine ai rfl (cK xs hx (by omega)) ?_;rintro _ ⟨ps,rfl,⟨la,ua,va,ta,_⟩⟩)
  |(refine ai rfl (cK ys hy (by omega)) ?_;rintro _ ⟨qs,rfl,⟨lb',ub,vb,tb,_⟩⟩)
  |(refine ai rfl (iH ps qs ua ub (by omega) (by omega)) ?_;rintro _ ⟨n,rfl,hn⟩)
  |(refine cj (xs:=zs) rfl hU (by omega) ?_;rintro _ ⟨a,rfl,ha0,ha1⟩ hs)
  |(refine DR rfl rfl (dN zs hU (by omega)) (by simp[W.az,C.az,bB,hz]) rfl ?_;rintro _ ⟨k,rfl,hk,hT⟩)
  |exact dz rfl (fA rfl rfl (xs:=zs) rfl (by simp at hk⊢;omega)) (bZ rfl) ⟨_,_,rfl,by simpa using hT.nm (by omega)⟩
  |exact dz rfl (bS 1 rfl) (bZ rfl) ⟨_,_,rfl,by simp,Us.nil,by simp⟩
  |(apply bH [1,6,7,22,23,24] [] [7,24] [(4,1)] (wO ps.length ps.length) (ps.length) [iV .u64 0,iV .i64 0];(conv=>whnf);exact⟨rfl,rfl,rfl,rfl⟩;exact rfl;exact rfl;exact .cons (aF.az (aF.replicate ps.length [tU 0]) _) .nil;exact wO.zero (by simp) (Us.replicate _);rintro _ _ _ ⟨i,zs,c,hi,rfl,rfl,rfl,hz,hU⟩)
  |(refine au [1,6,7,22,23,24] [] ?_;(conv=>whnf);exact⟨rfl,_,[_,_],_, .cons (aF.az (aF.set (xs:=zs) rfl _ [tU _]) _) .nil,wO.next (by omega) (by omega) hz hU,rfl,rfl,by omega⟩))
 all_goals (conv=>whnf)
theorem jp (n:Int):0≤IntKind.u64.wrap n:=by rw[qo];omega
def CB (N L:Nat) (m:Nat) (vs:List V) (xss:List (Lz)):Prop:= ∃ (i:Nat) (zs:Lz),i≤N∧m=N - i∧vs=[iV .i64 (i:Int)]∧xss=[zs]∧zs.length=L∧Us zs
theorem CB.zero {N L:Nat} {zs:Lz} (hz:zs.length=L) (hU:Us zs):CB N L N [iV .i64 0] [zs]:=⟨0,zs,by omega,rfl,rfl,rfl,hz,hU⟩
theorem CB.next {N L i j:Nat} {zs:Lz} {c:Int} (h:i < N) (hN:N≤1000001) (hl:zs.length=L) (hU:Us zs):CB N L (N - (i+1)) [iV .i64 (IntKind.i64.wrap ((i:Int)+1))] [zs.set j [tU (IntKind.u32.wrap c)]]:=
 ⟨i+1,_,by omega,rfl,by rw[bt (by omega) (by omega)];rfl,rfl,by simp[hl],hU.set (dZ _) (eX _)⟩
theorem iG (xs ys:Lz) (hx:Us xs) (hy:Us ys) (hl:xs.length≤400000) (hm:ys.length≤400000):Tg 225 [oL 1 xs,oL 1 ys] (GL 1 (Nm (xs.length+ys.length))):=by
 refine aL ?_
 refine ah (n:=71) (rs:=[.tmp 4]) Tryz.func225 acK Xg rfl rfl (by simp) ?_
 repeat' (conv=>whnf
          first
  |(refine aD (fun h=>?_) (fun h=>?_))
  |(refine aC ua (by omega) (by omega) ?_;rintro _ ⟨x,rfl,hx0,qL⟩ hs1)
  |(refine aC ub (by omega) (by omega) ?_;rintro _ ⟨y,rfl,hy0,qK⟩ cg)
  |(refine And.intro ⟨(by first|omega|(simp (disch:=omega) only[aa];omega)),(by first|omega|(simp (disch:=omega) only[aa];omega)),(by first|omega|(simp (disch:=omega) only[aa];omega)),(by first|omega|(simp (disch:=omega) only[aa];omega))⟩ ?_)
  |(refine And.intro ⟨(by first|omega|(simp (disch:=omega) only[aa];omega)),(by first|omega|(simp (disch:=omega) only[aa];omega))⟩ ?_)
  |(refine And.intro (by omega) ?_)
  |(refine ai rfl (cK xs hx (by omega)) ?_;rintro _ ⟨ps,rfl,⟨la,ua,va,ta,_⟩⟩)
  |(refine ai rfl (cK ys hy (by omega)) ?_;rintro _ ⟨qs,rfl,⟨lb',ub,vb,tb,_⟩⟩)
  |(refine cj (xs:=zs) rfl hU (by first|omega|(simp (disch:=omega) only[aa];omega)) ?_;rintro _ ⟨a,rfl,ha0,ha1⟩ hs)
  |(refine DR rfl rfl (dN zs hU (by omega)) (by simp (disch:=omega) [W.az,C.az,bB,hz,aa];omega) rfl ?_;rintro _ ⟨k,rfl,hk,hT⟩)
  |exact nj rfl (fA rfl rfl (xs:=zs) rfl (by simp at hk⊢;omega)) ⟨_,rfl,by simpa using hT.nm (by omega)⟩
  |(apply bH [1,5,6,7,8,21,22,23,28,29,30] [] [8,30] [(4,1)] (wO qs.length (ps.length+qs.length)) (qs.length) [iV .u64 0,iV .i64 0];(conv=>whnf);exact⟨rfl,rfl,rfl,rfl⟩;exact rfl;exact rfl;exact .cons (aF.az rfl _) .nil;exact wO.zero hz hU;rintro _ _ _ ⟨k,zs,c,KA,rfl,rfl,rfl,hz,hU⟩)
  |(refine au [1,5,6,7,8,21,22,23,28,29,30] [] ?_;(conv=>whnf);exact⟨rfl,_,[_,_],_, .cons (aF.az (aF.set (xs:=zs) rfl _ [tU _]) _) .nil,wO.next (by omega) (by omega) hz hU,rfl,rfl,by omega⟩)
  |(apply bH [1,5,21,22,23] [] [23] [(4,1)] (CB ps.length (ps.length+qs.length)) (ps.length) [iV .i64 0];(conv=>whnf);exact⟨rfl,rfl,rfl,rfl⟩;exact rfl;exact rfl;exact .cons (aF.az (aF.replicate _ [tU 0]) _) .nil;exact CB.zero (by simp (disch:=omega) only[List.length_replicate,aa];omega) (Us.replicate _);rintro _ _ _ ⟨i,zs,hi,rfl,rfl,rfl,hz,hU⟩)
  |(refine au [1,5,21,22,23] [] ?_;(conv=>whnf);exact⟨rfl,_,[_],_, .cons (aF.az (aF.set (xs:=zs) rfl _ [tU _]) _) .nil,CB.next (by omega) (by omega) hz hU,rfl,rfl,by omega⟩))
 all_goals (conv=>whnf)
def PR (d:Int) (N:Nat) (m:Nat) (vs:List V) (xss:List (Lz)):Prop:= ∃ (k:Nat) (zs:Lz) (r:Int),k≤N∧m=k∧0≤r∧r < d∧vs=[iV .u64 r,iV .i64 ((k:Int) - 1)]∧xss=[zs]∧zs.length=N∧Us zs
theorem PR.zero {d:Int} {N:Nat} {zs:Lz} (hd:1≤d) (hN:N≤1000000) (hz:zs.length=N) (hU:Us zs):PR d N N [iV .u64 0,iV .i64 (IntKind.i64.wrap ((N:Int) - 1))] [zs]:=⟨N,zs,0,by omega,rfl,by omega,by omega,by rw[bt (by omega) (by omega)],rfl,hz,hU⟩
theorem PR.next {d X c:Int} {N k j:Nat} {zs:Lz} (hd:1≤d) (QE:d < 4294967296) (hX:0≤X) (hk:k≤N) (hN:N≤1000000) (h0:(k:Int) - 1≥0) (hz:zs.length=N) (hU:Us zs):PR d N (k - 1) [iV .u64 (X.tmod (IntKind.u64.wrap d)),iV .i64 (IntKind.i64.wrap ((k:Int) - 1 - 1))] [zs.set j [tU (IntKind.u32.wrap c)]]:=by
 have e:IntKind.u64.wrap d=d:=u64_in (by omega) (by omega)
 refine⟨k - 1,_,_,by omega,rfl,?_,?_,by rw[bt (by omega) (by omega)];congr 3;omega,rfl,by simp[hz],hU.set (dZ _) (eX _)⟩
 · exact Int.tmod_nonneg _ hX
 · rw[e];exact Int.tmod_lt_of_pos _ (by omega)
def GSh (n:Nat) (d:Int) (ts:List W):Prop:= ∃zs r,ts=[.one (.t (.aA 1 zs)), .one (.t (tU r))]∧Nm n zs∧0≤r∧r < d
theorem Nq {d:Int} (hd:1≤d) (QE:d < 4294967296):IntKind.u64.wrap d≠0:=by rw[u64_in (by omega) (by omega)];omega
theorem wx (xs:Lz) (d:Int) (hx:Us xs) (hl:xs.length≤400000) (hd:1≤d) (QE:d < 4294967296):Tg 249 [oL 1 xs,Ee d] (GSh xs.length d):=by
 refine aL ?_
 refine ah (n:=43) (rs:=[.tmp 4, .tmp 5]) Tryz.func249 abO WQ rfl rfl (by simp) ?_
 repeat' (conv=>whnf
          first
  |(refine aD (fun h=>?_) (fun h=>?_))
  |(refine aC hx (by omega) (by omega) ?_;rintro _ ⟨x,rfl,hx0,qL⟩ hs1)
  |(refine And.intro ⟨(by first|omega|(simp (disch:=omega) only[aa];omega)),(by first|omega|(simp (disch:=omega) only[aa];omega)),(by first|omega|(simp (disch:=omega) only[aa];omega)),(by first|omega|(simp (disch:=omega) only[aa];omega))⟩ ?_)
  |(refine And.intro ⟨(by first|omega|(simp (disch:=omega) only[aa];omega)),(by first|omega|(simp (disch:=omega) only[aa];omega))⟩ ?_)
  |(refine And.intro (Nq hd QE) ?_)
  |(refine And.intro (by omega) ?_)
  |(refine cj (xs:=zs) rfl hU (by first|omega|(simp (disch:=omega) only[aa];omega)) ?_;rintro _ ⟨a,rfl,ha0,ha1⟩ hs)
  |(refine DR rfl rfl (dN zs hU (by omega)) (by simp[W.az,C.az,bB,hz]) rfl ?_;rintro _ ⟨k,rfl,hk,hT⟩)
  |exact dz rfl (fA rfl rfl (xs:=zs) rfl (by simp at hk⊢;omega)) (bZ rfl) ⟨_,_,rfl,by simpa using hT.nm (by omega),dZ _,by rw[u32_in (by omega) (by omega)];omega⟩
  |(apply bH [0,1,6,7,8] [] [7,8] [(4,1)] (PR d xs.length) (xs.length) [iV .u64 0,iV .i64 (IntKind.i64.wrap ((xs.length:Int) - 1))];(conv=>whnf);exact⟨rfl,rfl,rfl,rfl⟩;exact rfl;exact rfl;exact .cons (aF.az (aF.replicate _ [tU 0]) _) .nil;exact PR.zero hd (by omega) (by simp) (Us.replicate _);rintro _ _ _ ⟨k,zs,r,KA,rfl,uO,rT,rfl,rfl,hz,hU⟩)
  |(refine au [0,1,6,7,8] [] ?_;(conv=>whnf);exact⟨rfl,_,[_,_],_, .cons (aF.az (aF.set (xs:=zs) rfl _ [tU _]) _) .nil,PR.next hd QE (jp _) KA (by omega) (by omega) hz hU,rfl,rfl,by omega⟩))
 all_goals (conv=>whnf)
theorem Ik {s:ByteArray} {n:Int} {N B:Nat} {K:UInt8→Prop} (hN:s.size=N) (hQ:(List.range N).all (fun i=>match s[i]? with|some b=>Nat.blt i (2 ^ b.toNat)&&Nat.ble b.toNat B|none=>false)=true) (h0:0≤n) (h1:n < (N:Int)) (hk: ∀b:UInt8,b.toNat≤B→n.toNat < 2 ^ b.toNat→K b):0≤n∧ ∃b,s[n.toNat]? =some b∧K b:=by
 have hlt:n.toNat < s.size:=by omega
 have h2:=List.all_eq_true.1 hQ n.toNat (by simp;omega)
 have e:s[n.toNat]? =some s[n.toNat]:=by simp[hlt]
 rw[e]at h2
 simp only[Bool.and_eq_true,Nat.blt_eq,Nat.ble_eq]at h2
 exact⟨h0,_,e,hk _ h2.2 h2.1⟩
theorem FE (a:Int) (k:Nat) (hk:k≤32):a.fdiv (2 ^ (min (k:Int).toNat IntKind.u32.bits))=a / 2 ^ k:=by
 have e:min (k:Int).toNat IntKind.u32.bits=k:=by simp only[IntKind.bits];omega
 rw[e,Int.fdiv_eq_ediv_of_nonneg _ (Int.le_of_lt (Int.pow_pos (by omega)))]
theorem u8_in {n:Int} (h0:0≤n) (h1:n < 256):IntKind.u8.wrap n=n:=by simp[IntKind.wrap,IntKind.bits,IntKind.signed];omega
theorem sr8 (x:Int):x.fdiv (2 ^ min (Int.toNat 8) IntKind.u32.bits)=x / 256:=FE x 8 (by omega)
theorem alN (x:Int):x.fdiv (2 ^ min (Int.toNat 16) IntKind.u32.bits)=x / 65536:=FE x 16 (by omega)
theorem tx {x y n D:Int} {k:Nat} {b:UInt8} (hD:(2:Int) ^ k=D) (h0:0≤x) (hk:k≤24) (hy:y=x / D) (hy8:y < 256) (hb:b.toNat≤8) (hq:(IntKind.u8.wrap y).toNat < 2 ^ b.toNat) (hn:n=(k+b.toNat:Nat)):0≤n∧n≤32∧x.toNat < 2 ^ n.toNat:=by
 have hp:(0:Int) < 2 ^ k:=Int.pow_pos (by omega)
 rw[←hD]at hy
 have hy0:0≤y:=by rw[hy];exact Int.ediv_nonneg h0 (by omega)
 rw[u8_in hy0 hy8]at hq
 refine⟨by omega,by omega,?_⟩
 have e:n.toNat=k+b.toNat:=by omega
 rw[e,Nat.pow_add]
 have h3:y+1≤((2 ^ b.toNat:Nat):Int):=by omega
 have h4:x < (y+1) * 2 ^ k:=by
  rw[hy]
  exact Int.lt_ediv_add_one_mul_self x hp
 have h5:(y+1) * 2 ^ k≤((2 ^ b.toNat:Nat):Int) * 2 ^ k:=Int.mul_le_mul_of_nonneg_right h3 (by omega)
 have h6:((2 ^ b.toNat:Nat):Int) * 2 ^ k=((2 ^ k * 2 ^ b.toNat:Nat):Int):=by
  rw[Nat.mul_comm];simp
 omega
theorem i8:(2:Int) ^ 8=256:=by decide
theorem i16:(2:Int) ^ 16=65536:=by decide
theorem i24:(2:Int) ^ 24=16777216:=by decide
theorem sQ (x:Int) (h0:0≤x) (h1:x < 4294967296):Tg 117 [Ee x] (nN (fun n=>0≤n∧n≤32∧x.toNat < 2 ^ n.toNat)):=by
 refine ah (n:=19) (rs:=[.tmp 2]) Tryz.func117 afQ YF rfl rfl (by simp) ?_
 repeat' (conv=>whnf
          first
  |(refine aD (fun h=>?_) (fun h=>?_))
  |(refine Ik (N:=256) (B:=8) (by kernel_rfl) (by kernel_rfl) (Ql _).1 (Ql _).2 ?_;intro bb Dg hq)
  |(refine And.intro (by omega) ?_)
  |(refine iP rfl rfl ?_;(try simp only[sr8,alN]at *);first|exact tx (k:=0) (y:=x) (D:=1) (by decide) h0 (by omega) (by omega) (by omega) Dg hq (by simp (disch:=omega) only[aa];omega)|exact tx i8 h0 (by omega) rfl (by omega) Dg hq (by simp (disch:=omega) only[aa];omega)|exact tx i16 h0 (by omega) rfl (by omega) Dg hq (by simp (disch:=omega) only[aa];omega)|exact tx i24 h0 (by omega) (by omega) (by omega) Dg hq (by simp (disch:=omega) only[aa];omega)))
 all_goals (conv=>whnf)
theorem ki (x:Int) (h0:0 < x) (h1:x < 4294967296):Tg 250 [Ee x] (nN (fun n=>0≤n∧n≤31∧x.toNat < 2 ^ (32 - n.toNat))):=by
 refine ah (n:=6) (rs:=[.tmp 2]) Tryz.func250 abN WO rfl rfl (by simp) ?_
 repeat' (conv=>whnf
          first
  |(refine ai rfl (sQ x (by omega) h1) ?_;rintro _ ⟨n,rfl,H7,tA,hx⟩)
  |(refine iP rfl rfl ?_;rw[aa (by omega) (by omega)];refine⟨by omega,?_,?_⟩;(rcases Int.lt_or_le 0 n with h|h;omega;(have e:n.toNat=0:=by omega);rw[e]at hx;omega);rw[show 32 - (32 - n).toNat=n.toNat by omega];exact hx))
 all_goals (conv=>whnf)
end Go.aU.Cd
end
section
namespace Go.aU.Cd
open Go
def BC:Lz→Nat
 | []=>0
 |y::_=>lb y
def rt (s:Nat):Lz→Lz
 | []=>[]
 |x::r=>[tU (((lb x+4294967296 * BC r) / 2 ^ s % 4294967296:Nat):Int)]::rt s r
theorem FM (s:Nat): ∀xs,(rt s xs).length=xs.length
 | []=>rfl
 |_::r=>by simp[rt,FM s r]
theorem RX {xs:Lz} (h:Us xs):nv xs % 4294967296=BC xs:=by
 cases xs with
 |nil=>rfl
 |cons y r=>
  have:=(h y List.mem_cons_self).lt
  simp only[nv,BC]
  omega
theorem IK {x m P Q:Nat} (hP:0 < P) (hx:x < P * Q):(x+P * Q * (m % (P * Q))) / P % (P * Q)+P * Q * (m / P)=(x+P * Q * m) / P:=by
 have e1: ∀n,(x+P * Q * n) / P=x / P+Q * n:=fun n=>by rw[Nat.mul_assoc,Nat.add_mul_div_left _ _ hP]
 rw[e1,e1]
 have hm:=Nat.div_add_mod m P
 have h1:m % (P * Q) % P=m % P:=Nat.mod_mul_right_mod m P Q
 have qN:=Nat.div_add_mod (m % (P * Q)) P
 rw[h1]at qN
 have hlt:x / P < Q:=Nat.div_lt_of_lt_mul hx
 have ht:m % P < P:=Nat.mod_lt _ hP
 have e2:x / P+Q * (m % (P * Q))=(x / P+Q * (m % P))+P * Q * (m % (P * Q) / P):=by
  have:Q * (m % (P * Q))=Q * (P * (m % (P * Q) / P)+m % P):=by rw[qN]
  rw[this];grind
 have e3:x / P+Q * (m % P) < P * Q:=by
  have:Q * (m % P+1)≤Q * P:=Nat.mul_le_mul_left Q ht
  rw[Nat.mul_add,Nat.mul_one,Nat.mul_comm Q P]at this
  omega
 rw[e2,Nat.add_mul_mod_self_left,Nat.mod_eq_of_lt e3]
 have:Q * m=Q * (P * (m / P)+m % P):=by rw[hm]
 rw[this];grind
theorem nh {s:Nat} (h:s≤32):2 ^ s * 2 ^ (32 - s)=4294967296:=by
 rw[←Nat.pow_add,show s+(32 - s)=32 by omega]
theorem Kn {s:Nat} (hs:s≤32): ∀ {xs:Lz},Us xs→nv (rt s xs)=nv xs / 2 ^ s
 | [],_=>by simp[rt,nv]
 |x::r,h=>by
  have hr:Us r:=fun e he=>h e (List.mem_cons_of_mem _ he)
  have hx:=(h x List.mem_cons_self).lt
  have ih:=Kn hs hr
  have hB:=nh hs
  have:=IK (x:=lb x) (m:=nv r) (P:=2 ^ s) (Q:=2 ^ (32 - s)) (Nat.pow_pos (by omega)) (by rw[hB];exact hx)
  rw[hB,RX hr]at this
  simp only[rt,nv,jV,ih,Int.toNat_natCast]
  exact this
theorem FN {s:Nat}: ∀ {xs:Lz} {i:Nat} {x:List T},xs[i]? =some x→(rt s xs)[i]? =some [tU (((lb x+4294967296 * BC (xs.drop (i+1))) / 2 ^ s % 4294967296:Nat):Int)]
 | [],i,x,h=>by simp at h
 |y::r,0,x,h=>by
  simp only[List.getElem?_cons_zero,Option.some.injEq]at h
  subst h
  simp[rt]
 |y::r,i+1,x,h=>by
  simp only[List.getElem?_cons_succ]at h
  simp only[rt,List.getElem?_cons_succ,List.drop_succ_cons]
  exact FN h
theorem wc {α:Type} {zs ws:List α} {i:Nat} {e:α} (h:zs.take i=ws.take i) (hi:i < zs.length) (he:ws[i]? =some e):(zs.set i e).take (i+1)=ws.take (i+1):=by
 rw[ii he, ←h]
 have:(zs.set i e)[i]? =some e:=by simp[hi]
 rw[ii this]
 congr 1
 apply List.ext_getElem?
 intro n
 rw[List.getElem?_take,List.getElem?_take]
 split
 · rw[List.getElem?_set_ne (by omega)]
 · rfl
theorem Je {xs:Lz} {i:Nat} {y:Int} (h:xs[i]? =some [tU y]):BC (xs.drop i)=y.toNat:=by
 obtain⟨hlt,he⟩:=List.getElem?_eq_some_iff.1 h
 rw[List.drop_eq_getElem_cons hlt,he]
 rfl
theorem Jf {xs:Lz} {i:Nat} (h:xs.length≤i):BC (xs.drop i)=0:=by
 rw[List.drop_eq_nil_of_le h];rfl
theorem FZ {xs:Lz} {k:Nat} {x y:Int} (h:xs[k]? =some [tU x]):nv (xs.set k [tU y])+4294967296 ^ k * x.toNat=nv xs+4294967296 ^ k * y.toNat:=by
 have hlt:=(List.getElem?_eq_some_iff.1 h).1
 have h2:(xs.set k [tU y])[k]? =some [tU y]:=by simp[hlt]
 have e1:(xs.set k [tU y]).take k=xs.take k:=by
  apply List.ext_getElem?
  intro n
  rw[List.getElem?_take,List.getElem?_take]
  split
  · rw[List.getElem?_set_ne (by omega)]
  · rfl
 have e2:(xs.set k [tU y]).drop (k+1)=xs.drop (k+1):=by
  apply List.ext_getElem?
  intro n
  rw[List.getElem?_drop,List.getElem?_drop,List.getElem?_set_ne (by omega)]
 rw[Ak h,Ak h2,e1,e2]
 simp only[Nat.mul_add]
 omega
def Lf (xs:Lz) (s i:Nat) (zs:Lz):Prop:=
 zs.length=xs.length+1∧Us zs∧nv zs=nv (xs.take i) * 2 ^ s∧(∃z:Int,zs[i]? =some [tU z]∧0≤z∧z < ((2 ^ s:Nat):Int))∧ ∀j,i < j→j < zs.length→zs[j]? =some [tU 0]
theorem Lf.zero {xs:Lz} {s:Nat}:Lf xs s 0 (List.replicate (xs.length+1) [tU 0]):=by
 refine⟨by simp,Us.replicate _,by rw[yH];simp[nv],⟨0,by simp,by omega,?_⟩,fun j _ hj=>?_⟩
 · have:0 < 2 ^ s:=Nat.pow_pos (by omega)
   omega
 · simp only[List.length_replicate]at hj
   simp[List.getElem?_replicate,hj]
theorem pI {x s:Nat} (hs:s≤32):x * 2 ^ s % 4294967296=(x % 2 ^ (32 - s)) * 2 ^ s:=by
 rw[←nh hs,Nat.mul_comm x (2 ^ s),Nat.mul_mod_mul_left,Nat.mul_comm]
theorem xy {x s:Nat} (hx:x < 4294967296):x * 2 ^ s / 4294967296 < 2 ^ s:=by
 rw[Nat.div_lt_iff_lt_mul (by omega),Nat.mul_comm (2 ^ s)]
 exact Nat.mul_lt_mul_of_pos_right hx (Nat.pow_pos (by omega))
theorem Kq {x s:Nat} (hs:s≤32):x * 2 ^ s % 4294967296+2 ^ s≤4294967296:=by
 rw[pI hs]
 have h1:x % 2 ^ (32 - s)+1≤2 ^ (32 - s):=Nat.mod_lt _ (Nat.pow_pos (by omega))
 have h2:=Nat.mul_le_mul_right (2 ^ s) h1
 rw[Nat.add_mul,Nat.one_mul,Nat.mul_comm (2 ^ (32 - s)),nh hs]at h2
 exact h2
theorem N9 {X X' lo hi z w n0 n1 n2 a B:Nat} (hX:X'=X * B) (e3:lo+B * hi=z+w) (a1:n1+X * z=n0+X * lo) (a2:n2+X' * 0=n1+X' * hi) (h3:n0=a):n2=a+X * w:=by
 have e4:X * (lo+B * hi)=X * (z+w):=by rw[e3]
 rw[Nat.mul_add,Nat.mul_add, ←Nat.mul_assoc, ←hX]at e4
 omega
theorem Sd {x:Nat} {s:Nat} {z lo hi:Int} (hs:s≤31) (qL:x < 4294967296) (h5:0≤z) (h6:z < ((2 ^ s:Nat):Int)) (hlo:lo=z+((x * 2 ^ s % 4294967296:Nat):Int)) (hhi:hi=((x * 2 ^ s / 4294967296:Nat):Int)):
 (0≤lo∧lo < 4294967296)∧(0≤hi∧hi < ((2 ^ s:Nat):Int))∧hi < 4294967296∧lo.toNat+4294967296 * hi.toNat=z.toNat+x * 2 ^ s:=by
 have hB:2 ^ s≤2147483648:=Nat.pow_le_pow_right (n:=2) (by omega) hs
 have hh:=xy (x:=x) (s:=s) (by omega)
 have hlw:=Kq (x:=x) (s:=s) (by omega)
 have hdm:=Nat.mod_add_div (x * 2 ^ s) 4294967296
 generalize x * 2 ^ s=W at *
 generalize 2 ^ s=Q at *
 omega
theorem IX {xs:Lz} {i:Nat} {x:Int} (hx:xs[i]? =some [tU x]):nv (xs.take (i+1))=nv (xs.take i)+4294967296 ^ i * x.toNat:=by
 have H9:=(List.getElem?_eq_some_iff.1 hx).1
 rw[ii hx,yI]
 simp only[nv,jV,List.length_take,Nat.mul_zero,Nat.add_zero]
 rw[Nat.min_eq_left (by omega)]
theorem Sc {xs zs:Lz} {s i:Nat} {x z lo hi:Int} (hx:xs[i]? =some [tU x]) (hz:zs[i]? =some [tU z]) (B2:(zs.set i [tU lo])[i+1]? =some [tU 0]) (h3:nv zs=nv (xs.take i) * 2 ^ s) (e3:lo.toNat+4294967296 * hi.toNat=z.toNat+x.toNat * 2 ^ s):
 nv ((zs.set i [tU lo]).set (i+1) [tU hi])=nv (xs.take (i+1)) * 2 ^ s:=by
 have a1:=FZ (y:=lo) hz
 have a2:=FZ (y:=hi) B2
 rw[IX hx,Nat.add_mul,Nat.mul_assoc]
 exact N9 (B:=4294967296) (X':=4294967296 ^ (i+1)) (Nat.pow_succ ..) e3 a1 a2 h3
theorem Lf.next {xs zs:Lz} {s i:Nat} {x:Int} (h:Lf xs s i zs) (hs:s≤31) (hx:xs[i]? =some [tU x]) (hx0:0≤x) (qL:x < 4294967296) {z lo hi:Int} (hz:zs[i]? =some [tU z])
 (hlo:lo=z+((x.toNat * 2 ^ s % 4294967296:Nat):Int)) (hhi:hi=((x.toNat * 2 ^ s / 4294967296:Nat):Int)):Lf xs s (i+1) ((zs.set i [tU lo]).set (i+1) [tU hi]):=by
 obtain⟨h1,h2,h3,⟨z',h4,h5,h6⟩,h7⟩:=h
 rw[hz]at h4
 simp only[Option.some.injEq,List.cons.injEq,T.val.injEq,Value.int.injEq,true_and,and_true]at h4
 subst h4
 have H9:=(List.getElem?_eq_some_iff.1 hx).1
 have B2:(zs.set i [tU lo])[i+1]? =some [tU 0]:=by
  rw[List.getElem?_set_ne (by omega)]
  exact h7 (i+1) (by omega) (by omega)
 obtain⟨⟨c1,c2⟩,⟨c3,c4⟩,c5,e3⟩:=Sd hs (by omega) h5 h6 hlo hhi
 refine⟨by simp[h1],(h2.set c1 c2).set c3 c5,Sc hx hz B2 h3 e3,⟨hi,by rw[List.getElem?_set_self (by simp;omega)],c3,c4⟩,fun j hj hl=>?_⟩
 simp only[List.length_set]at hl
 rw[List.getElem?_set_ne (by omega),List.getElem?_set_ne (by omega)]
 exact h7 j (by omega) hl
theorem Lf.fin {xs zs:Lz} {s:Nat} (h:Lf xs s xs.length zs):zs.length=xs.length+1∧Us zs∧nv zs=nv xs * 2 ^ s:=by
 refine⟨h.1,h.2.1,?_⟩
 rw[h.2.2.1,List.take_length]
theorem NF {xs:Lz} (i k:Nat):4294967296 ^ i * dy xs i k≤nv xs:=by
 by_cases hi:i≤xs.length
 · rw[uy xs i]
   have:(xs.take i).length=i:=by simp;omega
   rw[this]
   have h2:=uy (xs.drop i) k
   have h3:dy xs i k≤nv (xs.drop i):=by unfold dy;omega
   have:=Nat.mul_le_mul_left (4294967296 ^ i) h3
   omega
 · unfold dy
   rw[List.drop_eq_nil_of_le (by omega)]
   simp[nv]
theorem Nr {us aZ_ bs:Lz} {s n i:Nat} (ha:Us aZ_) (hu:nv us=nv aZ_ * 2 ^ s) (hb: ∀e,bs.getLast? =some e→lb e≠0) (hn:bs.length=n) (tA:1≤n) (hi:i+n=aZ_.length+1) {V:Nat} (hV:V=nv bs * 2 ^ s):dy us i n < V:=by
 have h1:=xp ha
 have h2:=Aj hb (by intro e;subst e;simp at hn;omega)
 have h3:=NF (xs:=us) i n
 rw[hu]at h3
 have h4:nv aZ_ * 2 ^ s < 4294967296 ^ aZ_.length * 2 ^ s:=Nat.mul_lt_mul_of_pos_right h1 (Nat.pow_pos (by omega))
 have e:aZ_.length=i+(n - 1):=by omega
 rw[e,Nat.pow_add,Nat.mul_assoc]at h4
 have h5:=Nat.lt_of_mul_lt_mul_left (Nat.lt_of_le_of_lt h3 h4)
 rw[hV]
 refine Nat.lt_of_lt_of_le h5 (Nat.mul_le_mul_right _ ?_)
 rw[←hn];exact h2
theorem OP {bs:Lz} {s n:Nat} {x:Int} (hb:Us bs) (hn:bs.length=n) (tA:1≤n) (hx:bs[n - 1]? =some [tU x]) (hs:s≤32) (hxs:x.toNat < 2 ^ (32 - s)):nv bs * 2 ^ s < 4294967296 ^ n:=by
 have h1:=Ak hx
 rw[List.drop_eq_nil_of_le (by omega)]at h1
 simp only[nv,Nat.mul_zero,Nat.add_zero]at h1
 have h2:=xp (hb.take (n - 1))
 have e:(bs.take (n - 1)).length=n - 1:=by simp;omega
 rw[e]at h2
 have h3:nv bs < 4294967296 ^ (n - 1) * 2 ^ (32 - s):=by
  have:4294967296 ^ (n - 1) * (x.toNat+1)≤4294967296 ^ (n - 1) * 2 ^ (32 - s):=Nat.mul_le_mul_left _ hxs
  rw[Nat.mul_add,Nat.mul_one]at this
  omega
 have h4:=Nat.mul_lt_mul_of_pos_right h3 (Nat.pow_pos (n:=s) (show 0 < 2 by omega))
 rw[Nat.mul_assoc,Nat.mul_comm (2 ^ (32 - s)),nh hs]at h4
 have e2:4294967296 ^ n=4294967296 ^ (n - 1) * 4294967296:=by rw[←Nat.pow_succ];congr 1;omega
 rw[e2]
 exact h4
theorem IG {vs:Lz} {n:Nat} (h:nv vs < 4294967296 ^ n) (hl:n≤vs.length):dy vs 0 n=nv vs:=by
 have h1:=uy vs n
 have e:(vs.take n).length=n:=by simp;omega
 rw[e]at h1
 unfold dy
 rw[List.drop_zero]
 have:nv (vs.drop n)=0:=by
  apply Nat.eq_zero_of_not_pos
  intro hp
  have:4294967296 ^ n * 1≤4294967296 ^ n * nv (vs.drop n):=Nat.mul_le_mul_left _ hp
  omega
 rw[this]at h1
 simpa using h1.symm
theorem IT {us:Lz} {i n V:Nat} {x:Int} (hU:Us us) (hx:us[i]? =some [tU x]) (h:dy us (i+1) n < V):dy us i (n+1) < 4294967296 * V:=by
 rw[FJ hx]
 have h1:IsU [tU x]:=hU _ (List.mem_of_getElem? hx)
 have:=h1.lt
 rw[jV]at this
 have:=Nat.mul_le_mul_left 4294967296 (Nat.succ_le_of_lt h)
 rw[Nat.succ_eq_add_one,Nat.mul_add]at this
 omega
end Go.aU.Cd
end
section
namespace Go.aU
open Go
variable {P:Program} {M A:Nat→Prop} {ρ:Env} {F:Nat→Prop} {st:St} {a:Act} {w:World}
abbrev Eg:V:= .w (.one (.t iu))
theorem dY.refl (A:Nat→Prop) (w:World):dY A A w w:=⟨Nat.le_refl _,fun _ _ hn=>⟨rfl,hn⟩⟩
theorem dR.jn {tm:TS} {hp:HS} {ctr:Nat} (t sz:Nat) (h:find tm t=some Eg):dR tm hp ctr ((t, .w (.one (.own ctr sz 0 0)))::tm) ((ctr, .row sz [])::hp) (ctr+4):=by
 intro M A ρ n a w hr
 have hfr:ρ ctr=none:=hr.fresh ctr (Nat.le_refl _)
 have cI:cW ρ (dg ρ ctr .jn):=cW.jM hfr
 have hne: ∀ {id:Nat},id≠ctr→dg ρ ctr .jn id=ρ id:=fun bN=>by simp[dg,bN]
 refine⟨A,dg ρ ctr .jn,⟨hr.size,hr.defers,fun u v hv=>?_,fun id blk hb=>?_,fun id id' blk fz b h1 h2 r1 r2=>?_,fun id bN=>?_,hr.bound,hr.may,hr.dW⟩,cI.Kf,fP.refl M A w⟩
 · simp only[av]at hv
   split at hv
   · rename_i e
     subst e
     simp only[Option.some.injEq]at hv
     subst hv
     have hx:RW w A ρ (.one (.t iu)) (a.tmps.getD t undef):=hr.tmps t _ h
     obtain⟨h1,h2⟩:=hx
     have Ie:RT w A iu (a.tmps.getD t undef):=h1
     generalize a.tmps.getD t undef=x at Ie h2
     cases Ie
     exact⟨.inr ⟨by simp[dg],rfl,rfl,rfl⟩,rfl⟩
   · exact(hr.tmps u v hv).keeps (dY.refl _ _) (fun _ _=>rfl) cI
 · simp only[av]at hb
   split at hb
   · rename_i e
     subst e
     simp only[Option.some.injEq]at hb
     subst hb
     exact⟨by simp, .inr ⟨by simp[dg],rfl⟩⟩
   · exact(hr.heap id blk hb).keeps (dY.refl _ _) (fun _ _=>rfl) cI (fun _ h=>h) (fun _ _=>rfl)
 · simp only[av]at h1 h2
   have n1:id≠ctr:=by intro e;subst e;simp[dg]at r1
   have n2:id'≠ctr:=by intro e;subst e;simp[dg]at r2
   rw[if_neg (fun e=>n1 e.symm)]at h1
   rw[if_neg (fun e=>n2 e.symm)]at h2
   rw[hne n1]at r1
   rw[hne n2]at r2
   exact hr.inj id id' blk fz b h1 h2 r1 r2
 · simp only[bC]at bN
   rw[hne (by omega)]
   exact hr.fresh id (by simp only[bC];omega)
theorem dR.aA {tm:TS} {hp:HS} {ctr:Nat} (t sz:Nat) (h:find tm t=some Eg):dR tm hp ctr ((t, .w (.one (.t (.aA sz []))))::tm) hp ctr:=by
 intro M A ρ n a w hr
 refine⟨A,ρ,⟨hr.size,hr.defers,fun u v hv=>?_,hr.heap,hr.inj,hr.fresh,hr.bound,hr.may,hr.dW⟩,iO.refl _,fP.refl M A w⟩
 simp only[av]at hv
 split at hv
 · rename_i e
   subst e
   simp only[Option.some.injEq]at hv
   subst hv
   exact(zP.one (.nil sz)).rw (hr.tmps t _ h)
 · exact hr.tmps u v hv
theorem zW {α:Type} {l:List α} {k i:Nat} {e:α} (h:(l.take k)[i]? =some e):l[i]? =some e:=by
 rw[List.getElem?_take]at h
 split at h
 · exact h
 · simp at h
theorem eN {n:Nat} {b:Rc} {Q:Exit→TS→HS→Nat→Prop} {tm sH:TS} {hp yT:HS} {ctr c0:Nat} (keys:List Nat) (nest:List (Nat×Nat)) (ks:List Nat) (L:List (Nat×Nat)) (R:Nat→List V→List (Lz)→Prop) (m0:Nat) (xY:List V) {ia:List (Lz)} {lc:TS} {oZ:HS} {cB:Nat}
 (hW:dR tm hp ctr sH yT c0)
 (hB:AQ (vM keys nest sH yT) fun S=>pO (S.tm sH) fun t=>qT (S.hp yT) fun q=>S.ok=true∧t=lc∧q=oZ∧S.ctr=cB)
 (DG:lc.length=keys.length) (h0:lc=j6 ks xY lc) (hH:mZ L oZ ia) (Jj:R m0 xY ia)
 (hstep: ∀m vs xss,R m vs xss→pO (j6 ks vs lc) fun ny=>qT (R9 L xss) fun hq=>X P n b (gZ (bQ fun bh aH c'=> ∃m' vs' xss',mZ L aH xss'∧R m' vs' xss'∧bh=j6 ks vs' lc∧c'=cB∧m' < m) Q) ny hq cB):
 ∃I:Nat→TS→HS→Nat→Prop,bQ (fun tm hp c=> ∃m,I m tm hp c) tm hp ctr∧
  ∀m tm hp c,I m tm hp c→X P n b (gZ (bQ fun tm hp c=> ∃m',m' < m∧I m' tm hp c) Q) tm hp c:=by
 rw[nn,fS,iD]at hB
 obtain⟨hS,e1,e2,e3⟩:=hB
 refine⟨fun m bh aH c'=> ∃vs' xss',mZ L aH xss'∧R m vs' xss'∧bh=j6 ks vs' lc∧c'=cB, .sem hW (.mk' ⟨vM keys nest sH yT,hS,m0,xY,ia,by rw[e2];exact hH,Jj,e1.trans h0,e3⟩),?_⟩
 rintro m bh hq c' ⟨vs,xss,hH',hR,rfl,rfl⟩
 have:=hstep m vs xss hR
 rw[fS,iD, ←hH'.eq]at this
 refine(congrArg (fun J=>X P n b (gZ (bQ J) Q) _ _ _) ?_).mp this
 funext bh aH c''
 exact propext ⟨fun⟨m',vs',xss',h1,h2,h3,h4,h5⟩=>⟨m',h5,vs',xss',h1,h2,h3,h4⟩,fun⟨m',h5,vs',xss',h1,h2,h3,h4⟩=>⟨m',vs',xss',h1,h2,h3,h4,h5⟩⟩
theorem Rel.shrink {A A':Nat→Prop} {hp:HS} (h:Rel M A' ρ F st a w) (hA: ∀b,A b→A' b) (hsub: ∀id b,find hp id=some b→find st.heap id=some b) (hb: ∀id blk b,find hp id=some blk→ρ id=some (.fN b)→A b):Rel M A ρ F ⟨st.n,st.tmps,hp⟩ a w:=by
 have hk:dY A' A w w:=⟨Nat.le_refl _,fun b _ hn=>⟨rfl,fun h=>hn (hA b h)⟩⟩
 refine⟨h.size,h.defers,fun t v hv=>(h.tmps t v hv).keeps hk (fun _ _=>rfl) (cW.refl _),fun id blk hf=>?_,fun id id' blk fz b h1 h2=>h.inj id id' blk fz b (hsub _ _ h1) (hsub _ _ h2),h.fresh,fun b hb=>h.bound b (hA b hb),h.may,h.dW.sub (fun _ _ h=>h) hA⟩
 have hh:=h.heap id blk (hsub _ _ hf)
 cases blk with
 |row sz xs=>
  obtain⟨h1,h2⟩:=hh
  refine⟨h1,?_⟩
  rcases h2 with⟨b,c,e,k1,k2,k3,k4,k5,k6⟩|h2
  · refine .inl ⟨b,c,e,k1,k2,hb id _ b hf k1,k4,k5,fun i el j k hi hj=>?_⟩
    obtain⟨x,hx,hc,hcell⟩:=k6 i el j k hi hj
    exact⟨x,hx,hc.keeps hk (fun _ _=>rfl) (cW.refl _),hcell⟩
  · exact .inr h2
 |mp es clock=>
  obtain⟨b,en,k1,k2,k3,k4,k5,k6⟩:=hh
  refine⟨b,en,k1,k2,hb id _ b hf k1,k4,k5,fun i k c n hi=>?_⟩
  obtain⟨e,h1,h2,h3,h4,h5⟩:=k6 i k c n hi
  exact⟨e,h1,h2,h3,h4.keeps hk (fun _ _=>rfl) (cW.refl _),h5⟩
theorem Cb {id:Nat} {blk:bD} {b:Nat} (h:HB w M A ρ id blk) (hρ:ρ id=some (Loc.fN b)):A b∧b < w.heap.size:=by
 cases blk with
 |row sz xs=>
  obtain⟨_,h2⟩:=h
  rcases h2 with⟨b',c,e,k1,k2,k3,k4,_⟩|⟨h2,_⟩
  · rw[hρ]at k1
    simp only[Option.some.injEq,Loc.fN.injEq]at k1
    subst k1
    refine⟨k3,?_⟩
    rcases Nat.lt_or_ge b w.heap.size with h|h
    · exact h
    · rw[Array.getElem?_eq_none h]at k4;simp at k4
  · rw[hρ]at h2;simp at h2
 |mp es clock=>
  obtain⟨b',en,k1,k2,k3,k4,_⟩:=h
  rw[hρ]at k1
  simp only[Option.some.injEq,Loc.fN.injEq]at k1
  subst k1
  refine⟨k3,?_⟩
  rcases Nat.lt_or_ge b w.heap.size with h|h
  · exact h
  · rw[Array.getElem?_eq_none h]at k4;simp at k4
set_option maxHeartbeats 1000000 in
theorem IJ {t len n ctr ty sz:Nat} {ps:Array (Nat×Operand)} {l:List (Nat×W)} {tm:TS} {hp:HS} {xs:Lz} (hl:fW (St.get ⟨n,tm,hp⟩) ps.toList=some l)
 (he:dr P t len l ctr=some (.w (.one (.own ctr sz 0 len)),(ctr, .row sz (tr xs)))) (hlen:xs.length=len):jD P n (.buildSlice t len ps) ty tm hp ctr (.w (.one (.t (.aA sz xs)))) hp:=by
 rintro⟨dst',op',ty',pos',after',guard'⟩ rfl rfl
 intro M A ρ a w hr
 have hn:bC ctr ctr:=Nat.le_refl _
 have aH:HC w A ρ l (ps.map fun p=>(p.1,a.eval p.2)).toList:=by simpa using iZ hr hl
 unfold dr at he
 split at he
 · rename_i e hu
   split at he
   · rename_i z hz
     split at he
     · rename_i hc
       simp only[Option.map_eq_some_iff,Prod.mk.injEq,V.w.injEq,W.one.injEq,C.own.injEq,bD.row.injEq,true_and,and_true]at he
       obtain⟨ys,hxs,rfl,_,rfl⟩:=he
       obtain⟨i,zv,hi,Gj,hzs,I8,uO⟩:=eV hz w A ρ
       obtain⟨vs,hvs,hE⟩:=mS hxs (mh uO len) aH
       have SR:=qV hxs
       simp only[List.length_replicate]at SR
       have hle:(tr xs).length * z.length≤vs.size:=by rw[hE.2.1];exact Nat.le_refl _
       obtain⟨h1,h2⟩:=hr.alloc hn (sz:=z.length) (xs:=tr xs) (c:=vs) (e:=e) hE.1 hle hE.2.2
       have hold: ∀id blk b,find hp id=some blk→dg ρ ctr (.fN w.heap.size) id=some (.fN b)→A b:=by
        intro id blk b hf hρ
        have hh:=hr.heap id blk hf
        by_cases bN:id=ctr
        · subst bN
          exfalso
          have hfr:=hr.fresh id hn
          cases blk with
          |row sz xs=>
           rcases hh.2 with⟨b',_,_,k1,_⟩|⟨k1,_⟩
           · rw[hfr]at k1;simp at k1
           · rw[hfr]at k1;simp at k1
          |mp es clock=>
           obtain⟨b',en,k1,_⟩:=hh
           rw[hfr]at k1;simp at k1
        · have:ρ id=some (.fN b):=by simpa[dg,bN]using hρ
          exact(Cb hh this).1
       have cH:Rel M A (dg ρ ctr (.fN w.heap.size)) (bC (ctr+4)) ⟨n,tm,hp⟩ a (w.alloc (.cells vs e)):=by
        refine Rel.sub (Rel.shrink h1 (A:=A) (hp:=hp) (fun b hb=> .inl hb) (fun id b hf=>?_) hold) (fun id bN=>⟨by simp only[bC]at bN⊢;omega,by simp only[bC]at bN;omega⟩)
        simp only[av]
        split
        · rename_i e1
          subst e1
          exfalso
          have hh:=hr.heap ctr b hf
          have hfr:=hr.fresh ctr hn
          cases b with
          |row sz xs=>
           rcases hh.2 with⟨b',_,_,k1,_⟩|⟨k1,_⟩
           · rw[hfr]at k1;simp at k1
           · rw[hfr]at k1;simp at k1
          |mp es clock=>
           obtain⟨b',en,k1,_⟩:=hh
           rw[hfr]at k1;simp at k1
        · exact hf
       have tA:¬ (len * i.size > 2 ^ 24):=by rw[I8];have:=hc.1;omega
       have hsize:(sizeOf e).run P w= .ok i.size w:=by simp[sizeOf,typeInfo,hi]
       rw[←I8]at hvs
       have hrun:(Instr.buildSlice t len (ps.map fun p=>(p.1,a.eval p.2))).run P w= .ok (.slice (some ⟨w.heap.size,0,none⟩) len len) (w.alloc (.cells vs e)):=by
        generalize (ps.map fun p=>(p.1,a.eval p.2))=qs at hvs
        simp only[Instr.buildSlice,Sem.run_bind,run_underlying hu,Result.andThen_ok,hsize,tA,if_false]
        by_cases h0:len * i.size=0
        · rw[h0,uk,Array.map_empty]at hvs
          simp[h0,uk,hvs,newRow]
        · simp[h0,dL hi Gj,hvs,newRow]
       have hnew:(w.alloc (.cells vs e)).heap[w.heap.size]? =some (.cells vs e (0,0)):=heap_alloc_new w _
       have hkA:dY A A w (w.alloc (.cells vs e)):=⟨by simp,fun b hlt hn=>⟨RowKit.Below.heap_alloc w _ b hlt,hn⟩⟩
       have hval:RV (w.alloc (.cells vs e)) A (dg ρ ctr (.fN w.heap.size)) (.w (.one (.t (.aA z.length xs)))) (.slice (some ⟨w.heap.size,0,none⟩) len len):=by
        refine⟨RT.aA (fun i j=>vs.getD (i * z.length+j) undef) hlen.symm (Nat.le_refl _) (by simp) (fun hb=>by have:=hr.bound _ hb;omega) (fun el hel=>?_) (fun i el j c hi hj=>?_) (fun i el j c hi hj=>?_),rfl⟩
        · have:=hE.1 (el.map .t) (by simp only[tr,List.mem_map];exact⟨el,hel,rfl⟩)
          simpa using this
        · obtain⟨x,hx,_,_⟩:=hE.2.2 i (el.map .t) j (.t c) (by simp[tr,hi]) (by simp[hj])
          simp only[World.cell?,hnew,Option.isSome_none,Bool.false_eq_true,if_false,Nat.zero_add,hx,Array.getD_eq_getD_getElem?,Option.getD_some]
        · obtain⟨x,hx,hrc,_⟩:=hE.2.2 i (el.map .t) j (.t c) (by simp[tr,hi]) (by simp[hj])
          simp only[Array.getD_eq_getD_getElem?,hx,Option.getD_some]
          have anU:RT w A c x:=hrc
          exact anU.keeps hkA
       exact nM.of (s:=Instr.buildSlice t len (ps.map fun p=>(p.1,a.eval p.2))) (by
        show(Bind.bind (Instr.buildSlice t len (ps.map fun p=>(p.1,a.eval p.2))) fun v=>Pure.pure (Next.value v)).run P w=_
        rw[Sem.run_bind]
        simp only[Sem.run_pure]) hrun cH hval (df.alloc M w _) h2 (bJ.refl A w)
     · simp at he
   · simp at he
 · simp at he
end Go.aU
end
section
namespace Go.aU.Cd
open Go Go.Proofs
set_option maxRecDepth 100000
def avC:Rc:=Sq (Rg [Mn 4]) (Sq (Rg [Mv 9 0,Le 10 9,Bi 11 .add 10 1,p 12 (.make [.t (.val (.int .u32 0))] 4 (t 11) (t 11)),Mv 5 12]) (Sq (Sq (Rg [Mv 13 0,Le 14 13,Mk 15 0]) (Bk 0 (Lp (Sq (Rg [Bt 16 .lss 15 14]) (Sq (Cn 16 Sk (Ex 0)) (Sq (Bk 1 (Sq (Rg [Mv 17 15,Ia 18 1 13 15,Ld 19 18,Mv 6 17,Mv 7 19]) (Sq (Rg [Mv 20 7,p 21 (.conv .u64 (t 20)),Mv 22 1,Bt 23 .shl 21 22,Mv 8 23]) (Sq (Rg [Mv 24 5,Mv 25 6,Ia 26 1 24 25,Ld 27 26,Mv 28 8,p 29 (.conv .u32 (t 28)),Bt 30 .or 27 29,Ia 31 1 24 25,So 1 31 30]) (Rg [Mv 32 5,Mv 33 6,Bi 34 .add 33 1,Mv 35 8,p 36 (.bin .shr (t 35) (.c (.w (.one (.t (.val (.int .u64 32))))))),p 37 (.conv .u32 (t 36)),Ia 38 1 32 34,So 1 38 37]))))) (Rg [Bi 39 .add 15 1,Mv 15 39]))))))) (Sq (Rg [Mv 40 5,Mv 4 40]) Rt)))
theorem WN:ae Tryz.prog (Tryz.f251.body.getD .skip)=some avC:=by kernel_rfl
theorem abM:Tryz.f251.body=some (Tryz.f251.body.getD .skip):=rfl
def avA:Rc:=Sq (Rg [Mn 4]) (Sq (Rg [Mv 9 0,Le 10 9,p 11 (.make [.t (.val (.int .u32 0))] 4 (t 10) (t 10)),Mv 5 11]) (Sq (Sq (Rg [Mv 12 0,Le 13 12,Mk 14 0]) (Bk 0 (Lp (Sq (Rg [Bt 15 .lss 14 13]) (Sq (Cn 15 Sk (Ex 0)) (Sq (Bk 1 (Sq (Rg [Mv 16 14,Ia 17 1 12 14,Ld 18 17,Mv 6 16,Mv 7 18]) (Sq (Rg [Mv 19 7,p 20 (.conv .u64 (t 19)),Mv 8 20]) (Sq (Sq (Rg [Mv 21 6,Bi 22 .add 21 1,Mv 23 0,Le 24 23,Bt 25 .lss 22 24]) (Cn 25 (Rg [Mv 26 8,Mv 27 0,Mv 28 6,Bi 29 .add 28 1,Ia 30 1 27 29,Ld 31 30,p 32 (.conv .u64 (t 31)),p 33 (.bin .shl (t 32) (.c (.w (.one (.t (.val (.int .u64 32))))))),Bt 34 .or 26 33,Mv 8 34]) Sk)) (Rg [Mv 35 5,Mv 36 6,Mv 37 8,Mv 38 1,Bt 39 .shr 37 38,p 40 (.conv .u32 (t 39)),Ia 41 1 35 36,So 1 41 40]))))) (Rg [Bi 42 .add 14 1,Mv 14 42]))))))) (Sq (Rg [Mv 43 5,p 44 (.call 239 [t 43]),Mv 4 44]) Rt)))
theorem WL:ae Tryz.prog (Tryz.f253.body.getD .skip)=some avA:=by kernel_rfl
theorem abK:Tryz.f253.body=some (Tryz.f253.body.getD .skip):=rfl
theorem alT (a:Int) (s:Nat) (h0:0≤a) (h1:a < 4294967296) (hs:s≤31):IntKind.u64.wrap (a * 2 ^ (min ((s:Int)).toNat IntKind.u64.bits))=((a.toNat * 2 ^ s:Nat):Int):=by
 rw[FF a s (by omega)]
 have hB:2 ^ s≤2147483648:=Nat.pow_le_pow_right (n:=2) (by omega) hs
 have h2:a.toNat * 2 ^ s≤4294967295 * 2147483648:=Nat.mul_le_mul (by omega) hB
 have e:a * ((2 ^ s:Nat):Int)=((a.toNat * 2 ^ s:Nat):Int):=by
  rw[Int.natCast_mul];congr 1;omega
 rw[e]
 omega
theorem NV {z:Int} {b k:Nat} (hz0:0≤z) (hz:z < ((2 ^ k:Nat):Int)) (hb:b * 2 ^ k < 4294967296) (hk:2 ^ k≤4294967296):
 IntKind.u32.wrap ((BitVec.ofInt IntKind.u32.bits z|||BitVec.ofInt IntKind.u32.bits ((b * 2 ^ k:Nat):Int)).toNat:Int)=IntKind.u32.wrap (z+((b * 2 ^ k:Nat):Int)):=by
 have e: ∀x:Int,0≤x→x < 4294967296→(BitVec.ofInt IntKind.u32.bits x).toNat=x.toNat:=by
  intro x h0 h1
  simp only[BitVec.toNat_ofInt,IntKind.bits]
  congr 1
  omega
 rw[BitVec.toNat_or,e _ hz0 (by omega),e _ (by omega) (by omega)]
 have:=FX (a:=z.toNat) (b:=b) k (by omega)
 rw[Int.toNat_natCast,this]
 congr 1
 omega
def DI (xs:Lz) (s:Nat) (m:Nat) (vs:List V) (xss:List (Lz)):Prop:= ∃ (i:Nat) (zs:Lz),i≤xs.length∧m=xs.length - i∧vs=[iV .i64 (i:Int)]∧xss=[zs]∧Lf xs s i zs
theorem DI.next {xs zs:Lz} {s i:Nat} {x z:Int} (h:Lf xs s i zs) (hs:s≤31) (hl:xs.length≤1000000) (hi:i < xs.length) (hx:xs[((i:Int)).toNat]? =some [tU x]) (hx0:0≤x) (qL:x < 4294967296) (hz:zs[0+((i:Int)).toNat]? =some [tU z]):
 DI xs s (xs.length - (i+1)) [iV .i64 (IntKind.i64.wrap ((i:Int)+1))]
  [(zs.set (0+((i:Int)).toNat) [tU (IntKind.u32.wrap ((BitVec.ofInt IntKind.u32.bits z|||BitVec.ofInt IntKind.u32.bits (IntKind.u32.wrap (IntKind.u64.wrap (IntKind.u64.wrap x * 2 ^ (min ((s:Int)).toNat IntKind.u64.bits))))).toNat:Int))]).set (0+(IntKind.i64.wrap ((i:Int)+1)).toNat)
    [tU (IntKind.u32.wrap ((IntKind.u64.wrap (IntKind.u64.wrap x * 2 ^ (min ((s:Int)).toNat IntKind.u64.bits))).fdiv (2 ^ (min (32:Int).toNat IntKind.u64.bits))))]]:=by
 have e0:((i:Int)).toNat=i:=by omega
 have e1:IntKind.i64.wrap ((i:Int)+1)=((i+1:Nat):Int):=by rw[bt (by omega) (by omega)];rfl
 rw[e0]at hx
 rw[e0,Nat.zero_add]at hz
 rw[u64_in (n:=x) hx0 (by omega),alT x s hx0 qL hs,e1,e0,Nat.zero_add,Int.toNat_natCast,Nat.zero_add,C2]
 refine⟨i+1,_,by omega,rfl,rfl,rfl,h.next hs hx hx0 qL hz ?_ ?_⟩
 · have hh:=h
   obtain⟨_,_,_,⟨z',h4,h5,h6⟩,_⟩:=hh
   rw[hz]at h4
   simp only[Option.some.injEq,List.cons.injEq,T.val.injEq,Value.int.injEq,true_and,and_true]at h4
   subst h4
   have hB:2 ^ s≤2147483648:=Nat.pow_le_pow_right (n:=2) (by omega) hs
   have e2:IntKind.u32.wrap ((x.toNat * 2 ^ s:Nat):Int)=((x.toNat * 2 ^ s % 4294967296:Nat):Int):=by
    rw[kX];omega
   have hlw:=Kq (x:=x.toNat) (s:=s) (by omega)
   rw[e2,pI (by omega),NV h5 h6 (by rw[←pI (by omega)];omega) (by omega),u32_in (by omega) (by rw[←pI (by omega)];omega)]
 · have:=xy (x:=x.toNat) (s:=s) (by omega)
   have hB:2 ^ s≤2147483648:=Nat.pow_le_pow_right (n:=2) (by omega) hs
   rw[u32_in (by omega) (by omega)]
   omega
theorem IY {xs zs:Lz} {s i:Nat} (h:Lf xs s i zs) (e:i=xs.length):zs.length=xs.length+1∧Us zs∧nv zs=nv xs * 2 ^ s:=by subst e;exact h.fin
theorem yM (xs:Lz) (s:Nat) (hx:Us xs) (hl:xs.length≤400000) (hs:s≤31): ∃ts hout,zQ Tryz.prog 251 [oL 1 xs,oI s] (aT ts) hout∧GN 1 (fun ys=>ys.length=xs.length+1∧Us ys∧nv ys=nv xs * 2 ^ s) ts hout:=by
 refine vg (n:=41) (rs:=[.tmp 4]) Tryz.func251 abM WN rfl rfl (by simp) ?_
 repeat' (conv=>whnf
          first
  |(refine aD (fun h=>?_) (fun h=>?_))
  |(refine aC hx (by omega) (by omega) ?_;rintro _ ⟨x,rfl,hx0,qL⟩ hs1)
  |(refine And.intro ⟨(by first|omega|(simp (disch:=omega) only[aa];omega)),(by first|omega|(simp (disch:=omega) only[aa];omega)),(by first|omega|(simp (disch:=omega) only[aa];omega)),(by first|omega|(simp (disch:=omega) only[aa];omega))⟩ ?_)
  |(refine And.intro (show(0:Int)≤(s:Int) by omega) ?_)
  |(refine And.intro ⟨(by first|omega|(simp (disch:=omega) only[aa];omega)),(by first|omega|(simp (disch:=omega) only[aa];omega))⟩ ?_)
  |(refine And.intro (by omega) ?_)
  |(refine cj (xs:=zs) rfl hf.2.1 (by have:=hf.1;omega) ?_;rintro _ ⟨z,rfl,hz0,uM⟩ cg)
  |(refine cj (xs:=zs.set _ [tU _]) (aF.set rfl _ [tU _]) (hf.2.1.set (dZ _) (eX _)) (by have:=hf.1;simp (disch:=omega) only[List.length_set,aa];omega) ?_;rintro _ ⟨z3,rfl,_,_⟩ _)
  |exact gN rfl rfl rfl (xs:=zs) rfl (by have:=hf.1;simp (disch:=omega) only[aa];omega) (IY hf (by omega))
  |(apply bH [1,5,13,14,15] [] [15] [(4,1)] (DI xs s) (xs.length) [iV .i64 0];(conv=>whnf);exact⟨rfl,rfl,rfl,rfl⟩;exact rfl;exact rfl;exact .cons (aF.az (aF.replicate _ [tU 0]) _) .nil;exact⟨0,_,by omega,rfl,rfl,rfl,by rw[bt (by omega) (by omega),show((xs.length:Int)+1).toNat=xs.length+1 by omega];exact Lf.zero⟩;rintro _ _ _ ⟨i,zs,hi,rfl,rfl,rfl,hf⟩)
  |(refine au [1,5,13,14,15] [] ?_;(conv=>whnf);exact⟨rfl,_,[_],_, .cons (aF.az (aF.set (aF.set (xs:=zs) rfl _ [tU _]) _ [tU _]) _) .nil,DI.next hf hs (by omega) (by omega) hs1 hx0 qL (by assumption),rfl,rfl,by omega⟩))
 all_goals (conv=>whnf)
theorem RK {a b:Int} (ha0:0≤a) (ha:a < 4294967296) (hb0:0≤b) (hb:b < 4294967296):
 IntKind.u64.wrap ((BitVec.ofInt IntKind.u64.bits a|||BitVec.ofInt IntKind.u64.bits (b * 4294967296)).toNat:Int)=b * 4294967296+a:=by
 rw[←NX ha0 ha hb0 hb]
 rw[BitVec.toNat_or,BitVec.toNat_or,Nat.or_comm]
theorem w8 {W:Int} {N s:Nat} (hs:s≤31) (hW:W=(N:Int)):IntKind.u32.wrap (W.fdiv (2 ^ (min ((s:Int)).toNat IntKind.u64.bits)))=((N / 2 ^ s % 4294967296:Nat):Int):=by
 rw[qz _ s (by omega),kX,hW]
 have e1:(N:Int) / ((2 ^ s:Nat):Int)=((N / 2 ^ s:Nat):Int):=rfl
 rw[e1]
 omega
theorem D2 {x y:Int} {s:Nat} (hx0:0≤x) (qL:x < 4294967296) (hy0:0≤y) (qK:y < 4294967296) (hs:s≤31):
 IntKind.u32.wrap ((IntKind.u64.wrap ((BitVec.ofInt IntKind.u64.bits (IntKind.u64.wrap x)|||BitVec.ofInt IntKind.u64.bits (IntKind.u64.wrap (IntKind.u64.wrap y * 2 ^ (min (32:Int).toNat IntKind.u64.bits)))).toNat:Int)).fdiv (2 ^ (min ((s:Int)).toNat IntKind.u64.bits)))=(((x.toNat+4294967296 * y.toNat) / 2 ^ s % 4294967296:Nat):Int):=by
 apply w8 hs
 rw[u64_in hx0 (by omega),u64_in hy0 (by omega),FG,Int.emod_eq_of_lt (by omega) (by omega),RK hx0 qL hy0 qK]
 omega
def vS (us:Lz) (n s:Nat) (m:Nat) (vs:List V) (xss:List (Lz)):Prop:= ∃ (i:Nat) (zs:Lz),i≤n∧m=n - i∧vs=[iV .i64 (i:Int)]∧xss=[us,zs]∧zs.length=n∧Us zs∧zs.take i=(rt s (us.take n)).take i
theorem Fy {us:Lz} {n i:Nat} (h:i < n):(us.take n)[i]? =us[i]? :=by rw[List.getElem?_take,if_pos h]
theorem vS.next {us zs:Lz} {n s i:Nat} {x y v:Int} (hn:n≤us.length) (hl:us.length≤1000000) (hz:zs.length=n) (hU:Us zs) (ht:zs.take i=(rt s (us.take n)).take i) (hi:i < n) (hx:us[0+((i:Int)).toNat]? =some [tU x])
 (hy:BC ((us.take n).drop (i+1))=y.toNat) (hv:v=(((x.toNat+4294967296 * y.toNat) / 2 ^ s % 4294967296:Nat):Int)):
 vS us n s (n - (i+1)) [iV .i64 (IntKind.i64.wrap ((i:Int)+1))] [us,zs.set (0+((i:Int)).toNat) [tU v]]:=by
 have e0:0+((i:Int)).toNat=i:=by omega
 rw[e0]at hx⊢
 rw[←Fy hi]at hx
 refine⟨i+1,_,by omega,rfl,by rw[bt (by omega) (by omega)];rfl,rfl,by simp[hz],hU.set (by omega) (by omega),?_⟩
 refine wc ht (by omega) ?_
 rw[FN hx,jV,hy,hv]
theorem FQ {us:Lz} {n i:Nat} {y:Int} (EB:(i:Int) < n) (hi:IntKind.i64.wrap ((i:Int)+1) < (n:Int)) (h:us[0+(IntKind.i64.wrap ((i:Int)+1)).toNat]? =some [tU y]) (hl:n≤1000000):BC ((us.take n).drop (i+1))=y.toNat:=by
 have e0:0+(IntKind.i64.wrap ((i:Int)+1)).toNat=i+1:=by rw[bt (by omega) (by omega)];omega
 rw[bt (by omega) (by omega)]at hi
 rw[e0, ←Fy (n:=n) (i:=i+1) (by omega)]at h
 exact Je h
theorem D3 {us zs:Lz} {n s i k:Nat} (hs:s≤31) (hU:Us us) (hn:n≤us.length) (hz:zs.length=n) (ht:zs.take i=(rt s (us.take n)).take i) (hi:n≤i) (hT:Bm zs (zs.take k)):Nm n (zs.take k)∧nv (zs.take k)=dy us 0 n / 2 ^ s:=by
 refine⟨hT.nm (by omega),?_⟩
 rw[hT.2.2.1]
 have e:zs=rt s (us.take n):=by
  rw[List.take_of_length_le (by omega),List.take_of_length_le (by rw[FM];simp;omega)]at ht
  exact ht
 rw[e,Kn (by omega) (hU.take n)]
 simp[dy]
theorem wy (us:Lz) (n s:Nat) (hx:Us us) (hn:n≤us.length) (hl:us.length≤400001) (hs:s≤31): ∃ts hout,Fn Tryz.prog 253 [.one (.own 0 1 0 n),oI s] [(0, .row 1 (tr us))] (aT ts) hout∧GRd 1 us (fun ts=> ∃ys,ts=[oL 1 ys]∧Nm n ys∧nv ys=dy us 0 n / 2 ^ s) ts hout:=by
 refine gP (n:=45) (rs:=[.tmp 4]) Tryz.func253 abK WL rfl rfl (by simp) ?_
 repeat' (conv=>whnf
          first
  |(refine aD (fun h=>?_) (fun h=>?_))
  |(refine And.intro ⟨(by first|omega|(simp (disch:=omega) only[aa];omega)),(by first|omega|(simp (disch:=omega) only[aa];omega)),(by first|omega|(simp (disch:=omega) only[aa];omega)),(by first|omega|(simp (disch:=omega) only[aa];omega))⟩ ?_)
  |(refine And.intro (show(0:Int)≤(s:Int) by omega) ?_)
  |(refine And.intro ⟨(by first|omega|(simp (disch:=omega) only[aa];omega)),(by first|omega|(simp (disch:=omega) only[aa];omega))⟩ ?_)
  |(refine And.intro (by omega) ?_)
  |(refine cj (xs:=us) (i:=0+((i:Int)).toNat) rfl hx (by omega) ?_;rintro _ ⟨x,rfl,hx0,qL⟩ hs1)
  |(refine cj (xs:=us) rfl hx (by first|omega|(simp (disch:=omega) only[aa];omega)) ?_;rintro _ ⟨y,rfl,hy0,qK⟩ cg)
  |(refine cj (xs:=zs) rfl hU (by omega) ?_;rintro _ ⟨z,rfl,hz0,uM⟩ _)
  |(refine DR rfl rfl (dN zs hU (by omega)) (by simp[W.az,C.az,bB,hz]) rfl ?_;rintro _ ⟨k,rfl,hk,hT⟩)
  |exact aqG rfl rfl rfl rfl (ys:=zs) rfl (by omega) rfl rfl ⟨_,rfl,D3 hs hx hn hz ht (by omega) (by simpa using hT)⟩
  |(apply bH [0,1,5,12,13,14] [] [14] [(0,1),(4,1)] (vS us n s) (n) [iV .i64 0];(conv=>whnf);exact⟨rfl,rfl,rfl,rfl⟩;exact rfl;exact rfl;exact .cons (aF.az rfl _) (.cons (aF.az (aF.replicate _ [tU 0]) _) .nil);exact⟨0,_,by omega,rfl,rfl,rfl,by simp,Us.replicate _,by simp⟩;rintro _ _ _ ⟨i,zs,hi,rfl,rfl,rfl,hz,hU,ht⟩)
  |(refine au [0,1,5,12,13,14] [] ?_;(conv=>whnf);exact⟨rfl,_,[_],_, .cons (aF.az rfl _) (.cons (aF.az (aF.set (xs:=zs) rfl _ [tU _]) _) .nil),(by first|exact vS.next hn (by omega) hz hU ht (by omega) hs1 (FQ (by omega) h cg (by omega)) (D2 hx0 qL hy0 qK hs)|exact vS.next (y:=0) hn (by omega) hz hU ht (by omega) hs1 (Jf (by simp;rw[bt (by omega) (by omega)]at h;omega)) (w8 hs (by rw[u64_in hx0 (by omega)];omega))),rfl,rfl,by omega⟩))
 all_goals (conv=>whnf)
end Go.aU.Cd
end
section
namespace Go.aU.Cd
open Go
theorem tN {xs:Lz} (h:Us xs) {k:Nat} (hk:k < xs.length): ∃x:Int,xs[k]? =some [tU x]∧0≤x∧x < 4294967296:=by
 obtain⟨x,e,h0,h1⟩:=h _ (List.getElem_mem hk)
 exact⟨x,by rw[←e];simp[hk],h0,h1⟩
theorem qk {rows:List (List C)} {xs:Lz} {i j:Nat} {e:List T} {K:List C→Prop} (h:aF rows xs) (he:xs[j]? =some e) (hij:i=j) (hk:K (e.map .t)):sJ rows i K:=by
 subst hij
 have:rows[i]? =some (e.map .t):=by rw[h];simp[tr,he]
 simp only[sJ,this]
 exact hk
structure Est (U V un u1 u0 v1 v0:Nat):Prop where
 first:U / V≤(un * 4294967296+u1) / v1
 step: ∀q r,q * v1+r=un * 4294967296+u1→U / V≤q→(4294967296≤q∨r * 4294967296+u0 < q * v0)→U / V < q
 fin: ∀q r,q * v1+r=un * 4294967296+u1→¬ (r < 4294967296∧(4294967296≤q∨r * 4294967296+u0 < q * v0))→q < 4294967296∧q * V < U+V
theorem three {a X B u0 u1 un:Nat}:a+X * u0+X * B * u1+X * B * B * un=a+((un * B+u1) * B+u0) * X:=by grind
theorem two {a X B u0 u1:Nat}:a+X * u0+X * B * u1=a+(u1 * B+u0) * X:=by grind
theorem G6 {U V X B un u1 u0 v1 v0 a b:Nat} (hB:0 < B) (hX:0 < X) (hU:U=a+((un * B+u1) * B+u0) * X) (ha:a < X) (hV:V=b+(v1 * B+v0) * X) (hb:b < X) (AE:1≤v1) (Fe:v0 < B) (lB:u0 < B) (hlt:U < B * V):
 U / V≤(un * B+u1) / v1∧(∀q r,q * v1+r=un * B+u1→U / V≤q→(B≤q∨r * B+u0 < q * v0)→U / V < q)∧(∀q r,q * v1+r=un * B+u1→¬ (r < B∧(B≤q∨r * B+u0 < q * v0))→q < B∧q * V < U+V):=by
 generalize un * B+u1=top at *
 have hVp:0 < V:=by
  have:0 < (v1 * B+v0) * X:=Nat.mul_pos (Nat.add_pos_left (Nat.mul_pos AE hB) _) hX
  omega
 have hQV:U / V * V≤U:=Nat.div_mul_le_self U V
 have hQB:U / V < B:=by
  rw[Nat.div_lt_iff_lt_mul hVp];exact hlt
 have hU1:(top * B+u0) * X≤U:=by omega
 have QG:U < (top * B+u0+1) * X:=by rw[Nat.add_mul (top * B+u0) 1 X,Nat.one_mul];omega
 have Ta:(v1 * B+v0) * X≤V:=by omega
 have hV2:V < (v1 * B+v0+1) * X:=by rw[Nat.add_mul (v1 * B+v0) 1 X,Nat.one_mul];omega
 have Sv:top < v1 * B+B:=by
  have h1:(top * B+u0) * X < B * ((v1 * B+v0+1) * X):=Nat.lt_of_le_of_lt hU1 (Nat.lt_trans hlt (Nat.mul_lt_mul_of_pos_left hV2 hB))
  rw[←Nat.mul_assoc]at h1
  have h2:=Nat.lt_of_mul_lt_mul_right h1
  have h3:B * (v1 * B+v0+1)≤B * (v1 * B+B):=Nat.mul_le_mul_left B (by omega)
  have h4:top * B < (v1 * B+B) * B:=by rw[Nat.mul_comm (v1 * B+B) B];omega
  exact Nat.lt_of_mul_lt_mul_right h4
 refine⟨?_,?_,?_⟩
 · refine EU (X:=B * X) ?_ ?_ rfl AE hQV
   · refine Nat.lt_of_lt_of_le QG ?_
     rw[←Nat.mul_assoc]
     refine Nat.mul_le_mul_right X ?_
     rw[Nat.add_mul,Nat.one_mul];omega
   · refine Nat.le_trans ?_ Ta
     rw[←Nat.mul_assoc]
     exact Nat.mul_le_mul_right X (by omega)
 · intro q r h1 h2 h3
   exact G5 QG Ta h1 hQV hQB h2 h3
 · intro q r h1 h2
   exact Jr hX hB hU1 Ta hV2 Fe AE Sv h1 h2
theorem OT {us vs:Lz} {i n:Nat} {un u1 u0 v1 v0:Int} (hn:2≤n) (hU:Us us) (hV:Us vs) (h1:us[i+n]? =some [tU un]) (h2:us[i+(n - 1)]? =some [tU u1]) (h3:us[i+(n - 2)]? =some [tU u0]) (h4:vs[n - 1]? =some [tU v1]) (h5:vs[n - 2]? =some [tU v0])
 (AE:0 < v1) (hlt:dy us i (n+1) < 4294967296 * dy vs 0 n):Est (dy us i (n+1)) (dy vs 0 n) un.toNat u1.toNat u0.toNat v1.toNat v0.toNat:=by
 obtain⟨k,rfl⟩: ∃k,n=k+2:=⟨n - 2,by omega⟩
 simp only[Nat.add_sub_cancel,show k+2 - 1=k+1 by omega]at h2 h3 h4 h5
 have b0:=(hU _ (List.mem_of_getElem? h3)).lt
 have c0:=(hV _ (List.mem_of_getElem? h5)).lt
 rw[jV]at b0 c0
 have e1:dy us i (k+2+1)=dy us i k+4294967296 ^ k * u0.toNat+4294967296 ^ k * 4294967296 * u1.toNat+4294967296 ^ k * 4294967296 * 4294967296 * un.toNat:=by
  rw[dI h1,dI h2,dI h3,show 4294967296 ^ (k+2)=4294967296 ^ k * 4294967296 * 4294967296 by rw[Nat.pow_succ,Nat.pow_succ],Nat.pow_succ]
 have h5':vs[0+k]? =some [tU v0]:=by rw[Nat.zero_add];exact h5
 have OF:vs[0+(k+1)]? =some [tU v1]:=by rw[Nat.zero_add];exact h4
 have e2:dy vs 0 (k+2)=dy vs 0 k+4294967296 ^ k * v0.toNat+4294967296 ^ k * 4294967296 * v1.toNat:=by
  rw[dI OF,dI h5',Nat.pow_succ]
 rw[three]at e1
 rw[two]at e2
 obtain⟨a,b,c⟩:=G6 (B:=4294967296) (X:=4294967296 ^ k) (by omega) (Nb k) e1 (qC hU i k) e2 (qC hV 0 k) (by omega) c0 b0 hlt
 exact⟨a,b,c⟩
theorem uB {q y:Int} (AG:0≤q) (hq:q < 4294967296) (hy0:0≤y) (hy:y < 4294967296):0≤q * y∧q * y≤18446744065119617025:=by
 refine⟨Int.mul_nonneg AG hy0,?_⟩
 have h1:q * y≤4294967295 * y:=Int.mul_le_mul_of_nonneg_right (by omega) hy0
 omega
theorem zY {u lo b d:Int} (lB:0≤u) (hu:u < 4294967296) (Ja:0≤lo) (hl:lo < 4294967296) (hb0:0≤b) (hb:b≤1) (hd:d=IntKind.u64.wrap (IntKind.u64.wrap (u - lo) - b)):
 ∃b':Int,d.fdiv (2 ^ (min (63:Int).toNat IntKind.u64.bits))=b'∧0≤b'∧b'≤1∧u+b' * 4294967296=IntKind.u32.wrap d+lo+b∧(b'=0↔lo+b≤u):=by
 rw[Rr,kX,hd,qo,qo]
 refine⟨_,rfl,?_⟩
 omega
structure mg (us vs fp:Lz) (i k q:Nat) (c b:Int):Prop where
 len:fp.length=us.length
 ok:Us fp
 b0:0≤b
 b1:b≤1
 c0:0≤c
 c1:c < 4294967296
 eq:dy us i k+(b.toNat+c.toNat) * 4294967296 ^ k=dy fp i k+q * dy vs 0 k
 rest: ∀j,i+k≤j→fp[j]? =us[j]?
theorem mg.zero {us vs:Lz} {i q:Nat} (hU:Us us):mg us vs us i 0 q 0 0:=
 ⟨rfl,hU,by omega,by omega,by omega,by omega,by simp[Ac],fun _ _=>rfl⟩
theorem mg.next {us vs fp:Lz} {i k q:Nat} {c b y u c1 d b' c':Int} (h:mg us vs fp i k q c b) (hq:q < 4294967296) (hy:vs[k]? =some [tU y]) (hy0:0≤y) (qK:y < 4294967296) (hu:fp[i+k]? =some [tU u]) (lB:0≤u) (rS:u < 4294967296)
 (nF:c1=c+(q:Int) * y) (hd:d=IntKind.u64.wrap (IntKind.u64.wrap (u - IntKind.u32.wrap c1) - b)) (hb':b'=d.fdiv (2 ^ (min (63:Int).toNat IntKind.u64.bits))) (B9:c'=c1 / 4294967296):
 mg us vs (fp.set (i+k) [tU (IntKind.u32.wrap d)]) i (k+1) q c' b':=by
 obtain⟨m0,m1⟩:=uB (q:=(q:Int)) (y:=y) (by omega) (by omega) hy0 qK
 obtain⟨b2,e1,e2,e3,e4,_⟩:=zY (u:=u) (lo:=IntKind.u32.wrap c1) (b:=b) lB rS (dZ _) (eX _) h.b0 h.b1 hd
 rw[e1]at hb'
 subst hb'
 have hlt:=(List.getElem?_eq_some_iff.1 hu).1
 have hlo:IntKind.u32.wrap c1=c1 % 4294967296:=kX _
 have apO:=h.c0
 have apN:=h.c1
 have aFF:=h.b0
 refine⟨by simp[h.len],h.ok.set (dZ _) (eX _),e2,e3,by omega,?_,?_,fun j hj=>?_⟩
 · omega
 · have g1:dy us i (k+1)=dy us i k+4294967296 ^ k * u.toNat:=dI (by rw[←h.rest (i+k) (Nat.le_refl _)];exact hu)
   have hs:(fp.set (i+k) [tU (IntKind.u32.wrap d)])[i+k]? =some [tU (IntKind.u32.wrap d)]:=by simp[hlt]
   have g2:=dI hs
   rw[pq (.inr (Nat.le_refl _))]at g2
   have hy':vs[0+k]? =some [tU y]:=by rw[Nat.zero_add];exact hy
   have g3:=dI hy'
   rw[g1,g2,g3,Nat.pow_succ,Nat.mul_comm (4294967296 ^ k) 4294967296]
   refine FA (carry:=c.toNat) (borrow:=b.toNat) (lo:=(c1 % 4294967296).toNat) h.eq ?_ ?_
   · have hm:q * y.toNat=((q:Int) * y).toNat:=by
      rw[show(q:Int) * y=((q * y.toNat:Nat):Int) by rw[Int.natCast_mul];congr 1;omega]
      rfl
     rw[hm,B9]
     omega
   · have:=dZ d
     omega
 · rw[List.getElem?_set_ne (by omega)]
   exact h.rest j (by omega)
structure rB (us vs fp:Lz) (i k:Nat) (c:Int):Prop where
 len:fp.length=us.length
 ok:Us fp
 c0:0≤c
 c1:c≤1
 eq:dy us i k+dy vs 0 k=dy fp i k+c.toNat * 4294967296 ^ k
 rest: ∀j,i+k≤j→fp[j]? =us[j]?
theorem rB.zero {us vs:Lz} {i:Nat} (hU:Us us):rB us vs us i 0 0:=
 ⟨rfl,hU,by omega,by omega,by simp[Ac],fun _ _=>rfl⟩
theorem rB.next {us vs fp:Lz} {i k:Nat} {c y u c1 c':Int} (h:rB us vs fp i k c) (hy:vs[k]? =some [tU y]) (hy0:0≤y) (qK:y < 4294967296) (hu:fp[i+k]? =some [tU u]) (lB:0≤u) (rS:u < 4294967296)
 (nF:c1=c+(u+y)) (B9:c'=c1 / 4294967296):rB us vs (fp.set (i+k) [tU (IntKind.u32.wrap c1)]) i (k+1) c':=by
 have hlt:=(List.getElem?_eq_some_iff.1 hu).1
 have apO:=h.c0
 have apN:=h.c1
 refine⟨by simp[h.len],h.ok.set (dZ _) (eX _),by omega,by omega,?_,fun j hj=>?_⟩
 · have g1:dy us i (k+1)=dy us i k+4294967296 ^ k * u.toNat:=dI (by rw[←h.rest (i+k) (Nat.le_refl _)];exact hu)
   have hs:(fp.set (i+k) [tU (IntKind.u32.wrap c1)])[i+k]? =some [tU (IntKind.u32.wrap c1)]:=by simp[hlt]
   have g2:=dI hs
   rw[pq (.inr (Nat.le_refl _))]at g2
   have hy':vs[0+k]? =some [tU y]:=by rw[Nat.zero_add];exact hy
   have g3:=dI hy'
   rw[g1,g2,g3,Nat.pow_succ,Nat.mul_comm (4294967296 ^ k) 4294967296]
   refine Hw (carry:=c.toNat) h.eq ?_
   rw[kX,B9]
   omega
 · rw[List.getElem?_set_ne (by omega)]
   exact h.rest j (by omega)
theorem FB {us vs fp:Lz} {i n q:Nat} {c b un:Int} {e:List T} (h:mg us vs fp i n q c b) (hun:us[i+n]? =some [tU un]) (hV:0 < dy vs 0 n) (hQ:dy us i (n+1) / dy vs 0 n≤q) (hge:c+b≤un):dy (fp.set (i+n) e) i n < dy vs 0 n:=by
 rw[pq (.inr (Nat.le_refl _))]
 have hb0:=h.b0
 have hc0:=h.c0
 refine Iz (U:=dy us i (n+1)) (un:=un.toNat) (carry:=c.toNat) (borrow:=b.toNat) (Bn:=4294967296 ^ n) (dI hun) h.eq ?_ hQ (by omega)
 rw[Nat.mul_comm,Nat.mul_add,Nat.mul_one]
 exact Nat.lt_mul_div_succ _ hV
theorem Hx {us vs fp xZ:Lz} {i n q:Nat} {c b un c2:Int} {e e':List T} (hV:Us vs) (h:mg us vs fp i n q c b) (hun:us[i+n]? =some [tU un]) (hq:q * dy vs 0 n < dy us i (n+1)+dy vs 0 n) (hlt:un < c+b) (h3:rB (fp.set (i+n) e) vs xZ i n c2) (aE5:0≤un):dy (xZ.set (i+n) e') i n < dy vs 0 n:=by
 rw[pq (.inr (Nat.le_refl _))]
 have hb0:=h.b0
 have hc0:=h.c0
 have e3:=h3.eq
 rw[pq (.inr (Nat.le_refl _))]at e3
 exact FC (U:=dy us i (n+1)) (un:=un.toNat) (carry:=c.toNat) (borrow:=b.toNat) (Bn:=4294967296 ^ n) (dI hun) h.eq (qC hV 0 n) hq (by omega) e3 (qC h.ok i n) (qC h3.ok i n)
theorem DA {q r v0 u0:Int} (AG:0≤q) (hq:q < 4294967296) (uO:0≤r) (hr:r < 4294967296) (Fe:0≤v0) (hv:v0 < 4294967296) (lB:0≤u0) (hu:u0 < 4294967296):
 (IntKind.u64.wrap (q * IntKind.u64.wrap v0) > IntKind.u64.wrap ((BitVec.ofInt IntKind.u64.bits (IntKind.u64.wrap (r * 2 ^ (min (32:Int).toNat IntKind.u64.bits)))|||BitVec.ofInt IntKind.u64.bits (IntKind.u64.wrap u0)).toNat:Int))↔r.toNat * 4294967296+u0.toNat < q.toNat * v0.toNat:=by
 obtain⟨m0,m1⟩:=uB AG hq Fe hv
 rw[u64_in Fe (by omega),u64_in m0 (by omega),u64_in lB (by omega),FG,Int.emod_eq_of_lt (by omega) (by omega),NX lB hu uO hr]
 have hm:q.toNat * v0.toNat=(q * v0).toNat:=by
  rw[show q * v0=((q.toNat * v0.toNat:Nat):Int) by rw[Int.natCast_mul];congr 1<;>omega]
  rfl
 rw[hm]
 omega
theorem Ns {un u1:Int} (h0:0≤un) (h1:un < 4294967296) (k0:0≤u1) (k1:u1 < 4294967296):
 IntKind.u64.wrap ((BitVec.ofInt IntKind.u64.bits (IntKind.u64.wrap (IntKind.u64.wrap un * 2 ^ (min (32:Int).toNat IntKind.u64.bits)))|||BitVec.ofInt IntKind.u64.bits (IntKind.u64.wrap u1)).toNat:Int)=((un.toNat * 4294967296+u1.toNat:Nat):Int):=by
 rw[u64_in h0 (by omega),u64_in k0 (by omega),FG,Int.emod_eq_of_lt (by omega) (by omega),NX k0 k1 h0 h1]
 omega
end Go.aU.Cd
end
section
namespace Go.aU.Cd
open Go Go.Proofs
set_option maxRecDepth 100000
set_option maxHeartbeats 4000000
def avB:Rc:=Sq (Rg [p 4 (.kF (.c (.w (.one (.t (.val (.int .u32 0)))))))]) (Sq (Rg [Mv 18 1,Le 19 18,Mv 5 19]) (Sq (Dr [Mv 20 0,Mv 21 5,Ia 22 1 20 21,Ld 23 22,p 24 (.conv .u64 (t 23)),p 25 (.bin .shl (t 24) (.c (.w (.one (.t (.val (.int .u64 32))))))),Mv 26 0,Mv 27 5,Bi 28 .sub 27 1,Ia 29 1 26 28,Ld 30 29,p 31 (.conv .u64 (t 30)),Bt 32 .or 25 31,Mv 33 1,Mv 34 5,Bi 35 .sub 34 1,Ia 36 1 33 35,Ld 37 36,p 38 (.conv .u64 (t 37)),Mv 6 32,Mv 7 38] [[],[],[0,1],[2],[3],[4],[],[],[7],[6,8],[9],[10],[5,11],[],[],[14],[13,15],[16],[17],[12,0,1,2,3,4,5,6,7,8,9,10,11,12],[18,19,0,1,2,3,4,5,6,7,8,9,10,11,12,13,14,15,16,17,18,19]]) (Sq (Dr [Mv 39 6,Mv 40 7,Bt 41 .quo 39 40,Mv 42 6,Mv 43 7,Bt 44 .rem 42 43,Mv 8 41,Mv 9 44] [[],[],[0,1],[],[],[3,4],[2,0,1,2],[5,6,0,1,2,3,4,5,6]]) (Sq (Bk 0 (Lp (Sq (Sq (Dr [Mv 45 9,p 46 (.bin .lss (t 45) (.c (.w (.one (.t (.val (.int .u64 4294967296))))))),Mv 47 46,Gb 47 (Mv 48 8),Gb 47 (p 49 (.bin .geq (t 48) (.c (.w (.one (.t (.val (.int .u64 4294967296)))))))),Gb 47 (Mv 50 49),Ga 50 (Mv 51 8),Ga 50 (Mv 52 1),Ga 50 (Mv 53 5),Ga 50 (Bi 54 .sub 53 2),Ga 50 (Ia 55 1 52 54),Ga 50 (Ld 56 55),Ga 50 (p 57 (.conv .u64 (t 56))),Ga 50 (Bt 58 .mul 51 57),Ga 50 (Mv 59 9),Ga 50 (p 60 (.bin .shl (t 59) (.c (.w (.one (.t (.val (.int .u64 32)))))))),Ga 50 (Mv 61 0),Ga 50 (Mv 62 5),Ga 50 (Bi 63 .sub 62 2),Ga 50 (Ia 64 1 61 63),Ga 50 (Ld 65 64),Ga 50 (p 66 (.conv .u64 (t 65))),Ga 50 (Bt 67 .or 60 66),Ga 50 (Bt 68 .gtr 58 67),Gb 47 (Pt 69 50 68),Pf 70 47 69] [[],[0],[1],[2],[3,2],[4,2,2],[5],[5],[5],[8,5],[7,9,5],[10,5],[11,5],[6,12,5],[5],[14,5],[5],[5],[17,5],[16,18,5],[19,5],[20,5],[15,21,5],[13,22,5],[5,23,2],[2,24]]) (Cn 70 Sk (Ex 0))) (Bk 1 (Sq (Rg [Mv 71 8,p 72 (.bin .sub (t 71) (.c (.w (.one (.t (.val (.int .u64 1))))))),Mv 8 72]) (Rg [Mv 73 9,Mv 74 7,Bt 75 .add 73 74,Mv 9 75])))))) (Sq (Rg [p 10 (.kF (.c (.w (.one (.t (.val (.int .u64 0))))))),p 11 (.kF (.c (.w (.one (.t (.val (.int .u64 0)))))))]) (Sq (Sq (Rg [Mv 76 1,Le 77 76,Mk 78 0]) (Bk 2 (Lp (Sq (Rg [Bt 79 .lss 78 77]) (Sq (Cn 79 Sk (Ex 2)) (Sq (Bk 3 (Sq (Rg [Mv 80 78,Ia 81 1 76 78,Ld 82 81,Mv 12 80,Mv 13 82]) (Sq (Rg [Mv 83 10,Mv 84 8,Mv 85 13,p 86 (.conv .u64 (t 85)),Bt 87 .mul 84 86,Bt 88 .add 83 87,Mv 10 88]) (Sq (Rg [Mv 89 0,Mv 90 12,Ia 91 1 89 90,Ld 92 91,p 93 (.conv .u64 (t 92)),Mv 94 10,p 95 (.conv .u32 (t 94)),p 96 (.conv .u64 (t 95)),Bt 97 .sub 93 96,Mv 98 11,Bt 99 .sub 97 98,Mv 14 99]) (Sq (Rg [Mv 100 0,Mv 101 12,Mv 102 14,p 103 (.conv .u32 (t 102)),Ia 104 1 100 101,So 1 104 103]) (Sq (Rg [Mv 105 14,p 106 (.bin .shr (t 105) (.c (.w (.one (.t (.val (.int .u64 63))))))),Mv 11 106]) (Rg [Mv 107 10,p 108 (.bin .shr (t 107) (.c (.w (.one (.t (.val (.int .u64 32))))))),Mv 10 108]))))))) (Rg [Bi 109 .add 78 1,Mv 78 109]))))))) (Sq (Rg [Mv 110 0,Mv 111 5,Ia 112 1 110 111,Ld 113 112,p 114 (.conv .u64 (t 113)),Mv 115 10,Bt 116 .sub 114 115,Mv 117 11,Bt 118 .sub 116 117,Mv 15 118]) (Sq (Rg [Mv 119 0,Mv 120 5,Mv 121 15,p 122 (.conv .u32 (t 121)),Ia 123 1 119 120,So 1 123 122]) (Sq (Sq (Rg [Mv 124 15,p 125 (.bin .shr (t 124) (.c (.w (.one (.t (.val (.int .u64 63))))))),p 126 (.bin .eql (t 125) (.c (.w (.one (.t (.val (.int .u64 0)))))))]) (Cn 126 (Sq (Rg [Mv 127 8,p 128 (.conv .u32 (t 127)),Mv 4 128]) Rt) Sk)) (Sq (Rg [p 10 (.kF (.c (.w (.one (.t (.val (.int .u64 0)))))))]) (Sq (Sq (Rg [Mv 129 1,Le 130 129,Mk 131 0]) (Bk 4 (Lp (Sq (Rg [Bt 132 .lss 131 130]) (Sq (Cn 132 Sk (Ex 4)) (Sq (Bk 5 (Sq (Rg [Mv 133 131,Ia 134 1 129 131,Ld 135 134,Mv 16 133,Mv 17 135]) (Sq (Rg [Mv 136 10,Mv 137 0,Mv 138 16,Ia 139 1 137 138,Ld 140 139,p 141 (.conv .u64 (t 140)),Mv 142 17,p 143 (.conv .u64 (t 142)),Bt 144 .add 141 143,Bt 145 .add 136 144,Mv 10 145]) (Sq (Rg [Mv 146 0,Mv 147 16,Mv 148 10,p 149 (.conv .u32 (t 148)),Ia 150 1 146 147,So 1 150 149]) (Rg [Mv 151 10,p 152 (.bin .shr (t 151) (.c (.w (.one (.t (.val (.int .u64 32))))))),Mv 10 152]))))) (Rg [Bi 153 .add 131 1,Mv 131 153]))))))) (Sq (Rg [Mv 154 0,Mv 155 5,Ia 156 1 154 155,Ld 157 156,Mv 158 10,p 159 (.conv .u32 (t 158)),Bt 160 .add 157 159,Ia 161 1 154 155,So 1 161 160]) (Sq (Rg [Mv 162 8,p 163 (.bin .sub (t 162) (.c (.w (.one (.t (.val (.int .u64 1))))))),p 164 (.conv .u32 (t 163)),Mv 4 164]) Rt)))))))))))))
theorem WM:ae Tryz.prog (Tryz.f252.body.getD .skip)=some avB:=by kernel_rfl
theorem abL:Tryz.f252.body=some (Tryz.f252.body.getD .skip):=rfl
theorem Oc {hp:HS} {sz dj:Nat} {xs ys xs' ys':Lz} (h:find hp 0=some (.row sz (tr xs'))) (h1:find hp 1=some (.row dj (tr ys'))):kp [(0, .row sz (tr xs)),(1, .row dj (tr ys))] hp [(0, .row sz (tr xs')),(1, .row dj (tr ys'))]:=by
 have hrow: ∀ (z:Nat) (zs:Lz),Hz [(0, .row sz (tr xs)),(1, .row dj (tr ys))] (.row z (tr zs)):=by
  intro z zs e he c hc
  simp only[tr,List.mem_map]at he
  obtain⟨e',_,rfl⟩:=he
  simp only[List.mem_map]at hc
  obtain⟨c',_,rfl⟩:=hc
  rfl
 refine⟨fun k b hk=>?_,fun k blk hk=>?_⟩
 · simp only[find]at hk
   split at hk
   · rename_i e;subst e;exact⟨by omega,_,h⟩
   · split at hk
     · rename_i e;subst e;exact⟨by omega,_,h1⟩
     · simp at hk
 · simp only[find]at hk
   split at hk
   · rename_i e
     subst e
     simp only[Option.some.injEq]at hk
     subst hk
     exact⟨h,rfl,hrow _ _⟩
   · split at hk
     · rename_i e
       subst e
       simp only[Option.some.injEq]at hk
       subst hk
       exact⟨h1,rfl,hrow _ _⟩
     · simp at hk
theorem gDg {hp:HS} {tm:TS} {rs:List ResultVar} {t sz dj:Nat} {x:T} {rows Kh:List (List C)} {us vs xs ys:Lz} {G:List W→HS→Prop} (hr:rs=[.tmp t]) (h:find tm t=some (.w (.one (.t x)))) (hf:find hp 0=some (.row sz rows)) (hf1:find hp 1=some (.row dj Kh)) (hR:aF rows xs) (hR1:aF Kh ys) (hg:G [.one (.t x)] [(0, .row sz (tr xs)),(1, .row dj (tr ys))]):
 ∃qs ts hout,aP Tryz.prog hp tm rs=some qs∧bK (yw [(0, .row sz (tr us)),(1, .row dj (tr vs))] hp) qs=some ts∧kp [(0, .row sz (tr us)),(1, .row dj (tr vs))] hp hout∧G ts hout:=by
 subst hr
 refine⟨[.one (.t x)],[.one (.t x)],_,by simp only[aP,cv,h],?_,Oc (by rw[hf,hR]) (by rw[hf1,hR1]),hg⟩
 simp only[bK,yw,Sj,Gg,if_true]
def P8 (us vs:Lz) (i n:Nat) (ts:List W) (hout:HS):Prop:= ∃fp d,ts=[.one (.t (tU d))]∧hout=[(0, .row 1 (tr fp)),(1, .row 1 (tr vs))]∧fp.length=us.length∧Us fp∧dy fp i n < dy vs 0 n∧0≤d∧d < 4294967296
def Fq (U V q:Nat):Prop:=q < 4294967296∧q * V < U+V∧U / V≤q
theorem q64 (X v:Nat) (h:X < 18446744073709551616):IntKind.u64.wrap ((X / v:Nat):Int)=((X / v:Nat):Int):=by
 have h1:=Nat.div_le_self X v
 generalize X / v=y at h1
 exact u64_in (by omega) (by omega)
def R1 (U W un u1 v1:Nat) (us vs:Lz) (m:Nat) (ws:List V) (xss:List (Lz)):Prop:=
 ∃q r:Int,0≤q∧0≤r∧m=4294967296 - r.toNat∧ws=[iV .u64 q,iV .u64 r]∧xss=[us,vs]∧q.toNat * v1+r.toNat=un * 4294967296+u1∧U / W≤q.toNat∧q < 18446744073709551616∧r < 8589934592
theorem R1.zero {U V:Nat} {un u1 u0 v1 v0:Int} {us vs:Lz} (he:Est U V un.toNat u1.toNat u0.toNat v1.toNat v0.toNat) (h0:0≤un) (h1:un < 4294967296) (k0:0≤u1) (k1:u1 < 4294967296) (hv:0 < v1) (AE:v1 < 4294967296) {top:Int}
 (ht:top=IntKind.u64.wrap ((BitVec.ofInt IntKind.u64.bits (IntKind.u64.wrap (IntKind.u64.wrap un * 2 ^ (min (32:Int).toNat IntKind.u64.bits)))|||BitVec.ofInt IntKind.u64.bits (IntKind.u64.wrap u1)).toNat:Int)):
 R1 U V un.toNat u1.toNat v1.toNat us vs (4294967296 - (un.toNat * 4294967296+u1.toNat) % v1.toNat) [iV .u64 (IntKind.u64.wrap (top.tdiv (IntKind.u64.wrap v1))),iV .u64 (top.tmod (IntKind.u64.wrap v1))] [us,vs]:=by
 have e:=Ns h0 h1 k0 k1
 have ev:IntKind.u64.wrap v1=((v1.toNat:Nat):Int):=by rw[u64_in (by omega) (by omega)];omega
 have hlt:=Nat.mod_lt (un.toNat * 4294967296+u1.toNat) (show 0 < v1.toNat by omega)
 have hle:=Nat.div_le_self (un.toNat * 4294967296+u1.toNat) v1.toNat
 have hdm:=Nat.div_add_mod (un.toNat * 4294967296+u1.toNat) v1.toNat
 have uS:=he.first
 have hXb:un.toNat * 4294967296+u1.toNat < 18446744073709551616:=by omega
 have hq:=q64 (un.toNat * 4294967296+u1.toNat) v1.toNat hXb
 rw[e]at ht
 clear he e
 have e2:((un.toNat * 4294967296+u1.toNat:Nat):Int).tdiv ((v1.toNat:Nat):Int)=(((un.toNat * 4294967296+u1.toNat) / v1.toNat:Nat):Int):=by
  rw[Int.tdiv_eq_ediv_of_nonneg (Int.natCast_nonneg _)];rfl
 have e3:((un.toNat * 4294967296+u1.toNat:Nat):Int).tmod ((v1.toNat:Nat):Int)=(((un.toNat * 4294967296+u1.toNat) % v1.toNat:Nat):Int):=by
  rw[Int.tmod_eq_emod_of_nonneg (Int.natCast_nonneg _)];rfl
 rw[ht,ev,e2,e3,hq]
 clear e2 e3 hq ht ev
 refine⟨(((un.toNat * 4294967296+u1.toNat) / v1.toNat:Nat):Int),(((un.toNat * 4294967296+u1.toNat) % v1.toNat:Nat):Int),Int.natCast_nonneg _,Int.natCast_nonneg _,by rw[Int.toNat_natCast],rfl,rfl,?_,by rw[Int.toNat_natCast];exact uS,?_,?_⟩
 · rw[Int.toNat_natCast,Int.toNat_natCast,Nat.mul_comm]
   exact hdm
 · clear uS hdm hlt
   generalize (un.toNat * 4294967296+u1.toNat) / v1.toNat=y at *
   omega
 · clear uS hdm hle
   generalize (un.toNat * 4294967296+u1.toNat) % v1.toNat=y at *
   omega
theorem R1.next {U V un u1:Nat} {q r u0 v1 v0:Int} {us vs:Lz} (he:Est U V un u1 u0.toNat v1.toNat v0.toNat) (AG:0≤q) (uO:0≤r) (hv:0 < v1) (AE:v1 < 4294967296) (hm:q.toNat * v1.toNat+r.toNat=un * 4294967296+u1) (hQ:U / V≤q.toNat) (hq:q < 18446744073709551616) (hr:r < 4294967296)
 (hc:4294967296≤q.toNat∨r.toNat * 4294967296+u0.toNat < q.toNat * v0.toNat):
 R1 U V un u1 v1.toNat us vs (4294967296 - (r+v1).toNat) [iV .u64 (IntKind.u64.wrap (q - 1)),iV .u64 (IntKind.u64.wrap (r+IntKind.u64.wrap v1))] [us,vs]:=by
 have h1:=he.step q.toNat r.toNat hm hQ hc
 clear he hc
 generalize hQQ:U / V=Q0 at h1 hQ
 refine⟨q - 1,r+v1,by omega,by omega,rfl,?_,rfl,?_,by rw[hQQ];omega,by omega,by omega⟩
 · rw[u64_in (n:=v1) (by omega) (by omega),u64_in (by omega) (by omega),u64_in (by omega) (by omega)]
 · obtain⟨q',De⟩: ∃q',q.toNat=q'+1:=⟨q.toNat - 1,by omega⟩
   rw[De,Nat.add_mul,Nat.one_mul]at hm
   rw[show(q - 1).toNat=q' by omega,show(r+v1).toNat=r.toNat+v1.toNat by omega]
   omega
def R2 (us vs:Lz) (i n:Nat) (q:Int) (m:Nat) (ws:List V) (xss:List (Lz)):Prop:=
 ∃ (k:Nat) (c b:Int) (mm:Lz),k≤n∧m=n - k∧ws=[iV .u64 c,iV .u64 b,iV .i64 (k:Int)]∧xss=[mm,vs]∧mg us vs mm i k q.toNat c b∧Fq (dy us i (n+1)) (dy vs 0 n) q.toNat
theorem R2.next {us vs mm:Lz} {i n k:Nat} {q c b y u C1 D:Int} (AG:0≤q) (h:mg us vs mm i k q.toNat c b) (hF:Fq (dy us i (n+1)) (dy vs 0 n) q.toNat) (hk:(k:Int) < (n:Int)) (hn:n≤1000000) (hy:vs[0+((k:Int)).toNat]? =some [tU y]) (hy0:0≤y) (qK:y < 4294967296) (hu:mm[i+((k:Int)).toNat]? =some [tU u]) (lB:0≤u) (rS:u < 4294967296)
 (hC:C1=IntKind.u64.wrap (c+IntKind.u64.wrap (q * IntKind.u64.wrap y))) (hD:D=IntKind.u64.wrap (IntKind.u64.wrap (IntKind.u64.wrap u - IntKind.u64.wrap (IntKind.u32.wrap C1)) - b)):
 R2 us vs i n q (n - (k+1)) [iV .u64 (C1.fdiv (2 ^ (min (32:Int).toNat IntKind.u64.bits))),iV .u64 (D.fdiv (2 ^ (min (63:Int).toNat IntKind.u64.bits))),iV .i64 (IntKind.i64.wrap ((k:Int)+1))] [mm.set (i+((k:Int)).toNat) [tU (IntKind.u32.wrap D)],vs]:=by
 have e0:((k:Int)).toNat=k:=by omega
 rw[e0]at hy hu⊢
 rw[Nat.zero_add]at hy
 obtain⟨m0,m1⟩:=uB (q:=q) (y:=y) AG (by have:=hF.1;omega) hy0 qK
 have hc0:=h.c0
 have nF:=h.c1
 have eC:C1=c+(q.toNat:Int) * y:=by rw[hC,u64_in hy0 (by omega),u64_in m0 (by omega),u64_in (by omega) (by omega),Int.toNat_of_nonneg AG]
 rw[u64_in lB (by omega),u64_in (dZ _) (by have:=eX C1;omega)]at hD
 refine⟨k+1,_,_,_,by omega,rfl,by rw[bt (by omega) (by omega)];rfl,rfl,h.next hF.1 hy hy0 qK hu lB rS eC hD rfl (C2 _),hF⟩
theorem mg.to {us vs fp:Lz} {i k n q:Nat} {c b:Int} (h:mg us vs fp i k q c b) (e:k=n):mg us vs fp i n q c b:=e▸h
theorem rB.to {us vs fp:Lz} {i k n:Nat} {c:Int} (h:rB us vs fp i k c) (e:k=n):rB us vs fp i n c:=e▸h
theorem Av {un c b D:Int} (h0:0≤un) (h1:un < 4294967296) (hc0:0≤c) (nF:c < 4294967296) (hb0:0≤b) (jc:b≤1) (hD:D=IntKind.u64.wrap (IntKind.u64.wrap (IntKind.u64.wrap un - c) - b)):D.fdiv (2 ^ (min (63:Int).toNat IntKind.u64.bits))=0↔c+b≤un:=by
 rw[u64_in h0 (by omega)]at hD
 obtain⟨b',e,_,_,_,h⟩:=zY h0 h1 hc0 nF hb0 jc hD
 rw[e];exact h
def R3 (us vs:Lz) (i n q:Nat) (un:Int) (m:Nat) (ws:List V) (xss:List (Lz)):Prop:=
 ∃ (k:Nat) (c3:Int) (xZ mm:Lz) (e:List T) (c b:Int),k≤n∧m=n - k∧ws=[iV .u64 c3,iV .i64 (k:Int)]∧xss=[xZ,vs]∧mg us vs mm i n q c b∧un < c+b∧rB (mm.set (i+n) e) vs xZ i k c3∧Fq (dy us i (n+1)) (dy vs 0 n) q
theorem R3.zero {us vs mm:Lz} {i k n q:Nat} {un c b D:Int} (h:mg us vs mm i k q c b) (hF:Fq (dy us i (n+1)) (dy vs 0 n) q) (e:k=n) (h0:0≤un) (h1:un < 4294967296) (hD:D=IntKind.u64.wrap (IntKind.u64.wrap (IntKind.u64.wrap un - c) - b)) (hne:D.fdiv (2 ^ (min (63:Int).toNat IntKind.u64.bits))≠0):
 R3 us vs i n q un n [iV .u64 0,iV .i64 0] [mm.set (i+((n:Int)).toNat) [tU (IntKind.u32.wrap D)],vs]:=by
 have e0:((n:Int)).toNat=n:=by omega
 rw[e0]
 refine⟨0,0,_,mm,_,c,b,by omega,rfl,rfl,rfl,h.to e,?_,rB.zero (h.ok.set (dZ _) (eX _)),hF⟩
 have:=Av h0 h1 h.c0 h.c1 h.b0 h.b1 hD
 omega
theorem R3.next {us vs mm xZ:Lz} {i n k q:Nat} {un c3 c b y u C1:Int} {e:List T} (hS:mg us vs mm i n q c b) (hlt:un < c+b) (h:rB (mm.set (i+n) e) vs xZ i k c3) (hF:Fq (dy us i (n+1)) (dy vs 0 n) q) (hk:(k:Int) < (n:Int)) (hn:n≤1000000) (hy:vs[0+((k:Int)).toNat]? =some [tU y]) (hy0:0≤y) (qK:y < 4294967296) (hu:xZ[i+((k:Int)).toNat]? =some [tU u]) (lB:0≤u) (rS:u < 4294967296)
 (hC:C1=IntKind.u64.wrap (c3+IntKind.u64.wrap (IntKind.u64.wrap u+IntKind.u64.wrap y))):
 R3 us vs i n q un (n - (k+1)) [iV .u64 (C1.fdiv (2 ^ (min (32:Int).toNat IntKind.u64.bits))),iV .i64 (IntKind.i64.wrap ((k:Int)+1))] [xZ.set (i+((k:Int)).toNat) [tU (IntKind.u32.wrap C1)],vs]:=by
 have e0:((k:Int)).toNat=k:=by omega
 rw[e0]at hy hu⊢
 rw[Nat.zero_add]at hy
 have hc0:=h.c0
 have nF:=h.c1
 have eC:C1=c3+(u+y):=by rw[hC,u64_in hy0 (by omega),u64_in lB (by omega),u64_in (n:=u+y) (by omega) (by omega),u64_in (by omega) (by omega)]
 exact⟨k+1,_,_,mm,e,c,b,by omega,rfl,by rw[bt (by omega) (by omega)];rfl,rfl,hS,hlt,h.next hy hy0 qK hu lB rS eC (C2 _),hF⟩
theorem Ju {us vs mm:Lz} {i k n q:Nat} {un c b D d:Int} (h:mg us vs mm i k q c b) (hF:Fq (dy us i (n+1)) (dy vs 0 n) q) (e:k=n) (hun:us[i+n]? =some [tU un]) (h0:0≤un) (h1:un < 4294967296) (hV:0 < dy vs 0 n) (hD:D=IntKind.u64.wrap (IntKind.u64.wrap (IntKind.u64.wrap un - c) - b)) (heq:D.fdiv (2 ^ (min (63:Int).toNat IntKind.u64.bits))=0) (BC:0≤d) (Oz:d < 4294967296):
 P8 us vs i n [.one (.t (tU d))] [(0, .row 1 (tr (mm.set (i+((n:Int)).toNat) [tU (IntKind.u32.wrap D)]))),(1, .row 1 (tr vs))]:=by
 have e0:((n:Int)).toNat=n:=by omega
 rw[e0]
 exact⟨_,d,rfl,rfl,by simp[h.len],h.ok.set (dZ _) (eX _),FB (h.to e) hun hV hF.2.2 ((Av h0 h1 h.c0 h.c1 h.b0 h.b1 hD).1 heq),BC,Oz⟩
theorem Jt {us vs mm xZ:Lz} {i k n q:Nat} {un c b c3 x d:Int} {e:List T} (hVs:Us vs) (h:mg us vs mm i n q c b) (hlt:un < c+b) (hA:rB (mm.set (i+n) e) vs xZ i k c3) (hF:Fq (dy us i (n+1)) (dy vs 0 n) q) (ek:k=n) (hun:us[i+n]? =some [tU un]) (h0:0≤un) (hx0:0≤x) (qL:x < 4294967296) (BC:0≤d) (Oz:d < 4294967296):
 P8 us vs i n [.one (.t (tU d))] [(0, .row 1 (tr (xZ.set (i+((n:Int)).toNat) [tU x]))),(1, .row 1 (tr vs))]:=by
 have e0:((n:Int)).toNat=n:=by omega
 rw[e0]
 exact⟨_,d,rfl,rfl,by simp[hA.len,h.len],hA.ok.set hx0 qL,Hx hVs h hun hF.2.1 hlt (hA.to ek) h0,BC,Oz⟩
theorem Mx {U V un u1 q r:Nat} {u0 v1 v0:Nat} (he:Est U V un u1 u0 v1 v0) (hm:q * v1+r=un * 4294967296+u1) (hQ:U / V≤q) (hc:¬ (r < 4294967296∧(4294967296≤q∨r * 4294967296+u0 < q * v0))):Fq U V q:=by
 obtain⟨a,b⟩:=he.fin q r hm hc
 exact⟨a,b,hQ⟩
theorem fq2 {U V un u1:Nat} {q r u0 v1 v0:Int} (he:Est U V un u1 u0.toNat v1.toNat v0.toNat) (AG:0≤q) (uO:0≤r) (hm:q.toNat * v1.toNat+r.toNat=un * 4294967296+u1) (hQ:U / V≤q.toNat) (Fe:0≤v0) (hv:v0 < 4294967296) (lB:0≤u0) (hu:u0 < 4294967296) (hr:r < 4294967296) (hq:¬q≥4294967296)
 (h:¬ (IntKind.u64.wrap (q * IntKind.u64.wrap v0) > IntKind.u64.wrap ((BitVec.ofInt IntKind.u64.bits (IntKind.u64.wrap (r * 2 ^ (min (32:Int).toNat IntKind.u64.bits)))|||BitVec.ofInt IntKind.u64.bits (IntKind.u64.wrap u0)).toNat:Int))):Fq U V q.toNat:=by
 refine Mx he hm hQ ?_
 rintro⟨_,h1|h1⟩
 · omega
 · exact h ((DA AG (by omega) uO hr Fe hv lB hu).2 h1)
theorem WD {q r u0 v0:Int} (AG:0≤q) (uO:0≤r) (Fe:0≤v0) (hv:v0 < 4294967296) (lB:0≤u0) (hu:u0 < 4294967296) (hr:r < 4294967296) (hq:¬q≥4294967296)
 (h:(IntKind.u64.wrap (q * IntKind.u64.wrap v0) > IntKind.u64.wrap ((BitVec.ofInt IntKind.u64.bits (IntKind.u64.wrap (r * 2 ^ (min (32:Int).toNat IntKind.u64.bits)))|||BitVec.ofInt IntKind.u64.bits (IntKind.u64.wrap u0)).toNat:Int))):4294967296≤q.toNat∨r.toNat * 4294967296+u0.toNat < q.toNat * v0.toNat:=
 .inr ((DA AG (by omega) uO hr Fe hv lB hu).1 h)
theorem wz (us vs:Lz) (i n:Nat) (hU:Us us) (hV:Us vs) (hn:2≤n) (hvl:n≤vs.length) (HY:i+n+1≤us.length) (hL:us.length≤1000000) (hM:vs.length≤1000000) (hlt:dy us i (n+1) < 4294967296 * dy vs 0 n) (v1:Int) (AE:vs[n - 1]? =some [tU v1]) (hvp:0 < v1): ∃ts hout,Fn Tryz.prog 252 [.one (.own 0 1 i (n+1)), .one (.own 1 1 0 n)] [(0, .row 1 (tr us)),(1, .row 1 (tr vs))] (aT ts) hout∧P8 us vs i n ts hout:=by
 obtain⟨un,hun,un0,un1⟩:=tN hU (k:=i+n) (by omega)
 obtain⟨u1,rS,Iu,u11⟩:=tN hU (k:=i+(n - 1)) (by omega)
 obtain⟨u0,lB,u00,u01⟩:=tN hU (k:=i+(n - 2)) (by omega)
 obtain⟨v0,Fe,v00,v01⟩:=tN hV (k:=n - 2) (by omega)
 obtain⟨v1',Su,v10,v11⟩:=tN hV (k:=n - 1) (by omega)
 obtain rfl:v1'=v1:=by rw[AE]at Su;simpa using Su.symm
 have est:=OT hn hU hV hun rS lB AE Fe hvp hlt
 have hVp:0 < dy vs 0 n:=by(apply Nat.pos_of_ne_zero;intro e;rw[e]at hlt;omega)
 refine gP (n:=165) (rs:=[.tmp 4]) Tryz.func252 abL WM rfl rfl (by simp) ?_
 repeat' (conv=>whnf
          first
  |(refine aD (fun h=>?_) (fun h=>?_))
  |(refine And.intro ⟨(by first|omega|(simp (disch:=omega) only[aa];omega)),(by first|omega|(simp (disch:=omega) only[aa];omega))⟩ ?_)
  |(refine And.intro (show IntKind.u64.wrap v1'≠0 by rw[u64_in (by omega) (by omega)];omega) ?_)
  |(refine And.intro (show(0:Int)≤32 by omega) ?_)
  |(refine And.intro (show(0:Int)≤63 by omega) ?_)
  |(refine And.intro (by kernel_rfl) ?_)
  |(refine qk (xs:=us) rfl hun (by first|omega|(simp (disch:=omega) only[aa];omega)) ?_)
  |(refine qk (xs:=us) rfl rS (by first|omega|(simp (disch:=omega) only[aa];omega)) ?_)
  |(refine qk (xs:=us) rfl lB (by first|omega|(simp (disch:=omega) only[aa];omega)) ?_)
  |(refine qk (xs:=vs) rfl AE (by first|omega|(simp (disch:=omega) only[aa];omega)) ?_)
  |(refine qk (xs:=vs) rfl Fe (by first|omega|(simp (disch:=omega) only[aa];omega)) ?_)
  |(refine cj (xs:=vs) (i:=0+((k:Int)).toNat) rfl hV (by omega) ?_;rintro _ ⟨y,rfl,hy0,qK⟩ hsy)
  |(refine cj (xs:=vs) (i:=0+((k3:Int)).toNat) rfl hV (by omega) ?_;rintro _ ⟨y,rfl,hy0,qK⟩ hsy)
  |(refine cj (xs:=mm) (i:=i+((k:Int)).toNat) rfl hS.ok (by have:=hS.len;omega) ?_;rintro _ ⟨u,rfl,lB,rS⟩ hsu)
  |(refine qk (xs:=mm) rfl ((hS.rest (i+n) (by omega)).trans hun) (by first|omega|(simp (disch:=omega) only[aa];omega)) ?_)
  |(refine cj (xs:=xZ) (i:=i+((k3:Int)).toNat) rfl hA.ok (by have:=hA.len;have:=hS'.len;simp only[List.length_set]at *;omega) ?_;rintro _ ⟨u,rfl,lB,rS⟩ hsu)
  |(refine cj (xs:=xZ) (i:=i+((n:Int)).toNat) rfl hA.ok (by have:=hA.len;have:=hS'.len;simp only[List.length_set]at *;omega) ?_;rintro _ ⟨u,rfl,lB,rS⟩ hsu)
  |exact gDg rfl rfl rfl rfl (xs:=mm.set (i+((n:Int)).toNat) [tU _]) (aF.set rfl _ [tU _]) rfl (Ju hS hF (by omega) hun un0 un1 hVp rfl h (dZ _) (eX _))
  |exact gDg rfl rfl rfl rfl (xs:=xZ.set (i+((n:Int)).toNat) [tU _]) (aF.set rfl _ [tU _]) rfl (Jt hV hS' SP hA hF' (by omega) hun un0 (dZ _) (eX _) (dZ _) (eX _))
  |(apply bH [0,5,8,10,129,130,131] [] [10,131] [(0,1),(1,1)] (R3 us vs i n q.toNat un) (n) [iV .u64 0,iV .i64 0];(conv=>whnf);exact⟨rfl,rfl,rfl,rfl⟩;exact rfl;exact rfl;exact .cons (aF.az (aF.set (xs:=mm) rfl _ [tU _]) _) (.cons (aF.az rfl _) .nil);exact R3.zero hS hF (by omega) un0 un1 rfl h;rintro _ _ _ ⟨k3,c3,xZ,aDU,e3,c',b',hk3,rfl,rfl,rfl,hS',SP,hA,hF'⟩)
  |(refine au [0,5,8,10,129,130,131] [] ?_;(conv=>whnf);exact⟨rfl,_,[_,_],_, .cons (aF.az (aF.set (xs:=xZ) rfl _ [tU _]) _) (.cons (aF.az rfl _) .nil),R3.next hS' SP hA hF' (by omega) (by omega) hsy hy0 qK (by assumption) (by assumption) (by assumption) rfl,rfl,rfl,by omega⟩)
  |(apply bH [0,1,5,8,10,11,76,77,78] [] [10,11,78] [(0,1),(1,1)] (R2 us vs i n q) (n) [iV .u64 0,iV .u64 0,iV .i64 0];(conv=>whnf);exact⟨rfl,rfl,rfl,rfl⟩;exact rfl;exact rfl;exact .cons (aF.az rfl _) (.cons (aF.az rfl _) .nil);exact⟨0,0,0,us,by omega,rfl,rfl,rfl,mg.zero hU,by first|exact Mx est hm hQ (fun hh=>absurd hh.1 (by omega))|exact fq2 est AG uO hm hQ v00 v01 u00 u01 (by omega) (by omega) h⟩;rintro _ _ _ ⟨k,c,b,mm,hk,rfl,rfl,rfl,hS,hF⟩)
  |(refine au [0,1,5,8,10,11,76,77,78] [] ?_;(conv=>whnf);exact⟨rfl,_,[_,_,_],_, .cons (aF.az (aF.set (xs:=mm) rfl _ [tU _]) _) (.cons (aF.az rfl _) .nil),R2.next AG hS hF (by omega) (by omega) hsy hy0 qK (by assumption) (by assumption) (by assumption) rfl rfl,rfl,rfl,by omega⟩)
  |(apply bH [0,1,5,7,8,9] [] [8,9] [(0,1),(1,1)] (R1 (dy us i (n+1)) (dy vs 0 n) un.toNat u1.toNat v1'.toNat us vs) (_) [_,_];(conv=>whnf);exact⟨rfl,rfl,rfl,rfl⟩;exact rfl;exact rfl;exact .cons (aF.az rfl _) (.cons (aF.az rfl _) .nil);exact R1.zero est un0 un1 Iu u11 hvp v11 rfl;rintro _ _ _ ⟨q,r,AG,uO,hmr,rfl,rfl,hm,hQ,anW,aFe⟩)
  |(refine au [0,1,5,7,8,9] [] ?_;(conv=>whnf);exact⟨rfl,_,[_,_],_, .cons (aF.az rfl _) (.cons (aF.az rfl _) .nil),R1.next est AG uO hvp v11 hm hQ anW (by omega) (by first|exact .inl (by omega)|exact WD AG uO v00 v01 u00 u01 (by omega) (by omega) h),rfl,rfl,by omega⟩))
 all_goals (conv=>whnf)
end Go.aU.Cd
end
section
namespace Go.aU.Cd
open Go Go.Proofs
set_option maxRecDepth 100000
set_option maxHeartbeats 4000000
def YX:Rc:=Sq (Rg [Mn 4,Mn 5,Mb 6 false]) (Sq (Rg [Mv 15 0,p 16 (.call 239 [t 15]),Mv 17 1,p 18 (.call 239 [t 17]),Mv 0 16,Mv 1 18]) (Sq (Bk 0 (Sq (Rg [Mv 20 1,Le 21 20,Bi 22 .eql 21 0,Mv 19 22]) (Cn 19 (Sq (Rg [Mn 4,Mn 5,Mb 6 false]) Rt) (Sq (Rg [Mv 24 0,Mv 25 1,p 26 (.call 223 [t 24,t 25]),Bi 27 .lss 26 0,Mv 23 27]) (Cn 23 (Sq (Rg [Mv 28 0,p 29 (.call 241 [t 28]),Mn 4,Mv 5 29,Mb 6 true]) Rt) (Sq (Rg [Mv 31 1,Le 32 31,Bi 33 .eql 32 1,Mv 30 33]) (Cn 30 (Sq (Rg [Mv 35 0,Mv 36 1,p 37 (.fJ 1 (t 36) (k 0)),Ld 38 37,p 39 (.call 249 [t 35,t 38]),Mv 34 39,Et 40 34 0,Et 41 34 1,Mv 7 40,Mv 8 41]) (Sq (Rg [Mv 42 7,Mv 43 8,p 44 (.conv .u64 (t 43)),p 45 (.call 221 [t 44]),Mv 4 42,Mv 5 45,Mb 6 true]) Rt)) Sk))))))) (Sq (Rg [Mv 46 1,Le 47 46,Mv 9 47]) (Sq (Rg [Mv 48 1,Mv 49 9,Bi 50 .sub 49 1,Ia 51 1 48 50,Ld 52 51,p 53 (.call 250 [t 52]),Mv 10 53]) (Sq (Dr [Mv 54 0,Mv 55 10,p 56 (.call 251 [t 54,t 55]),Mv 57 1,Mv 58 10,p 59 (.call 251 [t 57,t 58]),Mv 60 9,p 61 (.slice 1 (t 59) none (some (t 60))),Mv 11 56,Mv 12 61] [[],[],[0,1],[],[],[3,4,2],[],[5,6],[2,5,0,1,2],[7,8,0,1,2,3,4,5,6,7,8]]) (Sq (Rg [Mv 62 11,Le 63 62,Mv 64 9,Bt 65 .sub 63 64,p 66 (.make [.t (.val (.int .u32 0))] 4 (t 65) (t 65)),Mv 13 66]) (Sq (Sq (Rg [Mv 67 13,Le 68 67,Bi 69 .sub 68 1,Mv 14 69]) (Bk 1 (Lp (Sq (Sq (Rg [Mv 70 14,Bi 71 .geq 70 0]) (Cn 71 Sk (Ex 1))) (Sq (Bk 2 (Rg [Mv 74 13,Mv 75 14,Mv 76 11,Mv 77 14,Mv 78 14,Mv 79 9,Bt 80 .add 78 79,Bi 81 .add 80 1,p 82 (.slice 1 (t 76) (some (t 77)) (some (t 81))),Mv 83 12,p 84 (.call 252 [t 82,t 83]),Ia 85 1 74 75,So 1 85 84])) (Rg [Mv 72 14,Bi 73 .sub 72 1,Mv 14 73])))))) (Sq (Dr [Mv 86 13,p 87 (.call 239 [t 86]),Mv 88 11,Mv 89 9,p 90 (.slice 1 (t 88) none (some (t 89))),Mv 91 10,p 92 (.call 253 [t 90,t 91]),Mv 4 87,Mv 5 92,Mb 6 true] [[],[0],[],[],[2,3],[],[4,5,1],[1,6,0,1],[6,7,0,1,2,3,4,5,6,7],[8,0,1,2,3,4,5,6,7,8]]) Rt))))))))
theorem WW:ae Tryz.prog (Tryz.f243.body.getD .skip)=some YX:=by kernel_rfl
theorem abU:Tryz.f243.body=some (Tryz.f243.body.getD .skip):=rfl
def YY:Rc:=Sq (Rg [Mn 4]) (Sq (Rg [Mv 8 0,p 9 (.call 241 [t 8]),Mv 10 1,p 11 (.call 241 [t 10]),Mv 0 9,Mv 1 11]) (Sq (Bk 0 (Lp (Sq (Sq (Rg [Mv 12 1,Le 13 12,Bi 14 .gtr 13 0]) (Cn 14 Sk (Ex 0))) (Bk 1 (Sq (Rg [Mv 16 0,Mv 17 1,p 18 (.call 243 [t 16,t 17]),Mv 15 18,Et 19 15 0,Et 20 15 1,Et 21 15 2,Mv 5 19,Mv 6 20,Mv 7 21]) (Rg [Mv 22 1,Mv 23 6,Mv 0 22,Mv 1 23])))))) (Sq (Rg [Mv 24 0,Mv 4 24]) Rt)))
theorem WX:ae Tryz.prog (Tryz.f242.body.getD .skip)=some YY:=by kernel_rfl
theorem abV:Tryz.f242.body=some (Tryz.f242.body.getD .skip):=rfl
abbrev oB (b:Bool):W:= .one (.t (tB b))
def azA (k:Nat) (ys:Lz) (ts:List W):Prop:= ∃qs rs ok,ts=[oL 1 qs,oL 1 rs,oB ok]∧(qs.length≤k∧Us qs)∧Nm k rs∧(nv ys≠0→nv rs < nv ys)
theorem Iw {vs:Lz} {n:Nat} (hV:Us vs) (hn:1≤n) (hl:n≤vs.length) (h:4294967296 ^ (n - 1)≤dy vs 0 n): ∃v1,vs[n - 1]? =some [tU v1]∧0 < v1:=by
 obtain⟨x,hx,h0,_⟩:=tN hV (k:=n - 1) (by omega)
 refine⟨x,hx,?_⟩
 have e:n=(n - 1)+1:=by omega
 have h1:=dI (xs:=vs) (i:=0) (k:=n - 1) (x:=x) (by rw[Nat.zero_add];exact hx)
 rw[←e]at h1
 have h2:=qC hV 0 (n - 1)
 rcases Int.lt_or_le 0 x with h'|h'
 · exact h'
 · have:x.toNat=0:=by omega
   rw[this,Nat.mul_zero]at h1
   omega
structure Dv (bs vs:Lz) (n s:Nat):Prop where
 len:vs.length=n+1
 ok:Us vs
 val:dy vs 0 n=nv bs * 2 ^ s
 top: ∃v1,vs[n - 1]? =some [tU v1]∧0 < v1
theorem Dw {bs vs:Lz} {n s:Nat} {x:Int} (hb:Us bs) (hbt: ∀e,bs.getLast? =some e→lb e≠0) (hn:bs.length=n) (tA:2≤n) (hx:bs[n - 1]? =some [tU x]) (hs:s≤31) (hxs:x.toNat < 2 ^ (32 - s)) (h:vs.length=bs.length+1∧Us vs∧nv vs=nv bs * 2 ^ s):Dv bs vs n s:=by
 obtain⟨h1,h2,h3⟩:=h
 have hf:=OP hb hn (by omega) hx (by omega) hxs
 have e:dy vs 0 n=nv bs * 2 ^ s:=by rw[←h3];exact IG (by rw[h3];exact hf) (by omega)
 refine⟨by omega,h2,e,Iw h2 (by omega) (by omega) ?_⟩
 have g:=Aj hbt (by intro e;subst e;simp at hn;omega)
 rw[hn]at g
 rw[e]
 have:nv bs * 1≤nv bs * 2 ^ s:=Nat.mul_le_mul_left _ (Nat.pow_pos (by omega))
 omega
def CC (n la Vn:Nat) (vs:Lz) (m:Nat) (ws:List V) (xss:List (Lz)):Prop:=
 ∃ (j:Nat) (z:Int) (us qs:Lz),j≤la+1 - n∧m=j∧ws=[iV .i64 z]∧xss=[us,vs,qs]∧us.length=la+1∧Us us∧qs.length=la+1 - n∧Us qs∧dy us j n < Vn∧((z= -1∧j=0)∨ ∃i:Nat,z=(i:Int)∧j=i+1)
theorem Q1 (j:Nat):((j:Int) - 1= -1∧j=0)∨ ∃i:Nat,(j:Int) - 1=(i:Int)∧j=i+1:=by
 rcases j with _|i
 · exact .inl ⟨by omega,rfl⟩
 · exact .inr ⟨i,by omega,rfl⟩
theorem Da {qs:Lz} {k:Nat} {e:List T} (h:qs[k]? =some e) (hk:qs.length=k+1):qs.getLast? =some e:=by
 rw[List.getLast?_eq_getElem?,hk];simpa using h
theorem one_pos {qs:Lz} {x:Int} (hl:qs.length=1) (h:qs[(0:Int).toNat]? =some [tU x]) (ht: ∀e,qs.getLast? =some e→lb e≠0) (h0:0≤x):1≤x∧nv qs=x.toNat:=by
 have h':qs[0]? =some [tU x]:=h
 have:=ht _ (Da h' (by omega))
 rw[jV]at this
 refine⟨by omega,?_⟩
 match qs,hl with
 | [e],_=>
   simp only[List.getElem?_cons_zero,Option.some.injEq]at h'
   subst h'
   simp[nv,jV]
theorem mo {qs:Lz} {x:Int} {n:Nat} (hn:2≤n) (hl:qs.length=n) (hb:n≤1000000) (h:qs[(IntKind.i64.wrap ((n:Int) - 1)).toNat]? =some [tU x]) (ht: ∀e,qs.getLast? =some e→lb e≠0) (h0:0≤x):0 < x∧qs[n - 1]? =some [tU x]:=by
 rw[bt (by omega) (by omega),show((n:Int) - 1).toNat=n - 1 by omega]at h
 have:=ht _ (Da h (by omega))
 rw[jV]at this
 exact⟨by omega,h⟩
theorem IS {qs:Lz} (h:(qs.length:Int)=0):nv qs=0:=by
 have:qs=[]:=List.eq_nil_of_length_eq_zero (by omega)
 subst this;rfl
theorem eL {ps qs:Lz} {c:Int} (ua:Us ps) (tb: ∀e,qs.getLast? =some e→lb e≠0) (h:E6 c (nv ps) (nv qs)) (hc:¬c < 0):qs.length≤ps.length:=by
 apply Nat.le_of_not_lt
 intro hlt
 have:=zu ua tb hlt
 exact hc (h.1.2 this)
theorem CC.zero {ps bs vs us:Lz} {n s:Nat} (ua:Us ps) (rS:us.length=ps.length+1) (hu2:Us us) (hu3:nv us=nv ps * 2 ^ s) (hD:Dv bs vs n s) (hb: ∀e,bs.getLast? =some e→lb e≠0) (hn:bs.length=n) (tA:2≤n) (hle:n≤ps.length) (hL:ps.length≤400000) {N:Nat} (hN:N=ps.length+1 - n):
 CC n ps.length (dy vs 0 n) vs (ps.length+1 - n) [iV .i64 (IntKind.i64.wrap ((N:Int) - 1))] [us,vs,List.replicate N [tU 0]]:=by
 subst hN
 exact⟨ps.length+1 - n,_,us,_,by omega,rfl,by rw[bt (by omega) (by omega)],rfl,rS,hu2,by simp,Us.replicate _,Nr ua hu3 hb hn (by omega) (by omega) hD.val,Q1 _⟩
theorem NG {us:Lz} {j n la V:Nat} (hU:Us us) (hl:us.length=la+1) (hj:j+1≤la+1 - n) (h:dy us (j+1) n < V):dy us j (n+1) < 4294967296 * V:=by
 obtain⟨x,hx,_,_⟩:=tN hU (k:=j) (by omega)
 exact IT hU hx h
theorem CC.next {fp us qs vs:Lz} {n la V i k:Nat} {d:Int} (hj:i+1≤la+1 - n) (hL:la≤400000) (hl:us.length=la+1) (hl':fp.length=us.length) (hU:Us fp) (hq:qs.length=la+1 - n) (hQ:Us qs) (hs:dy fp i n < V) (BC:0≤d) (Oz:d < 4294967296):
 CC n la V vs i [iV .i64 (IntKind.i64.wrap ((i:Int) - 1))] [fp,vs,qs.set k [tU d]]:=
 ⟨i,_,fp,_,by omega,rfl,by rw[bt (by omega) (by omega)],rfl,by omega,hU,by simp[hq],hQ.set BC Oz,hs,Q1 _⟩
theorem amC {a b c d i n:Nat} (h1:a=i) (h2:b=n+1) (h3:c=n) (h4:d=0): [W.one (C.own 0 1 a b),W.one (C.own 1 1 d c)]=[.one (.own 0 1 i (n+1)), .one (.own 1 1 0 n)]:=by subst h1;subst h2;subst h3;subst h4;rfl
theorem RJ {a b n:Nat} {r:List W} (h:b=n) (h0:a=0):W.one (C.own 0 1 a b)::r= .one (.own 0 1 0 n)::r:=by subst h;subst h0;rfl
theorem aoS {f:Nat→Option Nat} {us vs:Lz}: [(0,bD.row 1 ((tr us).map fun e=>e.map (C.az f))),(1,bD.row 1 ((tr vs).map fun e=>e.map (C.az f)))]=[(0,bD.row 1 (tr us)),(1,bD.row 1 (tr vs))]:=by rw[eG,eG]
theorem NJ {ys bs us vs:Lz} {n s:Nat} (hv:nv bs=nv ys) (hD:Dv bs vs n s) (h:dy us 0 n < dy vs 0 n) {r:Nat} (hr:r=dy us 0 n / 2 ^ s):r < nv ys:=by
 rw[hD.val,hv,Nat.mul_comm]at h
 rw[hr]
 exact Nat.div_lt_of_lt_mul h
theorem nS (xs:Lz) (s:Int) (hx:Us xs) (hl:xs.length≤400000) (hs0:0≤s) (hs:s≤31): ∃ts hout,zQ Tryz.prog 251 [oL 1 xs,oI s] (aT ts) hout∧GN 1 (fun ys=>ys.length=xs.length+1∧Us ys∧nv ys=nv xs * 2 ^ s.toNat) ts hout:=by
 have:=yM xs s.toNat hx hl (by omega)
 rw[Int.toNat_of_nonneg hs0]at this
 exact this
theorem uA (us:Lz) (n:Nat) (s:Int) (hx:Us us) (hn:n≤us.length) (hl:us.length≤400001) (hs0:0≤s) (hs:s≤31): ∃ts hout,Fn Tryz.prog 253 [.one (.own 0 1 0 n),oI s] [(0, .row 1 (tr us))] (aT ts) hout∧GRd 1 us (fun ts=> ∃ys,ts=[oL 1 ys]∧Nm n ys∧nv ys=dy us 0 n / 2 ^ s.toNat) ts hout:=by
 have:=wy us n s.toNat hx hn hl (by omega)
 rw[Int.toNat_of_nonneg hs0]at this
 exact this
theorem gM (k:Nat) (xs ys:Lz) (hl:xs.length≤k) (hx:Us xs) (hm:ys.length≤k) (hy:Us ys) (hk:k≤200000) (fE:2≤k):Tg 243 [oL 1 xs,oL 1 ys] (azA k ys):=by
 refine aL ?_
 refine ah (n:=93) (rs:=[.tmp 4, .tmp 5, .tmp 6]) Tryz.func243 abU WW rfl rfl (by simp) ?_
 repeat' (conv=>whnf
          first
  |(refine aD (fun h=>?_) (fun h=>?_))
  |(refine aC ub (by have:=eL ua tb hc (by omega);first|omega|(simp (disch:=omega) only[aa];omega)) (by have:=eL ua tb hc (by omega);first|omega|(simp (disch:=omega) only[aa];omega)) ?_;rintro _ ⟨x,rfl,hx0,qL⟩ Oi)
  |(refine og (Nat.zero_le _) (by omega) (.inr rfl) ?_)
  |(refine og (by have:=eL ua tb hc (by omega);first|omega|(simp (disch:=omega) only[aa];omega)) (by have:=eL ua tb hc (by omega);first|omega|(simp (disch:=omega) only[aa];omega)) (.inl (by have:=eL ua tb hc (by omega);first|omega|(simp (disch:=omega) only[aa];omega))) ?_)
  |(refine And.intro ⟨(by have:=eL ua tb hc (by omega);first|omega|(simp (disch:=omega) only[aa];omega)),(by have:=eL ua tb hc (by omega);first|omega|(simp (disch:=omega) only[aa];omega)),(by have:=eL ua tb hc (by omega);first|omega|(simp (disch:=omega) only[aa];omega)),(by have:=eL ua tb hc (by omega);first|omega|(simp (disch:=omega) only[aa];omega))⟩ ?_)
  |(refine And.intro ⟨(by have:=eL ua tb hc (by omega);first|omega|(simp (disch:=omega) only[aa];omega)),(by have:=eL ua tb hc (by omega);first|omega|(simp (disch:=omega) only[aa];omega))⟩ ?_)
  |(refine And.intro (by have:=eL ua tb hc (by omega);first|omega|(simp (disch:=omega) only[aa];omega)) ?_)
  |(refine And.intro (by kernel_rfl) ?_)
  |(refine ai rfl (cK xs hx (by omega)) ?_;rintro _ ⟨ps,rfl,⟨la,ua,va,ta,_⟩⟩)
  |(refine ai rfl (cK ys hy (by omega)) ?_;rintro _ ⟨qs,rfl,⟨lb',ub,vb,tb,_⟩⟩)
  |(refine ai rfl (iH ps qs ua ub (by omega) (by omega)) ?_;rintro _ ⟨c,rfl,hc⟩)
  |(refine ai rfl (jb ps ua (by omega)) ?_;rintro _ ⟨ns,rfl,⟨ln,un,tn⟩,vn⟩)
  |(refine ai rfl (wx ps x ua (by omega) (one_pos (by omega) Oi tb hx0).1 qL) ?_;rintro _ ⟨zs,r,rfl,⟨lz,uz,tz⟩,uO,rT⟩)
  |(refine ai rfl (oJ _ (jp _) (by rw[u64_in (by omega) (by omega)];omega)) ?_;rintro _ ⟨os,rfl,⟨lo,uo,to⟩,vo⟩)
  |(refine ai rfl (ki x (mo (by omega) rfl (by omega) Oi tb hx0).1 qL) ?_;rintro _ ⟨s,rfl,hs0,hs1,hxs⟩)
  |(refine BH rfl (nS ps s ua (by omega) hs0 (by omega)) ?_;rintro us ⟨rS,hu2,hu3⟩)
  |(refine BH rfl (nS qs s ub (by omega) hs0 (by omega)) ?_;rintro vs ⟨AE,Ss,hv3⟩)
  |(refine eW [4,8] rfl (wz mm vs i qs.length QG Ss (by omega) (by omega) (by have:=eL ua tb hc (by omega);first|omega|(simp (disch:=omega) only[aa];omega)) (by omega) (by omega) (NG QG HY hj SE) _ (Exists.choose_spec (Dw ub tb rfl (by omega) (mo (by omega) rfl (by omega) Oi tb hx0).2 (by omega) hxs ⟨AE,Ss,hv3⟩).top).1 (Exists.choose_spec (Dw ub tb rfl (by omega) (mo (by omega) rfl (by omega) Oi tb hx0).2 (by omega) hxs ⟨AE,Ss,hv3⟩).top).2) (amC (by omega) (by have:=eL ua tb hc (by omega);first|omega|(simp (disch:=omega) only[aa];omega)) (by omega) rfl) aoS ?_;rintro _ _ ⟨xZ,d,rfl,rfl,hl3,hU3,HZ,BC,Oz⟩)
  |(refine cj (xs:=Qn) rfl hQ2 (by omega) ?_;rintro _ ⟨q0,rfl,_,_⟩ _)
  |(refine Fl rfl rfl (dN Qn hQ2 (by omega)) (RJ (by have:=eL ua tb hc (by omega);first|omega|(simp (disch:=omega) only[aa];omega)) rfl) rfl ?_;rintro _ ⟨k2,rfl,KA,hT⟩)
  |(refine Fl rfl rfl (uA mm qs.length s QG (by have:=eL ua tb hc (by omega);first|omega|(simp (disch:=omega) only[aa];omega)) (by omega) hs0 hs1) (RJ (by omega) rfl) rfl ?_;rintro _ ⟨rs,rfl,⟨lr,ur,tr'⟩,vr⟩)
  |exact EJ rfl (bS 1 rfl) (bS 1 rfl) (bZ rfl) ⟨_,_,_,rfl,⟨by simp,Us.nil⟩,⟨by simp,Us.nil,by simp⟩,fun h=>absurd (vb.symm.trans (IS (by omega))) h⟩
  |exact EJ rfl (bS 1 rfl) (bZ rfl) (bZ rfl) ⟨_,_,_,rfl,⟨by simp,Us.nil⟩,⟨by omega,un,tn⟩,fun _=>by rw[vn, ←vb];exact hc.1.1 (by omega)⟩
  |exact EJ rfl (bZ rfl) (bZ rfl) (bZ rfl) ⟨_,_,_,rfl,⟨by omega,uz⟩,⟨by omega,uo,to⟩,fun _=>by rw[vo,u64_in (by omega) (by omega), ←vb,(one_pos (by omega) Oi tb hx0).2];omega⟩
  |exact EJ rfl (fA rfl rfl (xs:=Qn) rfl (by omega)) (bZ rfl) (bZ rfl) ⟨_,_,_,rfl,⟨by simp only[List.length_take,List.length_drop];omega,hQ2.cut _ _⟩,⟨by omega,ur,tr'⟩,fun _=>NJ vb (Dw ub tb rfl (by omega) (mo (by omega) rfl (by omega) Oi tb hx0).2 (by omega) hxs ⟨AE,Ss,hv3⟩) SE vr⟩
  |(apply bH [9,10,11,12,13,14] [] [14] [(4,1),(8,1),(12,1)] (CC qs.length ps.length (dy vs 0 qs.length) vs) (ps.length+1 - qs.length) [_];(conv=>whnf);exact⟨rfl,rfl,rfl,rfl⟩;exact rfl;exact rfl;exact .cons (aF.az rfl _) (.cons (aF.az rfl _) (.cons (aF.az (aF.replicate _ [tU 0]) _) .nil));exact CC.zero ua rS hu2 hu3 (Dw ub tb rfl (by omega) (mo (by omega) rfl (by omega) Oi tb hx0).2 (by omega) hxs ⟨AE,Ss,hv3⟩) tb rfl (by omega) (eL ua tb hc (by omega)) (by omega) (by have:=eL ua tb hc (by omega);rw[bt (by omega) (by omega)];omega);rintro _ _ _ ⟨j,z,mm,Qn,hj,hmj,rfl,rfl,HY,QG,hql,hQ2,SE,(⟨rfl,rfl⟩|⟨i,rfl,rfl⟩)⟩)
  |(refine au [9,10,11,12,13,14] [] ?_;(conv=>whnf);exact⟨rfl,_,[_],_, .cons (aF.az (aF.az (xs:=xZ) rfl _) _) (.cons (aF.az (aF.az (xs:=vs) rfl _) _) (.cons (aF.az (aF.set (xs:=Qn) rfl _ [tU _]) _) .nil)),CC.next (us:=mm) hj (by omega) HY hl3 hU3 hql hQ2 HZ BC Oz,rfl,rfl,by omega⟩))
 all_goals (conv=>whnf)
theorem IZ {bs:Lz} (h: ∀e,bs.getLast? =some e→lb e≠0) (hl:(bs.length:Int) > 0):nv bs≠0:=by
 have g:=Aj h (by intro e;subst e;simp at hl)
 have:=Nb (bs.length - 1)
 omega
theorem sN (k:Nat) (xs ys:Lz) (hl:xs.length≤k) (hx:Us xs) (hm:ys.length≤k) (hy:Us ys) (hk:k≤200000) (fE:2≤k) (hp:nv ys≠0): ∃ts,Fn Tryz.prog 243 [oL 1 xs,oL 1 ys] [] (aT ts) []∧(aT ts).cq=true∧ ∃qs rs ok,ts=[oL 1 qs,oL 1 rs,oB ok]∧Nm k rs∧nv rs < nv ys:=by
 obtain⟨ts,h1,h2,qs,rs,ok,h3,_,h4,h5⟩:=gM k xs ys hl hx hm hy hk fE
 exact⟨ts,h1,h2,qs,rs,ok,h3,h4,h5 hp⟩
theorem An (k:Nat) (xs ys:Lz) (hl:xs.length≤k) (hx:Us xs) (hm:ys.length≤k) (hy:Us ys) (hk:k≤200000) (fE:2≤k):Tg 242 [oL 1 xs,oL 1 ys] (GL 1 (fun zs=>zs.length≤k∧Us zs)):=by
 refine ah (n:=25) (rs:=[.tmp 4]) Tryz.func242 abV WX rfl rfl (by simp) ?_
 repeat' (conv=>whnf
          first
  |(refine aD (fun h=>?_) (fun h=>?_))
  |(refine ai rfl (jb xs hx (by omega)) ?_;rintro _ ⟨ps,rfl,⟨la,ua,ta⟩,va⟩)
  |(refine ai rfl (jb ys hy (by omega)) ?_;rintro _ ⟨qs,rfl,⟨lb',ub,tb⟩,vb⟩)
  |(refine ai rfl (sN k a b l1 u1 l2 u2 hk fE (IZ t2 (by omega))) ?_;rintro _ ⟨q0,rs,ok,rfl,hN,hlt⟩)
  |exact gLt rfl rfl ⟨l1,u1⟩
  |(apply aO [0,1] [] [0,1] (fun m vs=> ∃a1 b1,(a1.length≤k∧Us a1)∧Nm k b1∧m=nv b1∧vs=[.w (oL 1 a1), .w (oL 1 b1)]) (nv qs) [.w (oL 1 ps), .w (oL 1 qs)];(conv=>whnf);exact⟨rfl,rfl,rfl,rfl⟩;exact rfl;exact rfl;exact⟨ps,qs,⟨by omega,ua⟩,⟨by omega,ub,tb⟩,rfl,rfl⟩;rintro _ _ ⟨a,b,⟨l1,u1⟩,⟨l2,u2,t2⟩,hmb,rfl⟩)
  |(refine au [0,1] [] ?_;(conv=>whnf);exact⟨rfl,_,[_,_],⟨b,rs,⟨l2,u2⟩,hN,rfl,rfl⟩,rfl,rfl,rfl,by omega⟩))
 all_goals (conv=>whnf)
end Go.aU.Cd
end
section
namespace Go.aU.Cd
open Go Go.Proofs
set_option maxRecDepth 100000
theorem M1:iT Tryz.prog 278=some true:=by kernel_rfl
theorem Kb:cN Tryz.prog 278=some 2:=by kernel_rfl
theorem Fi:iT Tryz.prog 280=some true:=by kernel_rfl
theorem E9:cN Tryz.prog 280=some 3:=by kernel_rfl
def Ze:Rc:=Sq (Rg [p 4 (.alloc [zb,zn])]) (Sq (Rg [Mv 5 1,p 6 (.call 241 [t 5]),Mv 1 6]) (Sq (Rg [Mv 7 0,Mv 8 7,Gb 8 (Mv 9 1),Gb 8 (Le 10 9),Gb 8 (Bi 11 .gtr 10 0),Pf 12 8 11,Mv 13 1,p 14 (.build [zb,zn] [(0,1,t 12),(1,1,t 13)]),So 2 4 14]) Rt))
theorem Xh:ae Tryz.prog (Tryz.f224.body.getD .skip)=some Ze:=by kernel_rfl
theorem acL:Tryz.f224.body=some (Tryz.f224.body.getD .skip):=rfl
def YW:Rc:=Sq (Rg [p 2 (.alloc [zb,zn])]) (Sq (Sq (Rg [Mv 3 0,Bi 4 .lss 3 0]) (Cn 4 (Sq (Rg [Mv 5 0,p 6 (.conv .u64 (t 5)),p 7 (.neg (t 6)),p 8 (.call 221 [t 7]),p 9 (.call 224 [(kb true),t 8]),So 2 2 9]) Rt) Sk)) (Sq (Rg [Mv 10 0,p 11 (.conv .u64 (t 10)),p 12 (.call 221 [t 11]),p 13 (.call 224 [(kb false),t 12]),So 2 2 13]) Rt))
theorem WV:ae Tryz.prog (Tryz.f244.body.getD .skip)=some YW:=by kernel_rfl
theorem abT:Tryz.f244.body=some (Tryz.f244.body.getD .skip):=rfl
def Zg:Rc:=Sq (Rg [Bx 1 0,p 2 (.alloc [zb,zn])]) (Sq (Rg [Fa 3 0 1,Ld 4 3,Fa 5 1 1,Ld 6 5,p 7 (.call 224 [t 4,t 6]),So 2 2 7]) Rt)
theorem Xj:ae Tryz.prog (Tryz.f222.body.getD .skip)=some Zg:=by kernel_rfl
theorem acN:Tryz.f222.body=some (Tryz.f222.body.getD .skip):=rfl
def Zx:Rc:=Sq (Rg [Bx 2 0,Bx 3 1,Mk 4 0]) (Sq (Dr [Lo 2 5 2,p 6 (.call 222 [t 5]),Lo 2 7 3,p 8 (.call 222 [t 7]),So 2 2 6,So 2 3 8] [[],[0],[],[2,1],[1,3,0,1],[3,4,0,1,2,3,4]]) (Sq (Bk 0 (Sq (Rg [Fa 10 0 2,Ld 11 10,Mv 12 11,Gb 12 (Fa 13 0 3),Gb 12 (Ld 14 13),Gb 12 (Nt 15 14),Pf 16 12 15,Mv 9 16]) (Cn 9 (Sq (Rg [p 4 (.kF (k (-1)))]) Rt) (Sq (Rg [Fa 18 0 2,Ld 19 18,Nt 20 19,Mv 21 20,Gb 21 (Fa 22 0 3),Gb 21 (Ld 23 22),Pf 24 21 23,Mv 17 24]) (Cn 17 (Sq (Rg [Mk 4 1]) Rt) (Sq (Rg [Fa 26 0 2,Ld 27 26,Mv 25 27]) (Cn 25 (Sq (Rg [Fa 28 1 3,Ld 29 28,Fa 30 1 2,Ld 31 30,p 32 (.call 223 [t 29,t 31]),Mv 4 32]) Rt) Sk))))))) (Sq (Rg [Fa 33 1 2,Ld 34 33,Fa 35 1 3,Ld 36 35,p 37 (.call 223 [t 34,t 36]),Mv 4 37]) Rt)))
theorem XD:ae Tryz.prog (Tryz.f199.body.getD .skip)=some Zx:=by kernel_rfl
theorem adH:Tryz.f199.body=some (Tryz.f199.body.getD .skip):=rfl
def YT:Rc:=Sq (Rg [Bx 1 0,p 2 (.alloc [zb,zn])]) (Sq (Rg [Fa 3 0 1,Ld 4 3,Nt 5 4,Fa 6 1 1,Ld 7 6,p 8 (.call 224 [t 5,t 7]),So 2 2 8]) Rt)
theorem WS:ae Tryz.prog (Tryz.f247.body.getD .skip)=some YT:=by kernel_rfl
theorem abQ:Tryz.f247.body=some (Tryz.f247.body.getD .skip):=rfl
def YU:Rc:=Sq (Rg [Bx 2 0,Bx 3 1,p 4 (.alloc [zb,zn])]) (Sq (Sq (Rg [Fa 9 0 2,Ld 10 9,Fa 11 0 3,Ld 12 11,p 13 (.oT .eql (t 10) (t 12))]) (Cn 13 (Sq (Dr [Fa 14 0 2,Ld 15 14,Fa 16 1 2,Ld 17 16,Fa 18 1 3,Ld 19 18,p 20 (.call 245 [t 17,t 19]),p 21 (.call 224 [t 15,t 20]),So 2 4 21] [[],[0],[],[2],[],[4],[3,5],[1,6,6],[7,7,0,1,2,3,4,5,6,7]]) Rt) Sk)) (Sq (Sq (Rg [Fa 23 1 2,Ld 24 23,Fa 25 1 3,Ld 26 25,p 27 (.call 254 [t 24,t 26]),Mv 22 27,Et 28 22 0,Et 29 22 1,Mv 5 28,Mv 6 29]) (Sq (Rg [Mv 30 6]) (Cn 30 (Sq (Rg [Fa 31 0 2,Ld 32 31,Mv 33 5,p 34 (.call 224 [t 32,t 33]),So 2 4 34]) Rt) Sk))) (Sq (Rg [Fa 36 1 3,Ld 37 36,Fa 38 1 2,Ld 39 38,p 40 (.call 254 [t 37,t 39]),Mv 35 40,Et 41 35 0,Et 42 35 1,Mv 7 41,Mv 8 42]) (Sq (Rg [Fa 43 0 3,Ld 44 43,Mv 45 7,p 46 (.call 224 [t 44,t 45]),So 2 4 46]) Rt))))
theorem WT:ae Tryz.prog (Tryz.f246.body.getD .skip)=some YU:=by kernel_rfl
theorem abR:Tryz.f246.body=some (Tryz.f246.body.getD .skip):=rfl
def Zw:Rc:=Sq (Rg [Bx 2 0,Bx 3 1,p 4 (.alloc [zb,zn])]) (Sq (Dr [Fa 5 0 2,Ld 6 5,Fa 7 0 3,Ld 8 7,p 9 (.oT .neq (t 6) (t 8)),Fa 10 1 2,Ld 11 10,Fa 12 1 3,Ld 13 12,p 14 (.call 225 [t 11,t 13]),p 15 (.call 224 [t 9,t 14]),So 2 4 15] [[],[0],[],[2],[1,3],[],[5],[],[7],[6,8],[4,9,9],[10,10,0,1,2,3,4,5,6,7,8,9,10]]) Rt)
theorem XC:ae Tryz.prog (Tryz.f200.body.getD .skip)=some Zw:=by kernel_rfl
theorem adG:Tryz.f200.body=some (Tryz.f200.body.getD .skip):=rfl
def Y7:Rc:=Sq (Rg [Bx 1 0,Mk 2 0,Mb 3 false]) (Sq (Rg [Lo 2 7 1,p 8 (.call 222 [t 7]),So 2 1 8]) (Sq (Sq (Rg [Fa 9 1 1,Ld 10 9,Le 11 10,Bi 12 .gtr 11 2]) (Cn 12 (Sq (Rg [Mk 2 0,Mb 3 false]) Rt) Sk)) (Sq (Rg [p 4 (.kF (.c (.w (.one (.t (.val (.int .u64 0)))))))]) (Sq (Sq (Rg [Fa 13 1 1,Ld 14 13,Le 15 14,Mk 16 0]) (Bk 0 (Lp (Sq (Rg [Bt 17 .lss 16 15]) (Sq (Cn 17 Sk (Ex 0)) (Sq (Bk 1 (Sq (Rg [Mv 18 16,Ia 19 1 14 16,Ld 20 19,Mv 5 18,Mv 6 20]) (Rg [Mv 21 4,Mv 22 6,p 23 (.conv .u64 (t 22)),Mv 24 5,p 25 (.bin .mul (k 32) (t 24)),Bt 26 .shl 23 25,Bt 27 .or 21 26,Mv 4 27]))) (Rg [Bi 28 .add 16 1,Mv 16 28]))))))) (Sq (Bk 2 (Sq (Rg [Fa 30 0 1,Ld 31 30,Mv 32 31,Gb 32 (Mv 33 4),Gb 32 (p 34 (.bin .leq (t 33) (.c (.w (.one (.t (.val (.int .u64 9223372036854775808)))))))),Pf 35 32 34,Mv 29 35]) (Cn 29 (Sq (Rg [Mv 36 4,p 37 (.neg (t 36)),p 38 (.conv .i64 (t 37)),Mv 2 38,Mb 3 true]) Rt) (Sq (Rg [Fa 40 0 1,Ld 41 40,Nt 42 41,Mv 43 42,Gb 43 (Mv 44 4),Gb 43 (p 45 (.bin .lss (t 44) (.c (.w (.one (.t (.val (.int .u64 9223372036854775808)))))))),Pf 46 43 45,Mv 39 46]) (Cn 39 (Sq (Rg [Mv 47 4,p 48 (.conv .i64 (t 47)),Mv 2 48,Mb 3 true]) Rt) Sk))))) (Sq (Rg [Mk 2 0,Mb 3 false]) Rt))))))
theorem W8:ae Tryz.prog (Tryz.f234.body.getD .skip)=some Y7:=by kernel_rfl
theorem acC:Tryz.f234.body=some (Tryz.f234.body.getD .skip):=rfl
abbrev Fb (b:Bool) (xs:Lz):W:= .agg [.t (tB b), .t (.aA 1 xs)]
def M9 (k:Nat) (ts:List W):Prop:= ∃b xs,ts=[Fb b xs]∧xs.length≤k∧Us xs
def GIB (ts:List W):Prop:= ∃n b,ts=[oI n,oB b]
theorem kW (n:Int):IntKind.u64.wrap n < 18446744073709551616:=by rw[qo];omega
theorem dm (b:Bool) (k:Nat) (xs:Lz) (hl:xs.length≤k) (hx:Us xs) (hk:k≤1000000):Tg 224 [oB b,oL 1 xs] (M9 k):=by
 refine aL ?_
 refine ah (n:=15) (rs:=[.cell 4 278]) Tryz.func224 acL Xh rfl rfl (by simp) ?_
 repeat' (conv=>whnf
          first
  |(refine aI (fun h=>?_) (fun h=>?_))
  |(refine ai rfl (jb xs hx (by omega)) ?_;rintro _ ⟨ys,rfl,⟨l1,u1,_⟩,_⟩)
  |exact nj rfl (bI M1 Kb rfl rfl (Nat.le_refl _) rfl (cR.refl _)) ⟨_,ys,rfl,by omega,u1⟩)
 all_goals (conv=>whnf)
theorem uH (n:Int):Tg 244 [oI n] (M9 2):=by
 refine aL ?_
 refine ah (n:=14) (rs:=[.cell 2 278]) Tryz.func244 abT WV rfl rfl (by simp) ?_
 repeat' (conv=>whnf
          first
  |(refine aD (fun h=>?_) (fun h=>?_))
  |(refine ai rfl (oJ _ (jp _) (kW _)) ?_;rintro _ ⟨ys,rfl,⟨l1,u1,_⟩,_⟩)
  |(refine ai rfl (dm _ 2 ys (by omega) u1 (by omega)) ?_;rintro _ ⟨b,zs,rfl,l2,u2⟩)
  |exact nj rfl (bI M1 Kb rfl rfl (Nat.le_refl _) rfl (cR.refl _)) ⟨_,zs,rfl,by omega,u2⟩)
 all_goals (conv=>whnf)
theorem gO (b:Bool) (k:Nat) (xs:Lz) (hl:xs.length≤k) (hx:Us xs) (hk:k≤1000000):Tg 222 [Fb b xs] (M9 k):=by
 refine aL ?_
 refine ah (n:=8) (rs:=[.cell 2 278]) Tryz.func222 acN Xj rfl rfl (by simp) ?_
 repeat' (conv=>whnf
          first
  |(refine ai rfl (dm _ k xs hl hx hk) ?_;rintro _ ⟨b,zs,rfl,l2,u2⟩)
  |exact nj rfl (bI M1 Kb rfl rfl (Nat.le_refl _) rfl (cR.refl _)) ⟨_,zs,rfl,by omega,u2⟩)
 all_goals (conv=>whnf)
theorem Az (b c:Bool) (k:Nat) (xs ys:Lz) (hl:xs.length≤k) (hx:Us xs) (hm:ys.length≤k) (hy:Us ys) (hk:k≤1000000):Tg 199 [Fb b xs,Fb c ys] GI:=by
 refine ah (n:=38) (rs:=[.tmp 4]) Tryz.func199 adH XD rfl rfl (by simp) ?_
 repeat' (conv=>whnf
          first
  |(refine aI (fun h=>?_) (fun h=>?_))
  |(refine And.intro (by kernel_rfl) ?_)
  |(refine aB rfl (gO _ k xs hl hx hk) ?_;rintro _ ⟨b,zs,rfl,l2,u2⟩)
  |(refine aB rfl (gO _ k ys hm hy hk) ?_;rintro _ ⟨b,ws,rfl,l3,u3⟩)
  |(refine ai rfl (iH zs ws u2 u3 (by omega) (by omega)) ?_;rintro _ ⟨n,rfl,_⟩)
  |(refine ai rfl (iH ws zs u3 u2 (by omega) (by omega)) ?_;rintro _ ⟨n,rfl,_⟩)
  |exact gI rfl rfl)
 all_goals (conv=>whnf)
theorem Ay (b:Bool) (k:Nat) (xs:Lz) (hl:xs.length≤k) (hx:Us xs) (hk:k≤1000000):Tg 247 [Fb b xs] (M9 k):=by
 refine aL ?_
 refine ah (n:=9) (rs:=[.cell 2 278]) Tryz.func247 abQ WS rfl rfl (by simp) ?_
 repeat' (conv=>whnf
          first
  |(refine ai rfl (dm _ k xs hl hx hk) ?_;rintro _ ⟨b,zs,rfl,l2,u2⟩)
  |exact nj rfl (bI M1 Kb rfl rfl (Nat.le_refl _) rfl (cR.refl _)) ⟨_,zs,rfl,by omega,u2⟩)
 all_goals (conv=>whnf)
theorem AA (b c:Bool) (k:Nat) (xs ys:Lz) (hl:xs.length≤k) (hx:Us xs) (hm:ys.length≤k) (hy:Us ys) (hk:k≤400000):Tg 246 [Fb b xs,Fb c ys] (M9 (k+1)):=by
 refine aL ?_
 refine ah (n:=47) (rs:=[.cell 4 278]) Tryz.func246 abR WT rfl rfl (by simp) ?_
 repeat' (conv=>whnf
          first
  |(refine aD (fun h=>?_) (fun h=>?_))
  |(refine aI (fun h=>?_) (fun h=>?_))
  |(refine And.intro (by kernel_rfl) ?_)
  |(refine aB rfl (jU xs ys hx hy (by omega) (by omega)) ?_;rintro _ ⟨zs,rfl,⟨l1,u1,_⟩⟩)
  |(refine ai rfl (rM xs ys hx hy (by omega) (by omega)) ?_;rintro _ ⟨zs,q,rfl,⟨l1,u1,_⟩⟩)
  |(refine ai rfl (rM ys xs hy hx (by omega) (by omega)) ?_;rintro _ ⟨ws,q2,rfl,⟨l4,u4,_⟩⟩)
  |(refine ai rfl (dm _ (k+1) zs (by omega) u1 (by omega)) ?_;rintro _ ⟨b,ws,rfl,l2,u2⟩)
  |(refine aB rfl (dm _ (k+1) zs (by omega) u1 (by omega)) ?_;rintro _ ⟨b,ws,rfl,l2,u2⟩)
  |(refine ai rfl (dm _ (k+1) ws (by omega) u4 (by omega)) ?_;rintro _ ⟨b,ws,rfl,l2,u2⟩)
  |exact nj rfl (bI M1 Kb rfl rfl (Nat.le_refl _) rfl (cR.refl _)) ⟨_,ws,rfl,by omega,u2⟩)
 all_goals (conv=>whnf)
theorem iJ (b c:Bool) (k:Nat) (xs ys:Lz) (hl:xs.length≤k) (hx:Us xs) (hm:ys.length≤k) (hy:Us ys) (hk:k≤400000):Tg 200 [Fb b xs,Fb c ys] (M9 (2 * k)):=by
 refine aL ?_
 refine ah (n:=16) (rs:=[.cell 4 278]) Tryz.func200 adG XC rfl rfl (by simp) ?_
 repeat' (conv=>whnf
          first
  |(refine And.intro (by kernel_rfl) ?_)
  |(refine aB rfl (iG xs ys hx hy (by omega) (by omega)) ?_;rintro _ ⟨zs,rfl,⟨l1,u1,_⟩⟩)
  |(refine aB rfl (dm _ (2 * k) zs (by omega) u1 (by omega)) ?_;rintro _ ⟨b,ws,rfl,l2,u2⟩)
  |exact nj rfl (bI M1 Kb rfl rfl (Nat.le_refl _) rfl (cR.refl _)) ⟨_,ws,rfl,by omega,u2⟩)
 all_goals (conv=>whnf)
theorem wD (b:Bool) (k:Nat) (xs:Lz) (hl:xs.length≤k) (hx:Us xs) (hk:k≤1000000):Tg 234 [Fb b xs] GIB:=by
 refine aL ?_
 refine ah (n:=49) (rs:=[.tmp 2, .tmp 3]) Tryz.func234 acC W8 rfl rfl (by simp) ?_
 repeat' (conv=>whnf
          first
  |(refine aD (fun h=>?_) (fun h=>?_))
  |(refine aI (fun h=>?_) (fun h=>?_))
  |(refine And.intro (show 0≤IntKind.i64.wrap (32 * (i:Int)) by rw[aa (by omega) (by omega)];omega) ?_)
  |(refine aC u2 (by first|omega|exact cF (by first|omega|(simp (disch:=omega) only[aa];omega))|(simp (disch:=omega) only[aa];omega)) (by first|omega|exact cA (by omega)|(simp (disch:=omega) only[aa];omega)) ?_;rintro _ ⟨x,rfl,hx0,qL⟩ hs)
  |(refine ai rfl (gO _ k xs hl hx hk) ?_;rintro _ ⟨b,ys,rfl,l2,u2⟩)
  |exact dz rfl (bZ rfl) (bZ rfl) ⟨_,_,rfl⟩
  |(apply aO [1,4,14,15,16] [] [4,16] (fun m vs=> ∃ (i:Nat) (n:Int),i≤ys.length∧m=ys.length - i∧vs=[iV .u64 n,iV .i64 i]) (ys.length) [iV .u64 0,iV .i64 0];(conv=>whnf);exact⟨rfl,rfl,rfl,rfl⟩;exact rfl;exact rfl;exact⟨0,0,by omega,rfl,rfl⟩;rintro _ _ ⟨i,n,hi,rfl,rfl⟩)
  |(refine au [1,4,14,15,16] [] ?_;(conv=>whnf);exact⟨rfl,_,[_,_],⟨i+1,_,by omega,rfl,by rw[aa (n:=(i:Int)+1) (by omega) (by omega)];rfl⟩,rfl,rfl,rfl,by omega⟩))
 all_goals (conv=>whnf)
def Zi:Rc:=Sq (Rg [Mb 2 false]) (Sq (Rg [Mv 3 0,p 4 (.call 223 [t 3,kn]),Bi 5 .eql 4 0,Mv 2 5]) Rt)
theorem Xl:ae Tryz.prog (Tryz.f220.body.getD .skip)=some Zi:=by kernel_rfl
theorem acP:Tryz.f220.body=some (Tryz.f220.body.getD .skip):=rfl
def Zv:Rc:=Sq (Rg [p 2 (.alloc [zb,zn])]) (Sq (Rg [Mv 3 0,p 4 (.build [zb,zn] [(1,1,t 3)]),So 2 2 4]) Rt)
theorem XB:ae Tryz.prog (Tryz.f201.body.getD .skip)=some Zv:=by kernel_rfl
theorem adF:Tryz.f201.body=some (Tryz.f201.body.getD .skip):=rfl
def Zy:Rc:=Sq (Rg [Bx 1 0,p 2 (.alloc [zb,zn,zn])]) (Sq (Sq (Rg [Fa 3 2 1,Ld 4 3,p 5 (.call 220 [t 4])]) (Cn 5 (Sq (Rg [p 6 (.call 221 [(.c (.w (.one (.t (.val (.int .u64 1))))))]),p 7 (.build [zb,zn,zn] [(2,1,t 6)]),So 3 2 7]) Rt) Sk)) (Sq (Rg [Lo 3 8 1,So 3 2 8]) Rt))
theorem XE:ae Tryz.prog (Tryz.f198.body.getD .skip)=some Zy:=by kernel_rfl
theorem adI:Tryz.f198.body=some (Tryz.f198.body.getD .skip):=rfl
def Zc:Rc:=Sq (Rg [Bx 2 0,p 4 (.alloc [zb,zn,zn])]) (Sq (Rg [Fa 12 1 2,Ld 13 12,Mv 14 1,p 15 (.call 242 [t 13,t 14]),Mv 5 15]) (Sq (Rg [Fa 17 1 2,Ld 18 17,Mv 19 5,p 20 (.call 243 [t 18,t 19]),Mv 16 20,Et 21 16 0,Et 22 16 1,Et 23 16 2,Mv 6 21,Mv 7 22,Mv 8 23]) (Sq (Rg [Mv 25 1,Mv 26 5,p 27 (.call 243 [t 25,t 26]),Mv 24 27,Et 28 24 0,Et 29 24 1,Et 30 24 2,Mv 9 28,Mv 10 29,Mv 11 30]) (Sq (Rg [Fa 31 0 2,Ld 32 31,Mv 33 6,p 34 (.build [zb,zn] [(0,1,t 32),(1,1,t 33)]),p 35 (.call 222 [t 34]),Mv 36 9,p 37 (.build [zb,zn,zn] [(0,2,t 35),(2,1,t 36)]),So 3 4 37]) Rt))))
theorem Xd:ae Tryz.prog (Tryz.f229.body.getD .skip)=some Zc:=by kernel_rfl
theorem acH:Tryz.f229.body=some (Tryz.f229.body.getD .skip):=rfl
def Y8:Rc:=Sq (Rg [p 4 (.alloc [zb,zn,zn]),Mb 5 false]) (Sq (Sq (Rg [Mv 8 1,Bi 9 .eql 8 0]) (Cn 9 (Sq (Rg [p 10 (.build [zb,zn,zn] []),So 3 4 10,Mb 5 false]) Rt) Sk)) (Sq (Rg [Mv 11 0,p 12 (.call 244 [t 11]),Mv 13 1,p 14 (.call 244 [t 13]),p 6 (.alloc [zb,zn]),p 7 (.alloc [zb,zn]),So 2 6 12,So 2 7 14]) (Sq (Rg [Fa 15 0 6,Ld 16 15,Fa 17 0 7,Ld 18 17,p 19 (.oT .neq (t 16) (t 18)),Fa 20 0 6,So 1 20 19]) (Sq (Rg [Lo 2 21 6,Fa 22 1 7,Ld 23 22,p 24 (.call 229 [t 21,t 23]),So 3 4 24,Mb 5 true]) Rt))))
theorem W9:ae Tryz.prog (Tryz.f233.body.getD .skip)=some Y8:=by kernel_rfl
theorem acD:Tryz.f233.body=some (Tryz.f233.body.getD .skip):=rfl
def ZN:Rc:=Sq (Rg [Bx 2 0,Bx 3 1,Mk 4 0]) (Sq (Dr [Lo 3 5 2,p 6 (.call 198 [t 5]),Lo 3 7 3,p 8 (.call 198 [t 7]),So 3 2 6,So 3 3 8] [[],[0],[],[2,1],[1,3,0,1],[3,4,0,1,2,3,4]]) (Sq (Dr [Fa 9 0 2,Lo 2 10 9,Fa 11 2 3,Ld 12 11,p 13 (.call 201 [t 12]),p 14 (.call 200 [t 10,t 13]),Fa 15 0 3,Lo 2 16 15,Fa 17 2 2,Ld 18 17,p 19 (.call 201 [t 18]),p 20 (.call 200 [t 16,t 19]),p 21 (.call 199 [t 14,t 20]),Mv 4 21] [[],[0],[],[2],[3],[1,4,4],[],[6],[],[8],[9,5],[7,10,10],[5,11,11],[12,12,0,1,2,3,4,5,6,7,8,9,10,11,12]]) Rt))
theorem XW:ae Tryz.prog (Tryz.f177.body.getD .skip)=some ZN:=by kernel_rfl
theorem adZ:Tryz.f177.body=some (Tryz.f177.body.getD .skip):=rfl
def Y4:Rc:=Sq (Rg [Bx 1 0,p 2 (.alloc [zb,zn,zn])]) (Sq (Rg [Lo 3 3 1,p 4 (.call 198 [t 3]),So 3 1 4]) (Sq (Dr [Fa 5 0 1,Lo 2 6 5,p 7 (.call 247 [t 6]),Fa 8 2 1,Ld 9 8,p 10 (.call 229 [t 7,t 9]),So 3 2 10] [[],[0],[1],[],[3],[2,4,2],[5,5,0,1,2,3,4,5]]) Rt))
theorem W5:ae Tryz.prog (Tryz.f237.body.getD .skip)=some Y4:=by kernel_rfl
theorem abZ:Tryz.f237.body=some (Tryz.f237.body.getD .skip):=rfl
def Y5:Rc:=Sq (Rg [Bx 2 0,Bx 3 1,p 4 (.alloc [zb,zn,zn])]) (Sq (Dr [Lo 3 6 2,p 7 (.call 198 [t 6]),Lo 3 8 3,p 9 (.call 198 [t 8]),So 3 2 7,So 3 3 9] [[],[0],[],[2,1],[1,3,0,1],[3,4,0,1,2,3,4]]) (Sq (Dr [Fa 10 0 2,Lo 2 11 10,Fa 12 2 3,Ld 13 12,p 14 (.call 201 [t 13]),p 15 (.call 200 [t 11,t 14]),Fa 16 0 3,Lo 2 17 16,Fa 18 2 2,Ld 19 18,p 20 (.call 201 [t 19]),p 21 (.call 200 [t 17,t 20]),p 22 (.call 246 [t 15,t 21]),p 5 (.alloc [zb,zn]),So 2 5 22] [[],[0],[],[2],[3],[1,4,4],[],[6],[],[8],[9,5],[7,10,10],[5,11,11],[],[13,12,12,0,1,2,3,4,5,6,7,8,9,10,11,12,13]]) (Sq (Dr [Lo 2 23 5,Fa 24 2 2,Ld 25 24,Fa 26 2 3,Ld 27 26,p 28 (.call 225 [t 25,t 27]),p 29 (.call 229 [t 23,t 28]),So 3 4 29] [[],[],[1],[],[3],[2,4],[0,5,5],[6,6,0,1,2,3,4,5,6]]) Rt)))
theorem W6:ae Tryz.prog (Tryz.f236.body.getD .skip)=some Y5:=by kernel_rfl
theorem acA:Tryz.f236.body=some (Tryz.f236.body.getD .skip):=rfl
def Zl:Rc:=Sq (Rg [Bx 2 0,Bx 3 1,p 4 (.alloc [zb,zn,zn])]) (Sq (Dr [Lo 3 5 2,Lo 3 6 3,p 7 (.call 237 [t 6]),p 8 (.call 236 [t 5,t 7]),So 3 4 8] [[],[],[1],[0,2,2],[3,3,0,1,2,3]]) Rt)
theorem Xp:ae Tryz.prog (Tryz.f215.body.getD .skip)=some Zl:=by kernel_rfl
theorem acT:Tryz.f215.body=some (Tryz.f215.body.getD .skip):=rfl
def Zb:Rc:=Sq (Rg [Bx 2 0,Bx 3 1,p 4 (.alloc [zb,zn,zn])]) (Sq (Dr [Lo 3 5 2,p 6 (.call 198 [t 5]),Lo 3 7 3,p 8 (.call 198 [t 7]),So 3 2 6,So 3 3 8] [[],[0],[],[2,1],[1,3,0,1],[3,4,0,1,2,3,4]]) (Sq (Dr [Fa 9 0 2,Lo 2 10 9,Fa 11 0 3,Lo 2 12 11,p 13 (.call 200 [t 10,t 12]),Fa 14 2 2,Ld 15 14,Fa 16 2 3,Ld 17 16,p 18 (.call 225 [t 15,t 17]),p 19 (.call 229 [t 13,t 18]),So 3 4 19] [[],[0],[],[2],[1,3],[],[5],[],[7],[6,8,4],[4,9,9],[10,10,0,1,2,3,4,5,6,7,8,9,10]]) Rt))
theorem Xc:ae Tryz.prog (Tryz.f230.body.getD .skip)=some Zb:=by kernel_rfl
theorem acG:Tryz.f230.body=some (Tryz.f230.body.getD .skip):=rfl
def Zr:Rc:=Sq (Rg [Bx 2 0,Bx 3 1,p 4 (.alloc [zb,zn,zn]),Mb 5 false]) (Sq (Dr [Lo 3 7 2,p 8 (.call 198 [t 7]),Lo 3 9 3,p 10 (.call 198 [t 9]),So 3 2 8,So 3 3 10] [[],[0],[],[2,1],[1,3,0,1],[3,4,0,1,2,3,4]]) (Sq (Sq (Rg [Fa 11 0 3,Fa 12 1 11,Ld 13 12,p 14 (.call 220 [t 13])]) (Cn 14 (Sq (Rg [p 15 (.build [zb,zn,zn] []),So 3 4 15,Mb 5 false]) Rt) Sk)) (Sq (Dr [Fa 16 0 2,Fa 17 0 16,Ld 18 17,Fa 19 0 3,Fa 20 0 19,Ld 21 20,p 22 (.oT .neq (t 18) (t 21)),Fa 23 0 2,Fa 24 1 23,Ld 25 24,Fa 26 2 3,Ld 27 26,p 28 (.call 225 [t 25,t 27]),p 29 (.build [zb,zn] [(0,1,t 22),(1,1,t 28)]),p 6 (.alloc [zb,zn]),So 2 6 29] [[],[0],[1],[],[3],[4],[2,5],[],[7],[8],[],[10],[9,11],[6,12],[],[14,13,12,0,1,2,3,4,5,6,7,8,9,10,11,12,13,14]]) (Sq (Dr [Lo 2 30 6,Fa 31 2 2,Ld 32 31,Fa 33 0 3,Fa 34 1 33,Ld 35 34,p 36 (.call 225 [t 32,t 35]),p 37 (.call 229 [t 30,t 36]),So 3 4 37,Mb 5 true] [[],[],[1],[],[3],[4],[2,5],[0,6,6],[7,7,0,1,2,3,4,5,6,7],[8,0,1,2,3,4,5,6,7,8]]) Rt))))
theorem Xu:ae Tryz.prog (Tryz.f210.body.getD .skip)=some Zr:=by kernel_rfl
theorem acY:Tryz.f210.body=some (Tryz.f210.body.getD .skip):=rfl
def Y6:Rc:=Sq (Rg [Bx 1 0,p 2 (.alloc [zb,zn])]) (Sq (Rg [Lo 3 7 1,p 8 (.call 198 [t 7]),So 3 1 8]) (Sq (Rg [Fa 9 0 1,Fa 10 1 9,Ld 11 10,Fa 12 0 1,Fa 13 1 12,Ld 14 13,p 15 (.call 245 [t 11,t 14]),Mv 3 15]) (Sq (Dr [Mv 17 3,Fa 18 2 1,Ld 19 18,p 20 (.call 245 [t 17,t 19]),Fa 21 2 1,Ld 22 21,Fa 23 2 1,Ld 24 23,p 25 (.call 245 [t 22,t 24]),p 26 (.call 243 [t 20,t 25]),Mv 16 26,Et 27 16 0,Et 28 16 1,Et 29 16 2,Mv 4 27,Mv 5 28,Mv 6 29] [[],[],[1],[0,2],[],[4],[],[6],[5,7,3],[3,8,8],[9],[10],[10],[10],[11,9,0,1,2,3,4,5,6,7,8,9,10,11],[12,14,0,1,2,3,4,5,6,7,8,9,10,11,12,14],[13,15,0,1,2,3,4,5,6,7,8,9,10,11,12,13,14,15]]) (Sq (Rg [Fa 30 0 1,Fa 31 0 30,Ld 32 31,Mv 33 4,p 34 (.build [zb,zn] [(0,1,t 32),(1,1,t 33)]),p 35 (.call 222 [t 34]),So 2 2 35]) Rt))))
theorem W7:ae Tryz.prog (Tryz.f235.body.getD .skip)=some Y6:=by kernel_rfl
theorem acB:Tryz.f235.body=some (Tryz.f235.body.getD .skip):=rfl
abbrev ir (b:Bool) (xs ds:Lz):W:= .agg [.t (tB b), .t (.aA 1 xs), .t (.aA 1 ds)]
def wR (k:Nat) (ts:List W):Prop:= ∃b xs ds,ts=[ir b xs ds]∧(xs.length≤k∧Us xs)∧ds.length≤k∧Us ds
def HJ (k:Nat) (ts:List W):Prop:= ∃b xs ds q,ts=[ir b xs ds,oB q]∧(xs.length≤k∧Us xs)∧ds.length≤k∧Us ds
theorem dU {r s:List C} (h:cR r s):cR (.t iu::r) (.t (.aA 1 [])::s):= .cons (.nil 1) h
theorem fe {c:C} {r s:List C} (h:cR r s):cR (c::r) (c::s):= .cons (.refl c) h
theorem yN (xs:Lz) (hx:Us xs) (hl:xs.length≤1000000): ∃ts,Fn Tryz.prog 223 [oL 1 xs, .one (.t iu)] [] (aT ts) []∧(aT ts).cq=true∧nN (fun n=>E6 n (nv xs) (nv [])) ts:=
 Dn (iH xs [] hx Us.nil hl (by simp)) (.cons (zP.refl _) (.cons (.one (.nil 1)) .nil))
theorem uj (k:Nat) (xs:Lz) (hl:xs.length≤k) (hx:Us xs) (hk:k≤1000000):Tg 220 [oL 1 xs] GB:=by
 refine ah (n:=6) (rs:=[.tmp 2]) Tryz.func220 acP Xl rfl rfl (by simp) ?_
 repeat' (conv=>whnf
          first
  |(refine ai rfl (yN xs hx (by omega)) ?_;rintro _ ⟨n,rfl,_⟩)
  |exact gB rfl rfl)
 all_goals (conv=>whnf)
theorem gG (xs:Lz): ∃ts,Fn Tryz.prog 201 [oL 1 xs] [] (aT ts) []∧(aT ts).cq=true∧(fun ts=>ts=[Fb false xs]) ts:=by
 refine aL ?_
 refine ah (n:=5) (rs:=[.cell 2 278]) Tryz.func201 adF XB rfl rfl (by simp) ?_
 repeat' (conv=>whnf
          first
  |exact nj rfl (bI M1 Kb rfl rfl (Nat.le_refl _) rfl (cR.refl _)) rfl)
 all_goals (conv=>whnf)
theorem di (b:Bool) (k:Nat) (xs ds:Lz) (hl:xs.length≤k) (hx:Us xs) (hm:ds.length≤k) (hd:Us ds) (hk:k≤1000000) (fE:2≤k):Tg 198 [ir b xs ds] (wR k):=by
 refine aL ?_
 refine ah (n:=9) (rs:=[.cell 2 280]) Tryz.func198 adI XE rfl rfl (by simp) ?_
 repeat' (conv=>whnf
          first
  |(refine aI (fun h=>?_) (fun h=>?_))
  |(refine ai rfl (uj k ds hm hd hk) ?_;rintro _ ⟨q,rfl⟩)
  |(refine ai rfl (oJ 1 (by omega) (by omega)) ?_;rintro _ ⟨ys,rfl,⟨l1,u1,_⟩,_⟩)
  |exact nj rfl (bI Fi E9 rfl rfl (Nat.le_refl _) rfl (cR.refl _)) ⟨_,xs,ds,rfl,⟨hl,hx⟩,hm,hd⟩
  |exact nj rfl (bI Fi E9 rfl rfl (Nat.le_refl _) rfl (fe (dU (fe .nil)))) ⟨_,[],ys,rfl,⟨by simp,Us.nil⟩,by omega,u1⟩)
 all_goals (conv=>whnf)
theorem gF (b:Bool) (k:Nat) (xs ds:Lz) (hl:xs.length≤k) (hx:Us xs) (hm:ds.length≤k) (hd:Us ds) (hk:k≤200000) (fE:2≤k):Tg 229 [Fb b xs,oL 1 ds] (wR k):=by
 refine aL ?_
 refine ah (n:=38) (rs:=[.cell 4 280]) Tryz.func229 acH Xd rfl rfl (by simp) ?_
 repeat' (conv=>whnf
          first
  |(refine ai rfl (An k xs ds hl hx hm hd hk fE) ?_;rintro _ ⟨gs,rfl,lg,ug⟩)
  |(refine ai rfl (gM k xs gs hl hx lg ug hk fE) ?_;rintro _ ⟨qs,rs,ok,rfl,⟨l1,u1⟩,⟨l2,u2,_⟩,_⟩)
  |(refine ai rfl (gM k ds gs hm hd lg ug hk fE) ?_;rintro _ ⟨Qn,rs2,ok2,rfl,⟨l3,u3⟩,⟨l4,u4,_⟩,_⟩)
  |(refine ai rfl (gO _ k qs l1 u1 (by omega)) ?_;rintro _ ⟨c,ws,rfl,l5,u5⟩)
  |exact nj rfl (bI Fi E9 rfl rfl (Nat.le_refl _) rfl (cR.refl _)) ⟨_,ws,Qn,rfl,⟨l5,u5⟩,l3,u3⟩)
 all_goals (conv=>whnf)
theorem Af (n d:Int):Tg 233 [oI n,oI d] (HJ 2):=by
 refine aL ?_
 refine ah (n:=25) (rs:=[.cell 4 280, .tmp 5]) Tryz.func233 acD W9 rfl rfl (by simp) ?_
 repeat' (conv=>whnf
          first
  |(refine aD (fun h=>?_) (fun h=>?_))
  |(refine ai rfl (uH n) ?_;rintro _ ⟨b,xs,rfl,l1,u1⟩)
  |(refine ai rfl (uH d) ?_;rintro _ ⟨c,ds,rfl,l2,u2⟩)
  |(refine ai rfl (gF _ 2 xs ds l1 u1 l2 u2 (by omega) (by omega)) ?_;rintro _ ⟨e,ys,es,rfl,⟨l3,u3⟩,l4,u4⟩)
  |exact dz rfl (bI Fi E9 rfl rfl (Nat.le_refl _) rfl (cR.refl _)) (bZ rfl) ⟨_,ys,es,_,rfl,⟨l3,u3⟩,l4,u4⟩
  |exact dz rfl (bI Fi E9 rfl rfl (Nat.le_refl _) rfl (fe (dU (dU .nil)))) (bZ rfl) ⟨_,[],[],_,rfl,⟨by simp,Us.nil⟩,by simp,Us.nil⟩)
 all_goals (conv=>whnf)
theorem D9 (b c:Bool) (k:Nat) (xs ds ys es:Lz) (hl:xs.length≤k) (hx:Us xs) (hm:ds.length≤k) (hd:Us ds) (rV:ys.length≤k) (hy:Us ys) (qN:es.length≤k) (he:Us es) (hk:k≤200000) (fE:2≤k):Tg 177 [ir b xs ds,ir c ys es] GI:=by
 refine ah (n:=22) (rs:=[.tmp 4]) Tryz.func177 adZ XW rfl rfl (by simp) ?_
 repeat' (conv=>whnf
          first
  |(refine And.intro (by kernel_rfl) ?_)
  |(refine aB rfl (di _ k xs ds hl hx hm hd (by omega) fE) ?_;rintro _ ⟨b1,x1,d1,rfl,⟨l1,u1⟩,l2,u2⟩)
  |(refine aB rfl (di _ k ys es rV hy qN he (by omega) fE) ?_;rintro _ ⟨b2,x2,d2,rfl,⟨l3,u3⟩,l4,u4⟩)
  |(refine aB rfl (gG d2) ?_;rintro _ rfl)
  |(refine aB rfl (gG d1) ?_;rintro _ rfl)
  |(refine aB rfl (iJ _ _ k x1 d2 l1 u1 l4 u4 (by omega)) ?_;rintro _ ⟨b3,x3,rfl,l5,u5⟩)
  |(refine aB rfl (iJ _ _ k x2 d1 l3 u3 l2 u2 (by omega)) ?_;rintro _ ⟨b4,x4,rfl,l6,u6⟩)
  |(refine aB rfl (Az _ _ (2 * k) x3 x4 l5 u5 l6 u6 (by omega)) ?_;rintro _ ⟨n,rfl⟩)
  |exact gI rfl rfl)
 all_goals (conv=>whnf)
theorem D6 (b:Bool) (k:Nat) (xs ds:Lz) (hl:xs.length≤k) (hx:Us xs) (hm:ds.length≤k) (hd:Us ds) (hk:k≤200000) (fE:2≤k):Tg 237 [ir b xs ds] (wR k):=by
 refine aL ?_
 refine ah (n:=11) (rs:=[.cell 2 280]) Tryz.func237 abZ W5 rfl rfl (by simp) ?_
 repeat' (conv=>whnf
          first
  |(refine And.intro (by kernel_rfl) ?_)
  |(refine ai rfl (di _ k xs ds hl hx hm hd (by omega) fE) ?_;rintro _ ⟨b1,x1,d1,rfl,⟨l1,u1⟩,l2,u2⟩)
  |(refine aB rfl (Ay _ k x1 l1 u1 (by omega)) ?_;rintro _ ⟨b3,x3,rfl,l5,u5⟩)
  |(refine aB rfl (gF _ k x3 d1 l5 u5 l2 u2 hk fE) ?_;rintro _ ⟨b4,x4,d4,rfl,⟨l6,u6⟩,l7,u7⟩)
  |exact nj rfl (bI Fi E9 rfl rfl (Nat.le_refl _) rfl (cR.refl _)) ⟨_,x4,d4,rfl,⟨l6,u6⟩,l7,u7⟩)
 all_goals (conv=>whnf)
theorem xa (b c:Bool) (k:Nat) (xs ds ys es:Lz) (hl:xs.length≤k) (hx:Us xs) (hm:ds.length≤k) (hd:Us ds) (rV:ys.length≤k) (hy:Us ys) (qN:es.length≤k) (he:Us es) (hk:k≤90000) (fE:2≤k):Tg 236 [ir b xs ds,ir c ys es] (wR (2 * k+1)):=by
 refine aL ?_
 refine ah (n:=30) (rs:=[.cell 4 280]) Tryz.func236 acA W6 rfl rfl (by simp) ?_
 repeat' (conv=>whnf
          first
  |(refine And.intro (by kernel_rfl) ?_)
  |(refine aB rfl (di _ k xs ds hl hx hm hd (by omega) fE) ?_;rintro _ ⟨b1,x1,d1,rfl,⟨l1,u1⟩,l2,u2⟩)
  |(refine aB rfl (di _ k ys es rV hy qN he (by omega) fE) ?_;rintro _ ⟨b2,x2,d2,rfl,⟨l3,u3⟩,l4,u4⟩)
  |(refine aB rfl (gG d2) ?_;rintro _ rfl)
  |(refine aB rfl (gG d1) ?_;rintro _ rfl)
  |(refine aB rfl (iJ _ _ k x1 d2 l1 u1 l4 u4 (by omega)) ?_;rintro _ ⟨b3,x3,rfl,l5,u5⟩)
  |(refine aB rfl (iJ _ _ k x2 d1 l3 u3 l2 u2 (by omega)) ?_;rintro _ ⟨b4,x4,rfl,l6,u6⟩)
  |(refine aB rfl (AA _ _ (2 * k) x3 x4 l5 u5 l6 u6 (by omega)) ?_;rintro _ ⟨b5,x5,rfl,l7,u7⟩)
  |(refine aB rfl (iG d1 d2 u2 u4 (by omega) (by omega)) ?_;rintro _ ⟨x6,rfl,⟨l8,u8,_⟩⟩)
  |(refine aB rfl (gF _ (2 * k+1) x5 x6 l7 u7 (by omega) u8 (by omega) (by omega)) ?_;rintro _ ⟨b7,x7,d7,rfl,⟨l9,u9⟩,Fc,Iu⟩)
  |exact nj rfl (bI Fi E9 rfl rfl (Nat.le_refl _) rfl (cR.refl _)) ⟨_,x7,d7,rfl,⟨l9,u9⟩,Fc,Iu⟩)
 all_goals (conv=>whnf)
theorem D5 (b c:Bool) (k:Nat) (xs ds ys es:Lz) (hl:xs.length≤k) (hx:Us xs) (hm:ds.length≤k) (hd:Us ds) (rV:ys.length≤k) (hy:Us ys) (qN:es.length≤k) (he:Us es) (hk:k≤90000) (fE:2≤k):Tg 215 [ir b xs ds,ir c ys es] (wR (2 * k+1)):=by
 refine aL ?_
 refine ah (n:=9) (rs:=[.cell 4 280]) Tryz.func215 acT Xp rfl rfl (by simp) ?_
 repeat' (conv=>whnf
          first
  |(refine And.intro (by kernel_rfl) ?_)
  |(refine aB rfl (D6 _ k ys es rV hy qN he (by omega) fE) ?_;rintro _ ⟨b2,x2,d2,rfl,⟨l3,u3⟩,l4,u4⟩)
  |(refine aB rfl (xa _ _ k xs ds x2 d2 hl hx hm hd l3 u3 l4 u4 hk fE) ?_;rintro _ ⟨b7,x7,d7,rfl,⟨l9,u9⟩,Fc,Iu⟩)
  |exact nj rfl (bI Fi E9 rfl rfl (Nat.le_refl _) rfl (cR.refl _)) ⟨_,x7,d7,rfl,⟨l9,u9⟩,Fc,Iu⟩)
 all_goals (conv=>whnf)
theorem D7 (b c:Bool) (k:Nat) (xs ds ys es:Lz) (hl:xs.length≤k) (hx:Us xs) (hm:ds.length≤k) (hd:Us ds) (rV:ys.length≤k) (hy:Us ys) (qN:es.length≤k) (he:Us es) (hk:k≤90000) (fE:2≤k):Tg 230 [ir b xs ds,ir c ys es] (wR (2 * k)):=by
 refine aL ?_
 refine ah (n:=20) (rs:=[.cell 4 280]) Tryz.func230 acG Xc rfl rfl (by simp) ?_
 repeat' (conv=>whnf
          first
  |(refine And.intro (by kernel_rfl) ?_)
  |(refine aB rfl (di _ k xs ds hl hx hm hd (by omega) fE) ?_;rintro _ ⟨b1,x1,d1,rfl,⟨l1,u1⟩,l2,u2⟩)
  |(refine aB rfl (di _ k ys es rV hy qN he (by omega) fE) ?_;rintro _ ⟨b2,x2,d2,rfl,⟨l3,u3⟩,l4,u4⟩)
  |(refine aB rfl (iJ _ _ k x1 x2 l1 u1 l3 u3 (by omega)) ?_;rintro _ ⟨b3,x3,rfl,l5,u5⟩)
  |(refine aB rfl (iG d1 d2 u2 u4 (by omega) (by omega)) ?_;rintro _ ⟨x6,rfl,⟨l8,u8,_⟩⟩)
  |(refine aB rfl (gF _ (2 * k) x3 x6 l5 u5 (by omega) u8 (by omega) (by omega)) ?_;rintro _ ⟨b7,x7,d7,rfl,⟨l9,u9⟩,Fc,Iu⟩)
  |exact nj rfl (bI Fi E9 rfl rfl (Nat.le_refl _) rfl (cR.refl _)) ⟨_,x7,d7,rfl,⟨l9,u9⟩,Fc,Iu⟩)
 all_goals (conv=>whnf)
theorem D8 (b c:Bool) (k:Nat) (xs ds ys es:Lz) (hl:xs.length≤k) (hx:Us xs) (hm:ds.length≤k) (hd:Us ds) (rV:ys.length≤k) (hy:Us ys) (qN:es.length≤k) (he:Us es) (hk:k≤90000) (fE:2≤k):Tg 210 [ir b xs ds,ir c ys es] (HJ (2 * k)):=by
 refine aL ?_
 refine ah (n:=38) (rs:=[.cell 4 280, .tmp 5]) Tryz.func210 acY Xu rfl rfl (by simp) ?_
 repeat' (conv=>whnf
          first
  |(refine aI (fun h=>?_) (fun h=>?_))
  |(refine And.intro (by kernel_rfl) ?_)
  |(refine aB rfl (di _ k xs ds hl hx hm hd (by omega) fE) ?_;rintro _ ⟨b1,x1,d1,rfl,⟨l1,u1⟩,l2,u2⟩)
  |(refine aB rfl (di _ k ys es rV hy qN he (by omega) fE) ?_;rintro _ ⟨b2,x2,d2,rfl,⟨l3,u3⟩,l4,u4⟩)
  |(refine ai rfl (uj k x2 l3 u3 (by omega)) ?_;rintro _ ⟨q,rfl⟩)
  |(refine aB rfl (iG x1 d2 u1 u4 (by omega) (by omega)) ?_;rintro _ ⟨x5,rfl,⟨l7,u7,_⟩⟩)
  |(refine aB rfl (iG d1 x2 u2 u3 (by omega) (by omega)) ?_;rintro _ ⟨x6,rfl,⟨l8,u8,_⟩⟩)
  |(refine aB rfl (gF _ (2 * k) x5 x6 (by omega) u7 (by omega) u8 (by omega) (by omega)) ?_;rintro _ ⟨b7,x7,d7,rfl,⟨l9,u9⟩,Fc,Iu⟩)
  |exact dz rfl (bI Fi E9 rfl rfl (Nat.le_refl _) rfl (cR.refl _)) (bZ rfl) ⟨_,x7,d7,_,rfl,⟨l9,u9⟩,Fc,Iu⟩
  |exact dz rfl (bI Fi E9 rfl rfl (Nat.le_refl _) rfl (fe (dU (dU .nil)))) (bZ rfl) ⟨_,[],[],_,rfl,⟨by simp,Us.nil⟩,by simp,Us.nil⟩)
 all_goals (conv=>whnf)
theorem Ae (b:Bool) (k:Nat) (xs ds:Lz) (hl:xs.length≤k) (hx:Us xs) (hm:ds.length≤k) (hd:Us ds) (hk:k≤90000) (fE:2≤k):Tg 235 [ir b xs ds] (M9 (k+2)):=by
 refine aL ?_
 refine ah (n:=36) (rs:=[.cell 2 278]) Tryz.func235 acB W7 rfl rfl (by simp) ?_
 repeat' (conv=>whnf
          first
  |(refine And.intro (by kernel_rfl) ?_)
  |(refine ai rfl (di _ k xs ds hl hx hm hd (by omega) fE) ?_;rintro _ ⟨b1,x1,d1,rfl,⟨l1,u1⟩,l2,u2⟩)
  |(refine ai rfl (jU x1 x1 u1 u1 (by omega) (by omega)) ?_;rintro _ ⟨x2,rfl,⟨l3,u3,_⟩⟩)
  |(refine aB rfl (jU x2 d1 u3 u2 (by omega) (by omega)) ?_;rintro _ ⟨x3,rfl,⟨l4,u4,_⟩⟩)
  |(refine aB rfl (jU d1 d1 u2 u2 (by omega) (by omega)) ?_;rintro _ ⟨x4,rfl,⟨l5,u5,_⟩⟩)
  |(refine aB rfl (gM (k+2) x3 x4 (by omega) u4 (by omega) u5 (by omega) (by omega)) ?_;rintro _ ⟨qs,rs,ok,rfl,⟨l6,u6⟩,⟨l7,u7,_⟩,_⟩)
  |(refine ai rfl (gO _ (k+2) qs l6 u6 (by omega)) ?_;rintro _ ⟨c,ws,rfl,l8,u8⟩)
  |exact nj rfl (bI M1 Kb rfl rfl (Nat.le_refl _) rfl (cR.refl _)) ⟨_,ws,rfl,l8,u8⟩)
 all_goals (conv=>whnf)
end Go.aU.Cd
end
