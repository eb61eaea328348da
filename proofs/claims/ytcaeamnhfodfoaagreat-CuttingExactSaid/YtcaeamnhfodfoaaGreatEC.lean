import Derived.Test.YtcaeamnhfodfoaaGreatEB
set_option linter.all false
section
namespace Go.aT
open Go
variable {P:Program} {M A:Nat→Prop} {ρ:Env} {F:Nat→Prop} {st:St} {a:Act} {w:World}
def JQ (hin:HS):C→Bool
 | .t _=>true
 | .own id .. =>(find hin id).isSome
 | .ptr id .. =>(find hin id).isSome
 | .jx _ dc=>dc.all fun p=>(find hin p.1).isSome
 |_=>false
def WZ (hin:HS):W→Bool
 | .one c=>JQ hin c
 | .agg cs=>cs.all (JQ hin)
def rS:HS→HS
 | []=>[]
 |p::r=>if p.1 < 4 then rS r else p::rS r
theorem mG: ∀ {hp:HS} {k:Nat} {b:bA},find (rS hp) k=some b→¬k < 4∧find hp k=some b
 | [],k,b,h=>by simp[rS,find]at h
 |(q,c)::r,k,b,h=>by
  simp only[rS]at h
  split at h
  · rename_i hq
    obtain⟨h1,h2⟩:=mG h
    have hne:¬q=k:=fun e=>by subst e;exact h1 hq
    exact⟨h1,by rw[aA,if_neg hne];exact h2⟩
  · rename_i hq
    rw[aA]at h⊢
    split at h
    · rename_i e
      subst e
      exact⟨hq,by rw[if_pos rfl];exact h⟩
    · rename_i e
      obtain⟨h1,h2⟩:=mG h
      exact⟨h1,by rw[if_neg e];exact h2⟩
def AS (hin hp:HS) (u:W):Option W:=if WZ hin u=true then some u else bY (rS hp) u
def La (hin:HS):bA→Prop
 | .row _ xs=> ∀e,e∈xs→ ∀c,c∈e→JQ hin c=true
 | .mp _ _=>False
def kY (hin hp hout:HS):Prop:=
 (∀k b,find hin k=some b→k < 4∧ ∃b',find hp k=some b')∧ ∀k blk,find hout k=some blk→find hp k=some blk∧(find hin k).isSome=true∧La hin blk
def SY (P:Program) (rs:List ResultVar) (hin:HS) (Good:List W→HS→Prop):Exit→TS→HS→Nat→Prop
 | .normal,tm,hp,_| .ret,tm,hp,_=> ∃us ts hout,aN P hp tm rs=some us∧bM (AS hin hp) us=some ts∧kY hin hp hout∧Good ts hout
 |_,_,_,_=>False
theorem dD {Tb:Tables} [oD P Tb] {f:FuncId} {fn:Func} {r:Rc} {args:List W} {n:Nat} {rs:List ResultVar} {hin:HS} {Good:List W→HS→Prop} (hf:P.funcs[f]? =some fn) (h:X P n r (SY P rs hin Good) (df 0 args) hin 4)
 (hi:Sc Tb fn=some (n,rs,r):=by conv=>lhs;cbv) (hl:args.length≤n:=by simp): ∃ts hout,Fn P f args hin (aL ts) hout∧Good ts hout:=by
 obtain⟨c,hb,hr,hn,eO⟩:=BC (P:=P) hi
 subst hn
 subst eO
 obtain⟨e,st',c',⟨hn',hq⟩,hw⟩:=X.O5 hr h
 obtain⟨n',bg,aG⟩:=st'
 simp only at hn' hq
 subst hn'
 have main: ∀us ts hout,uu e→aN P aG bg fn.results.toList=some us→bM (AS hin aG) us=some ts→kY hin aG hout→Good ts hout→ ∃ts hout,Fn P f args hin (aL ts) hout∧Good ts hout:=by
  intro vs ts hout he gO hts OR hg
  refine⟨ts,hout,?_,hg⟩
  · intro w A ρ xs hH hxs
    refine calls_of_wp hf hb ?_
    have hl':args.length=xs.size:=by simpa using hxs.1
    have cI:Rel (fun b=>qS ρ hin b∨w.heap.size≤b) A ρ (bu 4) ⟨fn.ntmps,df 0 args,hin⟩ {tmps:=xs++Array.replicate (fn.ntmps - xs.size) undef,defers:=[]} w:=by
     refine⟨by simp;omega,rfl,fun t v hv=>?_,hH.heap,hH.inj,hH.fresh,hH.bound,hH.may,hH.ep⟩
     obtain⟨_,u,hu,rfl⟩:=fg _ _ _ _ hv
     simp only[Nat.sub_zero]at hu
     have ht:t < xs.size:=by rw[←hl'];exact(List.getElem?_eq_some_iff.1 hu).1
     have EH:xs.toList[t]? =some xs[t]:=by simp[ht]
     have:=hxs.2 t u _ hu EH
     have e:(xs++Array.replicate (fn.ntmps - xs.size) undef).getD t undef=xs[t]:=by simp[Array.getD_eq_getD_getElem?,Array.getElem?_append_left ht,ht]
     rw[e]
     exact this
    refine wp_mono (hw _ A ρ _ w cI) ?_
    rintro e2 a' w' ⟨st2,c2,A',ρ',⟨rfl,rfl,rfl⟩,dB,dU,cJ,TL⟩
    have jI:bH A A' w:=by
     refine⟨fun b hA=>?_,TL.2⟩
     by_cases hM:qS ρ hin b∨w.heap.size≤b
     · rcases hM with⟨id,blk,hf,hρ⟩|hs
       · obtain⟨h4,b',hb'⟩:=OR.1 id blk hf
         exact((dB.heap id b' hb').lt (cJ id _ h4 hρ)).2.2
       · have:=hH.bound b hA
         omega
     · exact TL.1 b hA hM
    obtain⟨ws,hvs,hR⟩:=eY dB gO
    have hm:(fn.results.mapM fun(r:ResultVar)=>match r with
     | .tmp t=>(pure (a'.tmps.getD t undef):Sem Value)
     | .cell b t=>do loadVar t (←asAddr (a'.tmps.getD b undef))).run P w'= .ok ws.toArray w':=by
     rw[Array.mapM_eq_mapM_toList]
     simp only[Sem.run_map]
     exact(congrArg (fun r:Result (List Value)=>Result.andThen r fun a w'=>Result.ok a.toArray w') hvs).trans rfl
    have hrun:(results fn a'.tmps).run P w'= .ok (if h:ws.toArray.size=1 then ws.toArray[0]else .tuple ws.toArray) w':=by
     show(Bind.bind (fn.results.mapM fun(r:ResultVar)=>match r with
      | .tmp t=>(pure (a'.tmps.getD t undef):Sem Value)
      | .cell b t=>do loadVar t (←asAddr (a'.tmps.getD b undef))) fun vs=>Pure.pure (if h:vs.size=1 then vs[0]else .tuple vs)).run P w'=_
     rw[Sem.run_bind,hm]
     rfl
    have MS: ∀k b,find hin k=some b→ ∃l,ρ k=some l∧ρ' k=some l:=by
     intro k b hk
     obtain⟨l,hl⟩:=(hH.heap k b hk).some
     exact⟨l,hl,cJ k l (OR.1 k b hk).1 hl⟩
    have Xr:=Rel.forget dB (st':=⟨fn.ntmps,bg,rS aG⟩) rfl (fun _ _ h=>h) (fun id b h=>(mG h).2)
    have hB: ∀id blk b,find (rS aG) id=some blk→ρ' id=some (.gz b)→¬A b:=by
     intro id blk b hf hρ hA
     obtain⟨bN,hf⟩:=mG hf
     have hM:=(Rel.own dB hf hρ).1
     rcases hM with⟨id',gf,mD,hρ'⟩|hM
     · obtain⟨h4,b',hb'⟩:=OR.1 id' gf mD
       have:=dB.inj id id' blk b' b hf hb' hρ (cJ id' _ h4 hρ')
       omega
     · have:=hH.bound b hA
       omega
    have cell: ∀ {c:C} {y:Value},JQ hin c=true→RC w' A' ρ' c y→RC w' A ρ c y:=by
     intro c y hc hy
     cases c with
     |t x=>exact RT.keeps (w:=w') ⟨Nat.le_refl _,fun b _ hn=>⟨rfl,fun hb=>hn (jI.1 b hb)⟩⟩ hy
     |own id sz i len=>
      simp only[JQ]at hc
      obtain⟨b0,hb0⟩:=Option.isSome_iff_exists.1 hc
      obtain⟨l,h1,h2⟩:=MS id b0 hb0
      rcases hy with⟨b,cap,q,e,k1,k2⟩|⟨k1,k2⟩
      · rw[h2]at k1;exact .inl ⟨b,cap,q,e,by rw[h1];exact k1,k2⟩
      · rw[h2]at k1;exact .inr ⟨by rw[h1];exact k1,k2⟩
     |ptr id sz i j=>
      simp only[JQ]at hc
      obtain⟨b0,hb0⟩:=Option.isSome_iff_exists.1 hc
      obtain⟨l,h1,h2⟩:=MS id b0 hb0
      obtain⟨b,k1,k2⟩:=hy
      rw[h2]at k1
      exact⟨b,by rw[h1];exact k1,k2⟩
     |jx f dc=>
      simp only[JQ,List.all_eq_true]at hc
      obtain⟨vs,k1,k2,k3⟩:=hy
      refine⟨vs,k1,k2,fun k id sz i j x h1 h2=>?_⟩
      obtain⟨b0,hb0⟩:=Option.isSome_iff_exists.1 (hc _ (List.mem_of_getElem? h1))
      obtain⟨l,g1,g2⟩:=MS id b0 hb0
      obtain⟨b,p1,p2⟩:=k3 k id sz i j x h1 h2
      rw[g2]at p1
      exact⟨b,by rw[g1];exact p1,p2⟩
     |_=>simp[JQ]at hc
    have hheap: ∀id blk,find hout id=some blk→HB w' (fun b=>qS ρ hin b∨w.heap.size≤b) A ρ id blk:=by
     intro id blk hf
     obtain⟨mD,EN,hrow⟩:=OR.2 id blk hf
     obtain⟨b0,hb0⟩:=Option.isSome_iff_exists.1 EN
     obtain⟨l,h1,h2⟩:=MS id b0 hb0
     have TO:=dB.heap id blk mD
     cases blk with
     |row sz ys=>
      obtain⟨q1,q2⟩:=TO
      refine⟨q1,?_⟩
      rcases q2 with⟨b,c,e,k1,k2,k3,k4,k5,k6⟩|⟨k1,k2⟩
      · rw[h2]at k1
        refine .inl ⟨b,c,e,by rw[h1];exact k1,k2,((hH.heap id b0 hb0).lt (by rw[h1];exact k1)).2.2,k4,k5,fun i el j q hi hj=>?_⟩
        obtain⟨y,hy,kC,w7⟩:=k6 i el j q hi hj
        exact⟨y,hy,cell (hrow el (List.mem_of_getElem? hi) q (List.mem_of_getElem? hj)) kC,w7⟩
      · rw[h2]at k1
        exact .inr ⟨by rw[h1];exact k1,k2⟩
     |mp es clock=>exact hrow.elim
    have hlen:=jd hts
    have one: ∀ (k:Nat) (u:W) (y:Value),ts[k]? =some u→(∀v,vs[k]? =some v→RW w' A' ρ' v y)→RW w' A ρ u y:=by
     intro k u y hu hv
     obtain⟨v,kB,HP⟩:=fK hts k u hu
     unfold AS at HP
     split at HP
     · rename_i EN
       simp only[Option.some.injEq]at HP
       subst HP
       have hvv:=hv v kB
       cases v with
       |one c=>exact⟨cell EN hvv.1,hvv.2⟩
       |agg cs=>
        obtain⟨vs',g1,g2,g3⟩:=hvv
        exact⟨vs',g1,g2,fun k c x hc hx=>⟨cell (List.all_eq_true.1 EN c (List.mem_of_getElem? hc)) (g3 k c x hc hx).1,(g3 k c x hc hx).2⟩⟩
     · exact jY Xr (fun b hb=>jI.1 b hb) hB HP (hv v kB) ρ
    have fin:a'.defers=[]∧ ∃v,(results fn a'.tmps).run P w'= .ok v w'∧ ∃x A' ρ' F',Ending.returned v= .returned x∧RV w' A' ρ' (aL ts) x∧HR (fun b=>qS ρ hin b∨w.heap.size≤b) A' ρ' F' hout w'∧
     dj (fun b=>qS ρ hin b∨w.heap.size≤b) w w'∧iZ ρ ρ'∧bH A A' w:=by
     refine⟨dB.defers,_,hrun,_,A,ρ,bu 4,rfl,?_,⟨rfl,rfl,fun t v hv=>by simp[find]at hv,hheap,fun id id' b b' q h1 h2 r1 r2=>by obtain⟨g1,e1,_⟩:=OR.2 id b h1;obtain⟨g2,e2,_⟩:=OR.2 id' b' h2;obtain⟨c1,d1⟩:=Option.isSome_iff_exists.1 e1;obtain⟨c2,d2⟩:=Option.isSome_iff_exists.1 e2;exact dB.inj id id' b b' q g1 g2 (cJ id _ (OR.1 id c1 d1).1 r1) (cJ id' _ (OR.1 id' c2 d2).1 r2),hH.fresh,fun b hb=>Nat.lt_of_lt_of_le (hH.bound b hb) dU.size,fun b hb=> .inr (Nat.le_trans dU.size hb),hH.ep.Ig dU (fun _ _ h=>h)⟩,dU,iZ.refl _,bH.refl _ _⟩
     match vs,ws,ts,hR,hlen,one with
     | [],[],[],_,_,_=>exact⟨#[],by simp,rfl,by simp⟩
     | [u],[v],[t],hR,_,one=>exact one 0 t v rfl (fun v' kB=>by simp only[List.getElem?_cons_zero,Option.some.injEq]at kB;subst kB;exact hR.2 0 u v rfl rfl)
     |u::u2::r,v::v2::s,t::t2::q,hR,hlen,one=>
      have hne:¬ (v::v2::s).toArray.size=1:=by simp
      simp only[hne,dite_false]
      refine⟨_,rfl,?_,fun k x y hx hy=>one k x y hx (fun v' kB=>hR.2 k v' y kB (by simpa using hy))⟩
      have:=hR.1
      simp at this hlen⊢
      omega
     | [],_::_,_,hR,_,_=>exact absurd hR.1 (by simp)
     |_::_,[],_,hR,_,_=>exact absurd hR.1 (by simp)
     | [_],_::_::_,_,hR,_,_=>exact absurd hR.1 (by simp)
     |_::_::_,[_],_,hR,_,_=>exact absurd hR.1 (by simp)
     | [],[],_::_,_,hlen,_=>simp at hlen
     | [_],[_],[],_,hlen,_=>simp at hlen
     | [_],[_],_::_::_,_,hlen,_=>simp at hlen
     |_::_::_,_::_::_,[],_,hlen,_=>simp at hlen
     |_::_::_,_::_::_,[_],_,hlen,_=>simp at hlen
    rcases he with rfl|rfl
    · exact fin
    · exact fin
 cases e with
 |normal=>obtain⟨us,ts,hout,h1,h2,h3,h4⟩:=hq;exact main us ts hout (.inl rfl) h1 h2 h3 h4
 |ret=>obtain⟨us,ts,hout,h1,h2,h3,h4⟩:=hq;exact main us ts hout (.inr rfl) h1 h2 h3 h4
 |_=>exact hq.elim
def SZ (P:Program) (rs:List ResultVar) (Good:List W→HS→Prop):Exit→TS→HS→Nat→Prop
 | .normal,tm,hp,_| .ret,tm,hp,_=> ∃us ids,aN P hp tm rs=some us∧(ids.length≤4∧ids.Nodup)∧Good (us.map (W.av (bt ids))) (cM (bt ids) hp 0 ids)
 |_,_,_,_=>False
theorem rN {Tb:Tables} [oD P Tb] {f:FuncId} {fn:Func} {r:Rc} {args:List W} {n:Nat} {rs:List ResultVar} {Good:List W→HS→Prop} (hf:P.funcs[f]? =some fn) (h:X P n r (SZ P rs Good) (df 0 args) [] 4)
 (hi:Sc Tb fn=some (n,rs,r):=by conv=>lhs;cbv) (hl:args.length≤n:=by simp): ∃ts hout,Ar P f args (aL ts) hout∧Good ts hout:=by
 obtain⟨c,hb,hr,hn,eO⟩:=BC (P:=P) hi
 subst hn
 subst eO
 obtain⟨e,st',c',⟨hn',hq⟩,hw⟩:=X.O5 hr h
 obtain⟨n',bg,aG⟩:=st'
 simp only at hn' hq
 subst hn'
 have main: ∀us ids,uu e→aN P aG bg fn.results.toList=some us→(ids.length≤4∧ids.Nodup)→Good (us.map (W.av (bt ids))) (cM (bt ids) aG 0 ids)→ ∃ts hout,Ar P f args (aL ts) hout∧Good ts hout:=by
  intro vs ids he gO agA hg
  obtain⟨apH,HM⟩:=agA
  refine⟨_,_,?_,hg⟩
  intro w A xs hH hxs
  refine calls_of_wp hf hb ?_
  have hl':args.length=xs.size:=by simpa using hxs.1
  have cI:Rel (fun b=>qS (fun _=>none) [] b∨w.heap.size≤b) A (fun _=>none) (bu 4) ⟨fn.ntmps,df 0 args,[]⟩ {tmps:=xs++Array.replicate (fn.ntmps - xs.size) undef,defers:=[]} w:=by
   refine⟨by simp;omega,rfl,fun t v hv=>?_,hH.heap,hH.inj,hH.fresh,hH.bound,hH.may,hH.ep⟩
   obtain⟨_,u,hu,rfl⟩:=fg _ _ _ _ hv
   simp only[Nat.sub_zero]at hu
   have ht:t < xs.size:=by rw[←hl'];exact(List.getElem?_eq_some_iff.1 hu).1
   have EH:xs.toList[t]? =some xs[t]:=by simp[ht]
   have:=hxs.2 t u _ hu EH
   have e:(xs++Array.replicate (fn.ntmps - xs.size) undef).getD t undef=xs[t]:=by simp[Array.getD_eq_getD_getElem?,Array.getElem?_append_left ht,ht]
   rw[e]
   exact this
  refine wp_mono (hw _ A _ _ w cI) ?_
  rintro e2 a' w' ⟨st2,c2,A',ρ',⟨rfl,rfl,rfl⟩,dB,dU,cJ,TL⟩
  have jI:=zV hH.bound TL
  obtain⟨ws,hvs,hR⟩:=eY dB gO
  have hm:(fn.results.mapM fun(r:ResultVar)=>match r with
   | .tmp t=>(pure (a'.tmps.getD t undef):Sem Value)
   | .cell b t=>do loadVar t (←asAddr (a'.tmps.getD b undef))).run P w'= .ok ws.toArray w':=by
   rw[Array.mapM_eq_mapM_toList]
   simp only[Sem.run_map]
   exact(congrArg (fun r:Result (List Value)=>Result.andThen r fun a w'=>Result.ok a.toArray w') hvs).trans rfl
  have hrun:(results fn a'.tmps).run P w'= .ok (if h:ws.toArray.size=1 then ws.toArray[0]else .tuple ws.toArray) w':=by
   show(Bind.bind (fn.results.mapM fun(r:ResultVar)=>match r with
    | .tmp t=>(pure (a'.tmps.getD t undef):Sem Value)
    | .cell b t=>do loadVar t (←asAddr (a'.tmps.getD b undef))) fun vs=>Pure.pure (if h:vs.size=1 then vs[0]else .tuple vs)).run P w'=_
   rw[Sem.run_bind,hm]
   rfl
  let ρ2:Env:=fun j=>(ids[j]?).bind ρ'
  have hρ2: ∀id k l,bt ids id=some k→ρ' id=some l→ρ2 k=some l:=by
   intro id k l h1 h2
   simp only[ρ2,eE h1,Option.bind_some,h2]
  have hidx: ∀ {i j id:Nat},ids[i]? =some id→ids[j]? =some id→i=j:=by
   intro i j id h1 h2
   obtain⟨hi,e1⟩:=List.getElem?_eq_some_iff.1 h1
   obtain⟨hj,e2⟩:=List.getElem?_eq_some_iff.1 h2
   exact(List.getElem_inj HM).1 (e1.trans e2.symm)
  have hlen:(vs.map (W.av (bt ids))).length=vs.length:=by simp
  have one: ∀ (k:Nat) (u:W) (y:Value),(vs.map (W.av (bt ids)))[k]? =some u→(∀v,vs[k]? =some v→RW w' A' ρ' v y)→RW w' A' ρ2 u y:=by
   intro k u y hu hv
   simp only[List.getElem?_map,Option.map_eq_some_iff]at hu
   obtain⟨v,kB,rfl⟩:=hu
   exact(hv v kB).av hρ2
  have fin:a'.defers=[]∧ ∃v,(results fn a'.tmps).run P w'= .ok v w'∧ ∃x A' ρ' F',Ending.returned v= .returned x∧RV w' A' ρ' (aL (vs.map (W.av (bt ids)))) x∧HR (fun b=>qS (fun _=>none) [] b∨w.heap.size≤b) A' ρ' F' (cM (bt ids) aG 0 ids) w'∧
   dj (fun b=>qS (fun _=>none) [] b∨w.heap.size≤b) w w'∧bH A A' w:=by
   refine⟨dB.defers,_,hrun,_,A',ρ2,bu 4,rfl,?_,⟨rfl,rfl,fun t v hv=>by simp[find]at hv,?_,?_,?_,dB.bound,fun b hb=> .inr (Nat.le_trans dU.size hb),dB.ep⟩,dU,jI⟩
   · generalize hts:vs.map (W.av (bt ids))=ts at hlen one⊢
     clear hts
     match vs,ws,ts,hR,hlen,one with
     | [],[],[],_,_,_=>exact⟨#[],by simp,rfl,by simp⟩
     | [u],[v],[t],hR,_,one=>exact one 0 t v rfl (fun v' kB=>by simp only[List.getElem?_cons_zero,Option.some.injEq]at kB;subst kB;exact hR.2 0 u v rfl rfl)
     |u::u2::r,v::v2::s,t::t2::q,hR,hlen,one=>
      have hne:¬ (v::v2::s).toArray.size=1:=by simp
      simp only[hne,dite_false]
      refine⟨_,rfl,?_,fun k x y hx hy=>one k x y hx (fun v' kB=>hR.2 k v' y kB (by simpa using hy))⟩
      have:=hR.1
      simp at this hlen⊢
      omega
     | [],_::_,_,hR,_,_=>exact absurd hR.1 (by simp)
     |_::_,[],_,hR,_,_=>exact absurd hR.1 (by simp)
     | [_],_::_::_,_,hR,_,_=>exact absurd hR.1 (by simp)
     |_::_::_,[_],_,hR,_,_=>exact absurd hR.1 (by simp)
     | [],[],_::_,_,hlen,_=>simp at hlen
     | [_],[_],[],_,hlen,_=>simp at hlen
     | [_],[_],_::_::_,_,hlen,_=>simp at hlen
     |_::_::_,_::_::_,[],_,hlen,_=>simp at hlen
     |_::_::_,_::_::_,[_],_,hlen,_=>simp at hlen
   · intro j blk hf
     obtain⟨i,id,b',rfl,h2,h3,rfl⟩:=cu hf
     exact(dB.heap id b' h3).av hρ2 (fun l hl=>by simp only[Nat.zero_add,ρ2,h2,Option.bind_some,hl]) (fun b _ hb=>hb)
   · intro j j' blk gf b h1 h2 r1 r2
     obtain⟨i,id,b1,rfl,h3,h4,_⟩:=cu h1
     obtain⟨i',id',b2,rfl,OZ,R8,_⟩:=cu h2
     simp only[Nat.zero_add,ρ2,h3,OZ,Option.bind_some]at r1 r2
     have:=dB.inj id id' b1 b2 b h4 R8 r1 r2
     subst this
     rw[hidx h3 OZ]
   · intro j hj
     simp only[ρ2]
     rw[List.getElem?_eq_none (by simp only[bu]at hj;omega)]
     rfl
  rcases he with rfl|rfl
  · exact fin
  · exact fin
 cases e with
 |normal=>obtain⟨us,ids,h1,h2,h3⟩:=hq;exact main us ids (.inl rfl) h1 h2 h3
 |ret=>obtain⟨us,ids,h1,h2,h3⟩:=hq;exact main us ids (.inr rfl) h1 h2 h3
 |_=>exact hq.elim
theorem Fa {f:FuncId} {us:List W} {hp hout:HS} {ctr:Nat} {v:V} (hT:yW us=true) (h:Ar P f us v hout):eU P hp ctr f us (v.up ctr) (gj ctr hout++hp):=
 .inl ⟨v,hout,us,h,rfl,rfl, .inl ⟨rfl,hT⟩⟩
end Go.aT
end
section
namespace Go.aT
open Go
variable {P:Program}
def qI {α:Sort _}:TS→(TS→α)→α
 | [],k=>k []
 |p::r,k=>match p with
  |(t,v)=>uB v fun v=>qI r fun r=>k ((t,v)::r)
theorem gH {α:Sort _}: ∀ (l:TS) (k:TS→α),qI l k=k l
 | [],_=>rfl
 |(t,v)::r,k=>by simp only[qI,dZ];rw[gH r]
def V6 (k:Nat) (v:V):TS→TS
 | []=>[]
 |p::r=>match p with
  |(t,u)=>if t=k then(t,v)::r else(t,u)::V6 k v r
def kO:List Nat→List V→TS→TS
 |k::ks,v::vs,tm=>kO ks vs (V6 k v tm)
 |_,_,tm=>tm
def WM (x:Nat):List Nat→Bool
 | []=>false
 |y::r=>match Nat.beq x y with
  |true=>true
  |false=>WM x r
def tP:List Nat→List Nat→List Nat
 |acc,[]=>acc
 |acc,x::r=>match Nat.blt x 4 with
  |true=>tP acc r
  |false=>match WM x acc with
   |true=>tP acc r
   |false=>tP (acc++[x]) r
def zW {α:Sort _}:List Nat→(List Nat→α)→α
 | [],k=>k []
 |x::r,k=>tw x fun x=>zW r fun r=>k (x::r)
def BU (tm:TS):List Nat→List Nat→List Nat
 |acc,[]=>acc
 |acc,k::ks=>match find tm k with
  |some v=>zW (tP acc v.ids) fun acc=>BU tm acc ks
  |none=>BU tm acc ks
def jB (tm:TS) (hp:HS):List Nat→List (Nat×Nat)→List Nat
 |acc,[]=>acc
 |acc,(k,j)::r=>match find tm k with
  |some (.w (.one (.ptr id _ i _)))=>match find hp id with
   |some (.row _ xs)=>match xs[i]? with
    |some e=>match e[j]? with
     |some c=>zW (tP acc c.ids) fun acc=>jB tm hp acc r
     |none=>jB tm hp acc r
    |none=>jB tm hp acc r
   |_=>jB tm hp acc r
  |some (.w (.one (.own id _ i _)))=>match find hp id with
   |some (.row _ xs)=>match xs[i+j]? with
    |some (c::_)=>zW (tP acc c.ids) fun acc=>jB tm hp acc r
    |_=>jB tm hp acc r
   |_=>jB tm hp acc r
  |_=>jB tm hp acc r
def Wz:Nat→List Nat→List (Nat×Nat)
 |_,[]=>[]
 |c,x::r=>(x,c)::Wz (c+4) r
def vF (keys:List Nat) (nest:List (Nat×Nat)) (tm:TS) (hp:HS):Ren:=
 zW (BU tm [] keys) fun l0=>zW (jB tm hp l0 nest) fun l=>⟨keys,Wz 4 l,4+4 * l.length⟩
def F9 {α:Sort _}:List (Nat×Nat)→(List (Nat×Nat)→α)→α
 | [],k=>k []
 |p::r,k=>match p with
  |(a,b)=>tw a fun a=>tw b fun b=>F9 r fun r=>k ((a,b)::r)
theorem Da {α:Sort _}: ∀ (l:List (Nat×Nat)) (k:List (Nat×Nat)→α),F9 l k=k l
 | [],_=>rfl
 |(a,b)::r,k=>by simp only[F9,ja];rw[Da r]
def BB {α:Sort _} (S:Ren) (k:Ren→α):α:=
 match S with
 |⟨keys,ids,ctr⟩=>F9 ids fun ids=>tw ctr fun ctr=>k ⟨keys,ids,ctr⟩
theorem oR {α:Sort _} (S:Ren) (k:Ren→α):BB S k=k S:=by cases S;simp only[BB,Da,ja]
def rL {α:Sort _}:HS→(HS→α)→α
 | [],k=>k []
 |p::r,k=>match p with
  |(t, .row sz xs)=>rL r fun r=>k ((t, .row sz xs)::r)
  |(t, .mp es c)=>rL r fun r=>k ((t, .mp es c)::r)
theorem jb {α:Sort _}: ∀ (l:HS) (k:HS→α),rL l k=k l
 | [],_=>rfl
 |(t, .row _ _)::r,k=>by simp only[rL];rw[jb r]
 |(t, .mp _ _)::r,k=>by simp only[rL];rw[jb r]
theorem aM {n:Nat} {b:Rc} {Q:Exit→TS→HS→Nat→Prop} {tm:TS} {hp:HS} {ctr:Nat} (keys:List Nat) (nest:List (Nat×Nat)) (ks:List Nat) (R:Nat→List V→Prop) (m0:Nat) (Ay:List V) {mj:TS} {Zu:HS} {cB:Nat}
 (hB:BB (vF keys nest tm hp) fun S=>qI (S.tm tm) fun t=>rL (S.hp hp) fun q=>S.ok=true∧t=mj∧q=Zu∧S.ctr=cB)
 (GA:mj.length=keys.length) (h0:mj=kO ks Ay mj) (M3:R m0 Ay)
 (hstep: ∀m vs,R m vs→qI (kO ks vs mj) fun mX=>X P n b (iM (bU fun bg aG c'=> ∃m' vs',R m' vs'∧bg=kO ks vs' mj∧aG=Zu∧c'=cB∧m' < m) Q) mX Zu cB):
 ∃I:Nat→TS→HS→Nat→Prop,bU (fun tm hp c=> ∃m,I m tm hp c) tm hp ctr∧
  ∀m tm hp c,I m tm hp c→X P n b (iM (bU fun tm hp c=> ∃m',m' < m∧I m' tm hp c) Q) tm hp c:=by
 rw[oR,gH,jb]at hB
 obtain⟨hS,e1,e2,e3⟩:=hB
 refine⟨fun m bg aG c'=> ∃vs',R m vs'∧bg=kO ks vs' mj∧aG=Zu∧c'=cB,bU.mk' ⟨vF keys nest tm hp,hS,m0,Ay,M3,e1.trans h0,e2,e3⟩,?_⟩
 rintro m bg hq c' ⟨vs,hR,rfl,rfl,rfl⟩
 have:=hstep m vs hR
 rw[gH]at this
 refine(congrArg (fun J=>X P n b (iM (bU J) Q) _ _ _) ?_).mp this
 funext bg aG ZP
 exact propext ⟨fun⟨m',vs',h1,h2,h3,h4,h5⟩=>⟨m',h5,vs',h1,h2,h3,h4⟩,fun⟨m',h5,vs',h1,h2,h3,h4⟩=>⟨m',vs',h1,h2,h3,h4,h5⟩⟩
theorem bX {n:Nat} {b:Rc} {Q:Exit→TS→HS→Nat→Prop} {tm:TS} {hp:HS} {ctr:Nat} (keys:List Nat) (nest:List (Nat×Nat)) (ks:List Nat) (R:Nat→List V→HS→Prop) (m0:Nat) (Ay:List V) {mj:TS} {qR:HS} {cB:Nat}
 (hB:BB (vF keys nest tm hp) fun S=>qI (S.tm tm) fun t=>rL (S.hp hp) fun q=>S.ok=true∧t=mj∧q=qR∧S.ctr=cB)
 (GA:mj.length=keys.length) (h0:mj=kO ks Ay mj) (M3:R m0 Ay qR)
 (hstep: ∀m vs hq,R m vs hq→qI (kO ks vs mj) fun mX=>X P n b (iM (bU fun bg aG c'=> ∃m' vs',R m' vs' aG∧bg=kO ks vs' mj∧c'=cB∧m' < m) Q) mX hq cB):
 ∃I:Nat→TS→HS→Nat→Prop,bU (fun tm hp c=> ∃m,I m tm hp c) tm hp ctr∧
  ∀m tm hp c,I m tm hp c→X P n b (iM (bU fun tm hp c=> ∃m',m' < m∧I m' tm hp c) Q) tm hp c:=by
 rw[oR,gH,jb]at hB
 obtain⟨hS,e1,e2,e3⟩:=hB
 refine⟨fun m bg aG c'=> ∃vs',R m vs' aG∧bg=kO ks vs' mj∧c'=cB,bU.mk' ⟨vF keys nest tm hp,hS,m0,Ay,by rw[e2];exact M3,e1.trans h0,e3⟩,?_⟩
 rintro m bg hq c' ⟨vs,hR,rfl,rfl⟩
 have:=hstep m vs hq hR
 rw[gH]at this
 refine(congrArg (fun J=>X P n b (iM (bU J) Q) _ _ _) ?_).mp this
 funext bg aG ZP
 exact propext ⟨fun⟨m',vs',h1,h2,h4,h5⟩=>⟨m',h5,vs',h1,h2,h4⟩,fun⟨m',h5,vs',h1,h2,h4⟩=>⟨m',vs',h1,h2,h4,h5⟩⟩
def lc (Pd:List T→Prop) (rows:List (List C)):Prop:= ∀r,r∈rows→ ∃e,r=e.map .t∧Pd e
theorem FW (e:List T) (f:Nat→Option Nat):(e.map C.t).map (C.av f)=e.map C.t:=by
 rw[List.map_map]
 rfl
theorem lc.av {Pd:List T→Prop} {rows:List (List C)} (h:lc Pd rows) (f:Nat→Option Nat):lc Pd (rows.map fun e=>e.map (C.av f)):=by
 intro r hr
 simp only[List.mem_map]at hr
 obtain⟨r',dB,rfl⟩:=hr
 obtain⟨e,rfl,he⟩:=h r' dB
 exact⟨e,FW e f,he⟩
theorem lc.set {Pd:List T→Prop} {rows:List (List C)} (h:lc Pd rows) {i:Nat} {e:List T} (he:Pd e):lc Pd (rows.set i (e.map .t)):=by
 intro r hr
 rcases List.mem_or_eq_of_mem_set hr with hr|rfl
 · exact h r hr
 · exact⟨e,rfl,he⟩
theorem lc.snoc {Pd:List T→Prop} {rows:List (List C)} (h:lc Pd rows) {e:List T} (he:Pd e):lc Pd (rows++[e.map .t]):=by
 intro r hr
 simp only[List.mem_append,List.mem_singleton]at hr
 rcases hr with hr|rfl
 · exact h r hr
 · exact⟨e,rfl,he⟩
theorem lc.replicate {Pd:List T→Prop} {n:Nat} {e:List T} (he:Pd e):lc Pd (List.replicate n (e.map .t)):=by
 intro r hr
 obtain⟨_,rfl⟩:=List.mem_replicate.1 hr
 exact⟨e,rfl,he⟩
theorem Fw {Pd:List T→Prop} {rows:List (List C)} {i:Nat} {K:List C→Prop} (h:lc Pd rows) (hi:i < rows.length) (hk: ∀e,Pd e→rows[i]? =some (e.map .t)→K (e.map .t)):qu rows i K:=by
 obtain⟨e,he,hp⟩:=h _ (List.getElem_mem hi)
 have:rows[i]? =some (e.map .t):=by rw[←he];simp[hi]
 simp only[qu,this]
 exact hk e hp this
theorem C9 {Pd:List T→Prop} {hp:HS} {d:Nat}: ∀ {rows:List (List C)},lc Pd rows→ ∃xs,bM (bM (dm d hp)) rows=some xs∧xs.length=rows.length∧ ∀e,e∈xs→Pd e
 | [],_=>⟨[],rfl,rfl,by simp⟩
 |r::rows,h=>by
  obtain⟨xs,h1,h2,h3⟩:=C9 (hp:=hp) (d:=d) (rows:=rows) (fun q hq=>h q (List.mem_cons_of_mem _ hq))
  obtain⟨e,rfl,he⟩:=h r List.mem_cons_self
  have hone: ∀e:List T,bM (dm d hp) (e.map .t)=some e:=by
   intro e
   induction e with
   |nil=>rfl
   |cons x e ih=>
    have:dm d hp (.t x)=some x:=by cases d<;>rfl
    simp only[List.map_cons,bM,this,ih]
  refine⟨e::xs,by simp only[bM,hone,h1],by simp[h2],fun q hq=>?_⟩
  rcases List.mem_cons.1 hq with rfl|hq
  · exact he
  · exact h3 q hq
def GL (sz:Nat) (p:Lz→Prop) (ts:List W):Prop:= ∃xs,ts=[.one (.t (.aB sz xs))]∧p xs
theorem gL {rs:List ResultVar} {tm:TS} {hp:HS} {t id sz:Nat} {rows:List (List C)} {Pd:List T→Prop} {len:Nat} {p:Lz→Prop} (hr:rs=[.tmp t]) (h:find tm t=some (.w (.one (.own id sz 0 len)))) (hf:find hp id=some (.row sz rows)) (hl:len=rows.length)
 (hc:lc Pd rows) (hg: ∀xs,xs.length=rows.length→(∀e,e∈xs→Pd e)→p xs): ∃us ts,aN P hp tm rs=some us∧bM (bY hp) us=some ts∧GL sz p ts:=by
 subst hr
 subst hl
 obtain⟨xs,h1,h2,h3⟩:=C9 (hp:=hp) (d:=5) hc
 refine⟨[.one (.own id sz 0 rows.length)],[.one (.t (.aB sz xs))],by simp only[aN,cz,h],?_,xs,rfl,hg xs h2 h3⟩
 have hz:dm 6 hp (.own id sz 0 rows.length)=some (.aB sz xs):=by
  have e0:(rows.drop 0).take rows.length=rows:=by simp
  simp only[dm,hf,Nat.zero_add,Nat.le_refl,and_self,if_true,e0,h1,Option.map_some]
 simp only[bM,bY,hz,Option.map_some]
theorem ZG {rs:List ResultVar} {tm:TS} {hp:HS} {t sz:Nat} {xs:Lz} {p:Lz→Prop} (hr:rs=[.tmp t]) (h:find tm t=some (.w (.one (.t (.aB sz xs))))) (hg:p xs): ∃us ts,aN P hp tm rs=some us∧bM (bY hp) us=some ts∧GL sz p ts:=by
 subst hr
 exact⟨[.one (.t (.aB sz xs))],[.one (.t (.aB sz xs))],by simp only[aN,cz,h],rfl,xs,rfl,hg⟩
theorem ak {J:TS→HS→Nat→Prop} {tm:TS} {hp:HS} {ctr:Nat} (keys:List Nat) (nest:List (Nat×Nat))
 (h:BB (vF keys nest tm hp) fun S=>qI (S.tm tm) fun t=>rL (S.hp hp) fun q=>S.ok=true∧J t q S.ctr):bU J tm hp ctr:=by
 rw[oR,gH,jb]at h
 exact .mk _ h.1 h.2
theorem ai {f:FuncId} {us:List W} {hp:HS} {ctr:Nat} {K:V→HS→Nat→Prop} {Good:List W→Prop} (hT:yW us=true) (h: ∃ts,Fn P f us [] (aL ts) []∧(aL ts).bL=true∧Good ts)
 (hk: ∀ts,Good ts→K (aL ts) hp (ctr+4)): ∃v aG c',gh P f us hp ctr v aG c'∧K v aG c':=by
 obtain⟨ts,h1,h2,h3⟩:=h
 exact⟨_,_,_,qN (hJ h2 hT h1),hk ts h3⟩
theorem aC {f:FuncId} {us:List W} {hp:HS} {ctr:Nat} {K:V→HS→Prop} {Good:List W→Prop} (hT:yW us=true) (h: ∃ts,Fn P f us [] (aL ts) []∧(aL ts).bL=true∧Good ts)
 (hk: ∀ts,Good ts→K (aL ts) hp): ∃v aG,eU P hp ctr f us v aG∧K v aG:=by
 obtain⟨ts,h1,h2,h3⟩:=h
 exact⟨_,_,hJ h2 hT h1,hk ts h3⟩
theorem sE {f:FuncId} {us ts:List W} {hp:HS} {ctr:Nat} {K:V→HS→Nat→Prop} {Good:List W→Prop} (hl:bM (bY hp) us=some ts) (h: ∃rs,Fn P f ts [] (aL rs) []∧(aL rs).bL=true∧Good rs)
 (hf: ∀rs,Good rs→(aL rs).flat=true) (hk: ∀rs,Good rs→K (aL rs) hp (ctr+4)): ∃v aG c',gh P f us hp ctr v aG c'∧K v aG c':=by
 obtain⟨rs,h1,h2,h3⟩:=h
 exact⟨_,_,_,(mL h2 hl (hf rs h3) h1).m,hk rs h3⟩
theorem fu {f:FuncId} {us args:List W} {hp hin:HS} {ctr:Nat} {K:V→HS→Nat→Prop} {Good:List W→HS→Prop} (ids:List Nat) (hok:w4 ids ctr=true) (h: ∃ts hout,Fn P f args hin (aL ts) hout∧Good ts hout)
 (ha:us.map (W.av (bt ids))=args) (hh:cM (bt ids) hp 0 ids=hin) (hk: ∀ts hout,Good ts hout→K ((aL ts).av (gP ids ctr)) (fm (gP ids ctr) hout++jt ids hp) (ctr+4)): ∃v aG c',gh P f us hp ctr v aG c'∧K v aG c':=by
 obtain⟨ts,hout,h1,h2⟩:=h
 exact⟨_,_,_,uN ids hok h1 ha hh,hk ts hout h2⟩
theorem au {p:Prop} [Decidable p] {x y:Prop} (hx:p→x) (hy:¬p→y):br (decide p) x y:=
 aF (fun h=>hx (of_decide_eq_true h)) (fun h=>hy (of_decide_eq_false h))
theorem ca {a b:Int} {x y:Prop} (hx:a≠b→x) (hy:a=b→y):br (a !=b) x y:=aF (fun h=>hx (by simpa using h)) (fun h=>hy (by simpa using h))
theorem bF {a b:Int} (ha:0≤a):0≤a.tmod b:=Int.tmod_nonneg _ ha
theorem bq {a b:Int} (hb:0 < b):a.tmod b < b:=Int.tmod_lt_of_pos _ hb
theorem tV (n:Int): -9223372036854775808≤IntKind.i64.wrap n∧IntKind.i64.wrap n < 9223372036854775808:=by
 simp only[IntKind.wrap,IntKind.bits,IntKind.signed,Bool.true_and]
 split
 · rename_i h;simp at h⊢;omega
 · rename_i h;simp at h⊢;omega
def RI (N:Nat) (m:Nat) (vs:List V):Prop:= ∃i:Nat,i≤N∧m=N - i∧vs=[iV .i64 (i:Int)]
theorem RI.zero {N:Nat}:RI N N [iV .i64 0]:=⟨0,Nat.zero_le _,rfl,rfl⟩
theorem RI.succ {N i:Nat} (h:i < N) (hN:N≤maxLen):RI N (N - (i+1)) [iV .i64 (IntKind.i64.wrap ((i:Int)+1))]:=
 ⟨i+1,h,rfl,by rw[aa (by omega) (by simp only[maxLen]at hN;omega)];rfl⟩
theorem aq {xs:Lz} {Pd:List T→Prop} {n:Int} {K:List T→Prop} (hx: ∀e,e∈xs→Pd e) (h0:0≤n) (h1:n < (xs.length:Int)) (hk: ∀e,Pd e→xs[n.toNat]? =some e→K e):0≤n∧ ∃e,xs[n.toNat]? =some e∧K e:=by
 have hlt:n.toNat < xs.length:=by omega
 exact⟨h0,xs[n.toNat],by simp[hlt],hk _ (hx _ (List.getElem_mem hlt)) (by simp[hlt])⟩
theorem D3 {s:ByteArray} {n:Int} {K:UInt8→Prop} (h0:0≤n) (h1:n < (s.size:Int)) (hk: ∀b,K b):0≤n∧ ∃b,s[n.toNat]? =some b∧K b:=by
 have hlt:n.toNat < s.size:=by omega
 exact⟨h0,s[n.toNat],by simp[hlt],hk _⟩
theorem LY {s:ByteArray} {n:Int} {N B:Nat} {K:UInt8→Prop} (hN:s.size=N) (hB:s.data.toList.all (fun b=>Nat.ble b.toNat B)=true) (h0:0≤n) (h1:n < (N:Int)) (hk: ∀b:UInt8,b.toNat≤B→K b):0≤n∧ ∃b,s[n.toNat]? =some b∧K b:=by
 have hlt:n.toNat < s.size:=by omega
 refine⟨h0,s[n.toNat],by simp[hlt],hk _ ?_⟩
 have hm:s[n.toNat]∈s.data.toList:=by
  have:s[n.toNat]=s.data[n.toNat]'hlt:=rfl
  rw[this]
  simp
 exact Nat.le_of_ble_eq_true (List.all_eq_true.1 hB _ hm)
theorem cE {α:Type} {xs:List α} {Pd:α→Prop} (h: ∀e,e∈xs→Pd e) (a b:Nat): ∀e,e∈ (xs.drop a).take b→Pd e:=fun e he=>h e (List.mem_of_mem_drop (List.mem_of_mem_take he))
theorem oO {α:Type} {xs:List α} {B:Nat} (h:xs.length≤B) (a b:Nat):((xs.drop a).take b).length≤B:=by simp only[List.length_take,List.length_drop];omega
theorem gK {sz:Nat} {xs:Lz} {l h:Nat} {K:C→Prop} (h1:l≤h) (h2:h≤xs.length) (hk:K (.t (.aB sz ((xs.drop l).take (h - l))))):(l≤h∧h≤xs.length)∧xJ (.t (.aB sz xs)) l h K:=by
 refine⟨⟨h1,h2⟩,?_⟩
 simp only[xJ,BL,if_pos (⟨h1,h2⟩:l≤h∧h≤xs.length)]
 exact hk
theorem lX {id sz i len l h:Nat} {K:C→Prop} (h1:l≤h) (h2:h≤len) (hne:h≠l∨l=0) (hk:K (.own id sz (i+l) (h - l))):(l≤h∧h≤len)∧xJ (.own id sz i len) l h K:=by
 refine⟨⟨h1,h2⟩,?_⟩
 have e:¬ (h=l∧l≠0):=by omega
 simp only[xJ,BL,if_neg e,if_pos (⟨h1,h2⟩:l≤h∧h≤len)]
 exact hk
theorem g1 {rs:List ResultVar} {tm:TS} {hp:HS} {Good:List W→Prop} {t:Nat} {x:T} (hr:rs=[.tmp t]) (h:find tm t=some (.w (.one (.t x)))) (hg:Good [.one (.t x)]):
 ∃us ts,aN P hp tm rs=some us∧bM (bY hp) us=some ts∧Good ts:=by
 subst hr
 exact⟨[.one (.t x)],[.one (.t x)],by simp only[aN,cz,h],rfl,hg⟩
theorem gC {rs:List ResultVar} {tm:TS} {hp:HS} {Good:List W→Prop} {b ty n:Nat} {c:C} {cs:List C} {j:Nat} {ts:List T} (hr:rs=[.cell b ty]) (ha:ju P ty=some true) (hz:cF P ty=some n)
 (h:find tm b=some (.w (.one c))) (hd:deref hp c=some (cs,j)) (hl:j+n≤cs.length) (hts:bM (dm 6 hp) ((cs.drop j).take n)=some ts) (hg:Good [.agg (ts.map .t)]):
 ∃us ts,aN P hp tm rs=some us∧bM (bY hp) us=some ts∧Good ts:=by
 subst hr
 refine⟨[.agg ((cs.drop j).take n)],[.agg (ts.map .t)],?_,?_,hg⟩
 · simp only[aN,cz,h,eG,hd,jR,ha,hz,if_pos hl,Option.map_some]
 · simp only[bM,bY,hts,Option.map_some]
def kZ (p:Int→Prop) (ts:List W):Prop:= ∃n,ts=[.one (.t (.val (.int .i64 n)))]∧p n
def ze (p:Prop) (ts:List W):Prop:= ∃b,ts=[.one (.t (.val (.bool b)))]∧(b=true↔p)
theorem gi {rs:List ResultVar} {tm:TS} {hp:HS} {t:Nat} {n:Int} {p:Int→Prop} (hr:rs=[.tmp t]) (h:find tm t=some (iV .i64 n)) (aG:p n): ∃us ts,aN P hp tm rs=some us∧bM (bY hp) us=some ts∧kZ p ts:=g1 hr h ⟨n,rfl,aG⟩
theorem tv {rs:List ResultVar} {tm:TS} {hp:HS} {t:Nat} {b:Bool} {p:Prop} (hr:rs=[.tmp t]) (h:find tm t=some (bV b)) (aG:b=true↔p): ∃us ts,aN P hp tm rs=some us∧bM (bY hp) us=some ts∧ze p ts:=g1 hr h ⟨b,rfl,aG⟩
def GI (ts:List W):Prop:= ∃n,ts=[.one (.t (.val (.int .i64 n)))]
def GB (ts:List W):Prop:= ∃b,ts=[.one (.t (.val (.bool b)))]
theorem gI {rs:List ResultVar} {tm:TS} {hp:HS} {t:Nat} {n:Int} (hr:rs=[.tmp t]) (h:find tm t=some (iV .i64 n)): ∃us ts,aN P hp tm rs=some us∧bM (bY hp) us=some ts∧GI ts:=g1 hr h ⟨n,rfl⟩
theorem gB {rs:List ResultVar} {tm:TS} {hp:HS} {t:Nat} {b:Bool} (hr:rs=[.tmp t]) (h:find tm t=some (bV b)): ∃us ts,aN P hp tm rs=some us∧bM (bY hp) us=some ts∧GB ts:=g1 hr h ⟨b,rfl⟩
end Go.aT
end
section
namespace Go.aT.Cd
open Go Go.Proofs
set_option maxRecDepth 100000
abbrev Tg (n:Nat) (a:List W) (G:List W→Prop):Prop:= ∃ts,Fn Tryz.prog n a [] (aL ts) []∧(aL ts).bL=true∧G ts
abbrev Te (n:Nat) (a r:List W):Prop:= ∃ts,Fn Tryz.prog n a [] (aL ts) []∧(aL ts).bL=true∧ts=r
abbrev Sp:=Int×Int
abbrev tI (n:Int):T:= .val (.int .i64 n)
abbrev tB (b:Bool):T:= .val (.bool b)
abbrev oI (n:Int):W:= .one (.t (tI n))
abbrev eSp (s:Sp):List T:=[tI s.1,tI s.2]
abbrev eo (s:Sp):W:= .agg [.t (tI s.1), .t (tI s.2)]
theorem gW {P:Program} {rs:List ResultVar} {tm:TS} {hp:HS}:True→True→True:=fun _ _=>trivial
theorem g2 {P:Program} {rs:List ResultVar} {tm:TS} {hp:HS}:True→True→True:=fun _ _=>trivial
theorem oz (n:Int):Tg 88 [oI n] GB:=by
 refine ah Tryz.func88 ?_
 repeat' (conv=>whnf
          first
  |(refine aF (fun h=>?_) (fun h=>?_))
  |(refine And.intro (by kernel_rfl) ?_)
  |exact gI rfl rfl
  |exact gB rfl rfl
  |exact gW rfl rfl
  |exact g2 rfl rfl)
theorem iX (a b:Int):Tg 65 [oI a,oI b] GI:=by
 refine ah Tryz.func65 ?_
 repeat' (conv=>whnf
          first
  |(refine ai rfl (oz _) ?_;rintro _ ⟨b,rfl⟩)
  |(refine aC rfl (oz _) ?_;rintro _ ⟨b,rfl⟩)
  |(refine aF (fun h=>?_) (fun h=>?_))
  |(refine And.intro (by kernel_rfl) ?_)
  |exact gI rfl rfl
  |exact gB rfl rfl
  |exact gW rfl rfl
  |exact g2 rfl rfl)
theorem dX (a b c:Sp):Tg 140 [eo a,eo b,eo c] GI:=by
 refine ah Tryz.func140 ?_
 repeat' (conv=>whnf
          first
  |(refine aF (fun h=>?_) (fun h=>?_))
  |(refine And.intro (by kernel_rfl) ?_)
  |exact gI rfl rfl
  |exact gB rfl rfl
  |exact gW rfl rfl
  |exact g2 rfl rfl)
theorem wM (a b c:Sp):Tg 141 [eo a,eo b,eo c] GB:=by
 refine ah Tryz.func141 ?_
 repeat' (conv=>whnf
          first
  |(refine ai rfl (dX (_,_) (_,_) (_,_)) ?_;rintro _ ⟨n,rfl⟩)
  |(refine aC rfl (dX (_,_) (_,_) (_,_)) ?_;rintro _ ⟨n,rfl⟩)
  |(refine aF (fun h=>?_) (fun h=>?_))
  |(refine And.intro (by kernel_rfl) ?_)
  |exact gI rfl rfl
  |exact gB rfl rfl
  |exact gW rfl rfl
  |exact g2 rfl rfl)
theorem nT (a b c d:Sp):Tg 142 [eo a,eo b,eo c,eo d] GB:=by
 refine ah Tryz.func142 ?_
 repeat' (conv=>whnf
          first
  |(refine ai rfl (dX (_,_) (_,_) (_,_)) ?_;rintro _ ⟨n,rfl⟩)
  |(refine aC rfl (dX (_,_) (_,_) (_,_)) ?_;rintro _ ⟨n,rfl⟩)
  |(refine ai rfl (iX _ _) ?_;rintro _ ⟨n,rfl⟩)
  |(refine aC rfl (iX _ _) ?_;rintro _ ⟨n,rfl⟩)
  |(refine aF (fun h=>?_) (fun h=>?_))
  |(refine And.intro (by kernel_rfl) ?_)
  |exact gI rfl rfl
  |exact gB rfl rfl
  |exact gW rfl rfl
  |exact g2 rfl rfl)
theorem nU (a b c:Sp):Tg 107 [eo a,eo b,eo c] GB:=by
 refine ah Tryz.func107 ?_
 repeat' (conv=>whnf
          first
  |(refine ai rfl (dX (_,_) (_,_) (_,_)) ?_;rintro _ ⟨n,rfl⟩)
  |(refine aC rfl (dX (_,_) (_,_) (_,_)) ?_;rintro _ ⟨n,rfl⟩)
  |(refine aF (fun h=>?_) (fun h=>?_))
  |(refine And.intro (by kernel_rfl) ?_)
  |exact gI rfl rfl
  |exact gB rfl rfl
  |exact gW rfl rfl
  |exact g2 rfl rfl)
theorem rf (a b c d:Sp):Tg 108 [eo a,eo b,eo c,eo d] GB:=by
 refine ah Tryz.func108 ?_
 repeat' (conv=>whnf
          first
  |(refine ai rfl (wM (_,_) (_,_) (_,_)) ?_;rintro _ ⟨b,rfl⟩)
  |(refine aC rfl (wM (_,_) (_,_) (_,_)) ?_;rintro _ ⟨b,rfl⟩)
  |(refine ai rfl (nT (_,_) (_,_) (_,_) (_,_)) ?_;rintro _ ⟨b,rfl⟩)
  |(refine aC rfl (nT (_,_) (_,_) (_,_) (_,_)) ?_;rintro _ ⟨b,rfl⟩)
  |(refine aF (fun h=>?_) (fun h=>?_))
  |(refine And.intro (by kernel_rfl) ?_)
  |exact gI rfl rfl
  |exact gB rfl rfl
  |exact gW rfl rfl
  |exact g2 rfl rfl)
end Go.aT.Cd
end
section
namespace Go.aT.Cd
open Go Go.Proofs
set_option maxRecDepth 100000
def NZ (e:List T):Prop:= ∃a b,e=[tI a,tI b]
abbrev bG (xs:Lz):Prop:= ∀e,e∈xs→NZ e
abbrev oL (k:Nat) (xs:Lz):W:= .one (.t (.aB k xs))
theorem qt (xs:Lz) (s:Sp) (hx:bG xs) (hl:xs.length≤1000000):Tg 139 [oL 2 xs,eo s] GI:=by
 refine ah Tryz.func139 ?_
 repeat' (conv=>whnf
          first
  |(refine au (fun h=>?_) (fun h=>?_))
  |(refine aF (fun h=>?_) (fun h=>?_))
  |(refine aq hx (by first|omega|exact bF (by first|omega|(simp (disch:=omega) only[aa];omega))|(simp (disch:=omega) only[aa];omega)) (by first|omega|exact bq (by omega)|(simp (disch:=omega) only[aa];omega)) ?_;rintro _ ⟨a,b,rfl⟩ hs)
  |(refine And.intro (by kernel_rfl) ?_)
  |exact gI rfl rfl
  |(apply aM [0,3,7,8] [] [8] (RI xs.length) (xs.length) [iV .i64 0];(conv=>whnf);exact⟨rfl,rfl,rfl,rfl⟩;exact rfl;exact rfl;exact RI.zero;rintro _ _ ⟨i,hi,rfl,rfl⟩)
  |(refine ak [0,3,7,8] [] ?_;(conv=>whnf);exact⟨rfl,_,[_],RI.succ (N:=xs.length) (i:=i) (by omega) (by simp only[maxLen];omega),rfl,rfl,rfl,by omega⟩))
 all_goals (conv=>whnf)
theorem mZ (xs:Lz) (s:Sp) (hx:bG xs) (hl:xs.length≤1000000):Tg 106 [oL 2 xs,eo s] GB:=by
 refine ah Tryz.func106 ?_
 repeat' (conv=>whnf
          first
  |(refine ai rfl (qt xs (_,_) hx hl) ?_;rintro _ ⟨n,rfl⟩)
  |exact gB rfl rfl)
 all_goals (conv=>whnf)
theorem rh (xs:Lz) (hx:bG xs) (hl:xs.length≤1000000):Tg 149 [oL 2 xs] GI:=by
 refine ah Tryz.func149 ?_
 repeat' (conv=>whnf
          first
  |(refine au (fun h=>?_) (fun h=>?_))
  |(refine aq hx (by first|omega|exact bF (by first|omega|(simp (disch:=omega) only[aa];omega))|(simp (disch:=omega) only[aa];omega)) (by first|omega|exact bq (by omega)|(simp (disch:=omega) only[aa];omega)) ?_;rintro _ ⟨a,b,rfl⟩ hs)
  |(refine And.intro (by omega) ?_)
  |exact gI rfl rfl
  |(apply aM [0,3,7,8,9] [] [3,9] (fun m vs=> ∃ (i:Nat) (s:Int),i≤xs.length∧m=xs.length - i∧vs=[iV .i64 s,iV .i64 i]) (xs.length) [iV .i64 0,iV .i64 0];(conv=>whnf);exact⟨rfl,rfl,rfl,rfl⟩;exact rfl;exact rfl;exact⟨0,0,by omega,by omega,rfl⟩;rintro _ _ ⟨i,s,hi,rfl,rfl⟩)
  |(refine ak [0,3,7,8,9] [] ?_;(conv=>whnf);exact⟨rfl,_,[_,_],⟨i+1,_,by omega,rfl,by rw[aa (n:=(i:Int)+1) (by omega) (by omega)];rfl⟩,rfl,rfl,rfl,by omega⟩))
 all_goals (conv=>whnf)
theorem AX (xs:Lz) (i:Nat) (hx:bG xs) (hl:xs.length≤1000000) (hi:i < xs.length):Tg 148 [oL 2 xs,oI i] GI:=by
 refine ah Tryz.func148 ?_
 repeat' (conv=>whnf
          first
  |(refine aq hx (by first|omega|exact bF (by first|omega|(simp (disch:=omega) only[aa];omega))|(simp (disch:=omega) only[aa];omega)) (by first|omega|exact bq (by omega)|(simp (disch:=omega) only[aa];omega)) ?_;rintro _ ⟨a,b,rfl⟩ hs)
  |(refine And.intro (by kernel_rfl) ?_)
  |(refine And.intro (by omega) ?_)
  |(refine aC rfl (dX (_,_) (_,_) (_,_)) ?_;rintro _ ⟨n,rfl⟩)
  |exact gI rfl rfl)
 all_goals (conv=>whnf)
theorem wL (xs:Lz) (hx:bG xs) (hl:xs.length≤1000000):Tg 81 [oL 2 xs] GB:=by
 refine ah Tryz.func81 ?_
 repeat' (conv=>whnf
          first
  |(refine au (fun h=>?_) (fun h=>?_))
  |(refine ca (fun h=>?_) (fun h=>?_))
  |(refine aF (fun h=>?_) (fun h=>?_))
  |(refine gK (by omega) (by omega) ?_)
  |(refine aq hx (by first|omega|exact bF (by first|omega|(simp (disch:=omega) only[aa];omega))|(simp (disch:=omega) only[aa];omega)) (by first|omega|exact bq (by omega)|(simp (disch:=omega) only[aa];omega)) ?_;rintro _ ⟨a,b,rfl⟩ hs)
  |(refine And.intro (by kernel_rfl) ?_)
  |(refine And.intro (by omega) ?_)
  |(refine aC rfl (mZ _ (_,_) (cE hx _ _) (oO hl _ _)) ?_;rintro _ ⟨b,rfl⟩)
  |(refine aC rfl (nU (_,_) (_,_) (_,_)) ?_;rintro _ ⟨b,rfl⟩)
  |(refine aC rfl (rf (_,_) (_,_) (_,_) (_,_)) ?_;rintro _ ⟨b,rfl⟩)
  |exact gB rfl rfl
  |(apply aM [0,3,6,7,8,9,25,26,27] [] [9] (fun m vs=> ∃j:Nat,i+2≤j∧m=xs.length+2 - j∧j≤xs.length+2∧vs=[iV .i64 j]) (xs.length - i) [iV .i64 (IntKind.i64.wrap ((i:Int)+2))];(conv=>whnf);exact⟨rfl,rfl,rfl,rfl⟩;exact rfl;exact rfl;exact⟨i+2,by omega,by omega,by omega,by rw[aa (by omega) (by omega)];rfl⟩;rintro _ _ ⟨j,hj,rfl,hj2,rfl⟩)
  |(refine ak [0,3,6,7,8,9,25,26,27] [] ?_;(conv=>whnf);exact⟨rfl,_,[_],⟨j+1,by omega,rfl,by omega,by rw[aa (by omega) (by omega)];rfl⟩,rfl,rfl,rfl,by omega⟩)
  |(apply aM [0,3,25,26,27] [] [27] (RI xs.length) (xs.length) [iV .i64 0];(conv=>whnf);exact⟨rfl,rfl,rfl,rfl⟩;exact rfl;exact rfl;exact RI.zero;rintro _ _ ⟨i,hi,rfl,rfl⟩)
  |(refine ak [0,3,25,26,27] [] ?_;(conv=>whnf);exact⟨rfl,_,[_],RI.succ (N:=xs.length) (i:=i) (by omega) (by simp only[maxLen];omega),rfl,rfl,rfl,by omega⟩)
  |(apply aM [0,3,12,13,14] [] [14] (RI xs.length) (xs.length) [iV .i64 0];(conv=>whnf);exact⟨rfl,rfl,rfl,rfl⟩;exact rfl;exact rfl;exact RI.zero;rintro _ _ ⟨i,hi,rfl,rfl⟩)
  |(refine ak [0,3,12,13,14] [] ?_;(conv=>whnf);exact⟨rfl,_,[_],RI.succ (N:=xs.length) (i:=i) (by omega) (by simp only[maxLen];omega),rfl,rfl,rfl,by omega⟩))
 all_goals (conv=>whnf)
end Go.aT.Cd
end
section
namespace Go.aT.Cd
open Go Go.Proofs
set_option maxRecDepth 100000
def gJ (s:Sp):Prop:=(-1048576≤s.1∧s.1≤1048576)∧(-1048576≤s.2∧s.2≤1048576)
def IK (e:List T):Prop:= ∃a b,e=[tI a,tI b]∧gJ (a,b)
theorem sX (s:Sp):Tg 80 [eo s] (ze (¬gJ s)):=by
 refine ah Tryz.func80 ?_
 repeat' (conv=>whnf
          first
  |(refine au (fun h=>?_) (fun h=>?_))
  |(refine tv rfl rfl ?_;simp only[gJ];first|(simp;omega)|omega))
 all_goals (conv=>whnf)
theorem Hs (s:Sp):Tg 205 [eo s] (ze (¬gJ s)):=by
 refine ah Tryz.func205 ?_
 repeat' (conv=>whnf
          first
  |(refine au (fun h=>?_) (fun h=>?_))
  |(refine tv rfl rfl ?_;simp only[gJ];first|(simp;omega)|omega))
 all_goals (conv=>whnf)
def GBq (p:Prop) (ts:List W):Prop:= ∃b,ts=[.one (.t (.val (.bool b)))]∧(b=false→p)
theorem gBq {P:Program} {rs:List ResultVar} {tm:TS} {hp:HS} {t:Nat} {b:Bool} {p:Prop} (hr:rs=[.tmp t]) (h:find tm t=some (bV b)) (hp2:b=false→p): ∃us ts,aN P hp tm rs=some us∧bM (bY hp) us=some ts∧GBq p ts:=g1 hr h ⟨b,rfl,hp2⟩
def YI (f:Nat):Prop:= ∀s, ∃ts,Fn Tryz.prog f [eo s] [] (aL ts) []∧(aL ts).bL=true∧ze (¬gJ s) ts
abbrev fV (f:Nat):W:= .one (.t (.val (.func (.func f) #[] #[])))
def An (xs:Lz) (m:Nat) (vs:List V):Prop:= ∃i:Nat,i≤xs.length∧(∀j e,j < i→xs[j]? =some e→IK e)∧m=xs.length - i∧vs=[iV .i64 (i:Int)]
theorem An.succ {xs:Lz} {i:Nat} {a b:Int} (h:i < xs.length) (hN:xs.length≤1000000) (ha: ∀j e,j < i→xs[j]? =some e→IK e) (hs:xs[((i:Int)).toNat]? =some [tI a,tI b]) (hi:gJ (a,b)):
 An xs (xs.length - (i+1)) [iV .i64 (IntKind.i64.wrap ((i:Int)+1))]:=by
 refine⟨i+1,h,fun j e hj he=>?_,rfl,by rw[aa (by omega) (by omega)];rfl⟩
 by_cases fT:j=i
 · subst fT
   rw[show((j:Int)).toNat=j by omega]at hs
   rw[hs]at he
   exact⟨a,b,(Option.some.inj he).symm,hi⟩
 · exact ha j e (by omega) he
theorem K6 {xs:Lz} {i:Nat} (h: ∀j e,j < i→xs[j]? =some e→IK e) (hi:xs.length≤i): ∀e,e∈xs→IK e:=by
 intro e he
 obtain⟨j,hj,rfl⟩:=List.getElem_of_mem he
 exact h j _ (by omega) (by simp[hj])
theorem mo (f:Nat) (od:enters Tryz.prog f=true) (hf:YI f) (xs:Lz) (hx:bG xs) (hl:xs.length≤1000000):Tg 105 [oL 2 xs,fV f] (kZ (fun n=> -1≤n∧(n < 0→ ∀e,e∈xs→IK e))):=by
 refine ah Tryz.func105 ?_
 repeat' (conv=>whnf
          first
  |(refine au (fun h=>?_) (fun h=>?_))
  |(refine aF (fun h=>?_) (fun h=>?_))
  |(refine And.intro od ?_)
  |(refine aq hx (by first|omega|exact bF (by first|omega|(simp (disch:=omega) only[aa];omega))|(simp (disch:=omega) only[aa];omega)) (by first|omega|exact bq (by omega)|(simp (disch:=omega) only[aa];omega)) ?_;rintro _ ⟨a,b,rfl⟩ hs)
  |(refine ai rfl (hf (_,_)) ?_;rintro _ ⟨b,rfl,hb⟩)
  |(refine gi rfl rfl ⟨by omega,fun h=>?_⟩;first|omega|exact K6 ha (by omega))
  |(apply aM [0,1,7,8] [] [8] (An xs) (xs.length) [iV .i64 0];(conv=>whnf);exact⟨rfl,rfl,rfl,rfl⟩;exact rfl;exact rfl;exact⟨0,by omega,fun j e hj=>by omega,rfl,rfl⟩;rintro _ _ ⟨i,hi,ha,rfl,rfl⟩)
  |(refine ak [0,1,7,8] [] ?_;(conv=>whnf);exact⟨rfl,_,[_],An.succ (by omega) hl ha hs (by simp_all),rfl,rfl,rfl,by omega⟩))
 all_goals (conv=>whnf)
theorem dL (f:Nat) (od:enters Tryz.prog f=true) (hf:YI f) (xs:Lz) (hx:bG xs) (hl:xs.length≤1000000):Tg 79 [oL 2 xs,fV f] (GBq (∀e,e∈xs→IK e)):=by
 refine ah Tryz.func79 ?_
 repeat' (conv=>whnf
          first
  |(refine ai rfl (mo f od hf xs hx hl) ?_;rintro _ ⟨n,rfl,hn⟩)
  |exact gBq rfl rfl (fun h=>hn.2 (by simpa using h)))
 all_goals (conv=>whnf)
theorem KB:enters Tryz.prog 80=true:=by kernel_rfl
theorem Yf:enters Tryz.prog 205=true:=by kernel_rfl
def Lj (xs:Lz):Prop:=3≤xs.length∧xs.length≤40∧ ∀e,e∈xs→IK e
def eS (xs:Lz):Prop:=2≤xs.length∧xs.length≤40∧ ∀e,e∈xs→IK e
theorem yB (xs:Lz) (hx:bG xs) (hl:xs.length≤1000000):Tg 55 [oL 2 xs] (kZ (fun n=>n=0→Lj xs)):=by
 refine ah Tryz.func55 ?_
 repeat' (conv=>whnf
          first
  |(refine au (fun h=>?_) (fun h=>?_))
  |(refine aF (fun h=>?_) (fun h=>?_))
  |(refine ai rfl (dL _ KB sX xs hx hl) ?_;rintro _ ⟨c,rfl,hc⟩)
  |(refine ai rfl (wL xs hx hl) ?_;rintro _ ⟨d,rfl⟩)
  |(refine gi rfl rfl (fun h0=>?_);first|(exfalso;omega)|exact⟨by omega,by omega,hc (by simp_all)⟩))
 all_goals (conv=>whnf)
theorem yC (xs:Lz) (hx:bG xs) (hl:xs.length≤1000000):Tg 193 [oL 2 xs] GI:=by
 refine ah Tryz.func193 ?_
 repeat' (conv=>whnf
          first
  |(refine ca (fun h=>?_) (fun h=>?_))
  |(refine ai rfl (yB xs hx hl) ?_;rintro _ ⟨c,rfl,hc⟩)
  |(refine ai rfl (rh xs hx hl) ?_;rintro _ ⟨d,rfl⟩)
  |exact gI rfl rfl)
 all_goals (conv=>whnf)
theorem wK (xs:Lz) (hx:bG xs) (hl:xs.length≤1000000):Tg 182 [oL 2 xs] (kZ (fun n=>n=0→eS xs)):=by
 have hw:=aa (n:=(xs.length:Int) - 1) (by omega) (by omega)
 refine ah Tryz.func182 ?_
 repeat' (conv=>whnf
          first
  |(refine au (fun h=>?_) (fun h=>?_))
  |(refine aF (fun h=>?_) (fun h=>?_))
  |(refine aq hx (by first|omega|exact bF (by first|omega|(simp (disch:=omega) only[aa];omega))|(simp (disch:=omega) only[aa];omega)) (by first|omega|exact bq (by omega)|(simp (disch:=omega) only[aa];omega)) ?_;rintro _ ⟨a,b,rfl⟩ hs)
  |(refine And.intro (by kernel_rfl) ?_)
  |(refine ai rfl (dL _ Yf Hs xs hx hl) ?_;rintro _ ⟨c,rfl,hc⟩)
  |(refine gi rfl rfl (fun h0=>?_);first|(exfalso;omega)|exact⟨by omega,by omega,hc (by simp_all)⟩)
  |(apply aM [0,14,15] [] [15] (RI (xs.length - 1)) (xs.length - 1) [iV .i64 0];(conv=>whnf);exact⟨rfl,rfl,rfl,rfl⟩;exact rfl;exact rfl;exact RI.zero;rintro _ _ ⟨i,hi,rfl,rfl⟩)
  |(refine ak [0,14,15] [] ?_;(conv=>whnf);exact⟨rfl,_,[_],RI.succ (N:=xs.length - 1) (i:=i) (by omega) (by simp only[maxLen];omega),rfl,rfl,rfl,by omega⟩))
 all_goals (conv=>whnf)
end Go.aT.Cd
end
section
namespace Go.aT.Cd
open Go Go.Proofs
set_option maxRecDepth 100000
theorem aSp:ju Tryz.prog 57=some true:=by kernel_rfl
theorem Zc:cF Tryz.prog 57=some 2:=by kernel_rfl
theorem aTu:ju Tryz.prog 56=some true:=by kernel_rfl
theorem zTu:cF Tryz.prog 56=some 2:=by kernel_rfl
theorem aRp:ju Tryz.prog 31=some true:=by kernel_rfl
theorem zRp:cF Tryz.prog 31=some 2:=by kernel_rfl
def To (p:Sp→Prop) (ts:List W):Prop:= ∃a b,ts=[eo (a,b)]∧p (a,b)
abbrev Wq (f:Bool) (q:Int):W:= .agg [.t (tB f), .t (tI q)]
def GTu (p:Bool→Int→Prop) (ts:List W):Prop:= ∃f q,ts=[Wq f q]∧p f q
theorem ZF {rs:List ResultVar} {tm:TS} {hp:HS} {b:Nat} {c:C} {cs:List C} {j:Nat} {x y:Int} {p:Sp→Prop} (hr:rs=[.cell b 57]) (h:find tm b=some (.w (.one c))) (hd:deref hp c=some (cs,j)) (hl:j+2≤cs.length) (hts:(cs.drop j).take 2=[.t (tI x), .t (tI y)]) (hg:p (x,y)):
 ∃us ts,aN Tryz.prog hp tm rs=some us∧bM (bY hp) us=some ts∧To p ts:=gC hr aSp Zc h hd hl (ts:=[tI x,tI y]) (by rw[hts];rfl) ⟨x,y,rfl,hg⟩
theorem gRp {rs:List ResultVar} {tm:TS} {hp:HS} {b:Nat} {c:C} {cs:List C} {j:Nat} {x y:Int} {p:Sp→Prop} (hr:rs=[.cell b 31]) (h:find tm b=some (.w (.one c))) (hd:deref hp c=some (cs,j)) (hl:j+2≤cs.length) (hts:(cs.drop j).take 2=[.t (tI x), .t (tI y)]) (hg:p (x,y)):
 ∃us ts,aN Tryz.prog hp tm rs=some us∧bM (bY hp) us=some ts∧To p ts:=gC hr aRp zRp h hd hl (ts:=[tI x,tI y]) (by rw[hts];rfl) ⟨x,y,rfl,hg⟩
theorem gTu {rs:List ResultVar} {tm:TS} {hp:HS} {b:Nat} {c:C} {cs:List C} {j:Nat} {f:Bool} {q:Int} {p:Bool→Int→Prop} (hr:rs=[.cell b 56]) (h:find tm b=some (.w (.one c))) (hd:deref hp c=some (cs,j)) (hl:j+2≤cs.length) (hts:(cs.drop j).take 2=[.t (tB f), .t (tI q)]) (hg:p f q):
 ∃us ts,aN Tryz.prog hp tm rs=some us∧bM (bY hp) us=some ts∧GTu p ts:=gC hr aTu zTu h hd hl (ts:=[tB f,tI q]) (by rw[hts];rfl) ⟨f,q,rfl,hg⟩
theorem GV (f:Bool) (q:Int):Tg 136 [Wq f q] (GTu (fun _ _=>True)):=by
 refine ah Tryz.func136 ?_
 repeat' (conv=>whnf
          first
  |exact gTu rfl rfl rfl (by simp) rfl trivial)
 all_goals (conv=>whnf)
theorem AA (g:Int) (m f:Bool) (q:Int):Tg 102 [oI g, .one (.t (tB m)),Wq f q] GB:=by
 refine ah Tryz.func102 ?_
 repeat' (conv=>whnf
          first
  |(refine au (fun h=>?_) (fun h=>?_))
  |(refine aF (fun h=>?_) (fun h=>?_))
  |(refine ai rfl (GV _ _) ?_;rintro _ ⟨f,q,rfl,_⟩)
  |exact gB rfl rfl)
 all_goals (conv=>whnf)
theorem yo (n:Int):Tg 216 [oI n] (kZ (fun r=>0≤r∧r≤1048576)):=by
 refine ah Tryz.func216 ?_
 repeat' (conv=>whnf
          first
  |(refine au (fun h=>?_) (fun h=>?_))
  |exact gi rfl rfl (by omega))
 all_goals (conv=>whnf)
theorem wl (n:Int):Tg 196 [oI n] (kZ (fun r=> -1048576≤r∧r≤1048576)):=by
 refine ah Tryz.func196 ?_
 repeat' (conv=>whnf
          first
  |(refine gi rfl rfl ?_;(repeat' split)<;>omega))
 all_goals (conv=>whnf)
theorem yp (n p:Int) (hp:0≤p):Tg 195 [oI n,oI p] GI:=by
 refine ah Tryz.func195 ?_
 repeat' (conv=>whnf
          first
  |(refine au (fun h=>?_) (fun h=>?_))
  |(refine And.intro (by omega) ?_)
  |exact gI rfl rfl)
 all_goals (conv=>whnf)
theorem Ch (r:Sp):Tg 194 [eo r] (To (fun r=>0≤r.1∧0≤r.2)):=by
 refine ah Tryz.func194 ?_
 repeat' (conv=>whnf
          first
  |(refine And.intro (by kernel_rfl) ?_)
  |(refine aC rfl (yo _) ?_;rintro _ ⟨n,rfl,h1,h2⟩)
  |exact gRp rfl rfl rfl (by simp) rfl ⟨by simp only;omega,by simp only;omega⟩)
 all_goals (conv=>whnf)
theorem AI (r a:Sp):Tg 171 [eo r,eo a] (To (fun _=>True)):=by
 refine ah Tryz.func171 ?_
 repeat' (conv=>whnf
          first
  |(refine And.intro (by kernel_rfl) ?_)
  |(refine ai rfl (Ch (_,_)) ?_;rintro _ ⟨x,y,rfl,h1,h2⟩)
  |(refine aC rfl (wl _) ?_;rintro _ ⟨n,rfl,_⟩)
  |(refine aC rfl (yp _ _ (by simp only at *;omega)) ?_;rintro _ ⟨n,rfl⟩)
  |exact ZF rfl rfl rfl (by simp) rfl trivial)
 all_goals (conv=>whnf)
theorem Cg (r a b:Sp):Tg 137 [eo r,eo a,eo b] GB:=by
 refine ah Tryz.func137 ?_
 repeat' (conv=>whnf
          first
  |(refine And.intro (by kernel_rfl) ?_)
  |(refine aC rfl (AI (_,_) (_,_)) ?_;rintro _ ⟨x,y,rfl,_⟩)
  |exact gB rfl rfl)
 all_goals (conv=>whnf)
theorem rm (s:Sp):Tg 54 [eo s] (ze (¬gJ s)):=by
 refine ah Tryz.func54 ?_
 repeat' (conv=>whnf
          first
  |(refine au (fun h=>?_) (fun h=>?_))
  |(refine tv rfl rfl ?_;simp only[gJ];first|(simp;omega)|omega))
 all_goals (conv=>whnf)
theorem pY (a b:Sp):Tg 167 [eo a,eo b] (To (fun _=>True)):=by
 refine ah Tryz.func167 ?_
 repeat' (conv=>whnf
          first
  |exact ZF rfl rfl rfl (by simp) rfl trivial)
 all_goals (conv=>whnf)
theorem lS (s:Sp) (b:Int):Tg 169 [eo s,oI b] GB:=by
 refine ah Tryz.func169 ?_
 repeat' (conv=>whnf
          first
  |(refine au (fun h=>?_) (fun h=>?_))
  |exact gB rfl rfl)
 all_goals (conv=>whnf)
theorem Bx (n b:Int):Tg 159 [oI n,oI b] (ze (IntKind.i64.wrap (0 - b)≤n∧n≤b)):=by
 refine ah Tryz.func159 ?_
 repeat' (conv=>whnf
          first
  |(refine au (fun h=>?_) (fun h=>?_))
  |(refine tv rfl rfl ?_;constructor<;>intro hh<;>first|exact⟨h,of_decide_eq_true hh⟩|exact decide_eq_true hh.2|exact absurd hh.1 h|exact absurd hh (by simp)))
 all_goals (conv=>whnf)
theorem iv (a b c:Sp):Tg 122 [eo a,eo b,eo c] GI:=by
 refine ah Tryz.func122 ?_
 repeat' (conv=>whnf
          first
  |exact gI rfl rfl)
 all_goals (conv=>whnf)
theorem sH (s:Sp):Tg 152 [eo s] GB:=by
 refine ah Tryz.func152 ?_
 repeat' (conv=>whnf
          first
  |(refine au (fun h=>?_) (fun h=>?_))
  |exact gB rfl rfl)
 all_goals (conv=>whnf)
end Go.aT.Cd
end
section
namespace Go.aT.Cd
open Go Go.Proofs
set_option maxRecDepth 100000
abbrev FQ (q:Int):Int:=IntKind.i64.wrap ((BitVec.ofInt IntKind.i64.bits q&&& BitVec.ofInt IntKind.i64.bits 3).toNat:Int)
theorem qk (f:Bool) (q:Int) (s:Sp):Tg 83 [Wq f q,eo s] (To (fun _=>True)):=by
 have hq:=tV ((BitVec.ofInt IntKind.i64.bits q&&& BitVec.ofInt IntKind.i64.bits 3).toNat:Int)
 have hqq:FQ q=IntKind.i64.wrap ((BitVec.ofInt IntKind.i64.bits q&&& BitVec.ofInt IntKind.i64.bits 3).toNat:Int):=rfl
 refine ah Tryz.func83 ?_
 repeat' (conv=>whnf
          first
  |(refine au (fun h=>?_) (fun h=>?_))
  |(refine aF (fun h=>?_) (fun h=>?_))
  |exact ZF rfl rfl rfl (by simp) rfl trivial
  |(apply bX [3,4,13,14] [] [14] (fun m vs hq=> ∃ (i:Nat) (a b:Int),i≤(FQ q).toNat∧m=(FQ q).toNat - i∧vs=[iV .i64 (i:Int)]∧hq=[(4, .row 2 [[.t (tI a), .t (tI b)]]),(8, .row 2 [[.t (tI 0), .t (tI 0)]])]) ((FQ q).toNat) [iV .i64 0];(conv=>whnf);exact⟨rfl,rfl,rfl,rfl⟩;exact rfl;exact rfl;exact⟨0,_,_,by omega,rfl,rfl,rfl⟩;rintro _ _ _ ⟨i,a,b,hi,rfl,rfl,rfl⟩)
  |(refine ak [3,4,13,14] [] ?_;(conv=>whnf);exact⟨rfl,_,[_],⟨i+1,_,_,by omega,rfl,by rw[aa (n:=(i:Int)+1) (by omega) (by omega)];rfl,rfl⟩,rfl,rfl,by omega⟩))
 all_goals (conv=>whnf)
theorem yA (xs:Lz) (d:Sp) (hx:bG xs) (hl:xs.length≤1000000):Tg 82 [oL 2 xs,eo d] (GL 2 (fun ys=>ys.length=xs.length∧bG ys)):=by
 refine ah Tryz.func82 ?_
 repeat' (conv=>whnf
          first
  |(refine au (fun h=>?_) (fun h=>?_))
  |(refine And.intro ⟨by omega,by omega,by omega,by omega⟩ ?_)
  |(refine And.intro ⟨by omega,by omega⟩ ?_)
  |(refine aq hx (by first|omega|exact bF (by first|omega|(simp (disch:=omega) only[aa];omega))|(simp (disch:=omega) only[aa];omega)) (by first|omega|exact bq (by omega)|(simp (disch:=omega) only[aa];omega)) ?_;rintro _ ⟨a,b,rfl⟩ hs)
  |(refine Fw hc (by omega) ?_;rintro _ ⟨a,b,rfl⟩ hs)
  |exact gL rfl rfl rfl (by omega) hc (fun ys h1 h2=>⟨by omega,h2⟩)
  |(apply bX [3,5,11,12,13] [] [13] (fun m vs hq=> ∃ (i:Nat) (rows:List (List C)),i≤xs.length∧m=xs.length - i∧vs=[iV .i64 (i:Int)]∧hq=[(4, .row 2 [[.t (tI d.1), .t (tI d.2)]]),(8, .row 2 rows)]∧rows.length=xs.length∧lc NZ rows) (xs.length) [iV .i64 0];(conv=>whnf);exact⟨rfl,rfl,rfl,rfl⟩;exact rfl;exact rfl;exact⟨0,_,by omega,rfl,rfl,rfl,by simp,(lc.replicate (e:=[tI 0,tI 0]) ⟨0,0,rfl⟩).av _⟩;rintro _ _ _ ⟨i,rows,hi,rfl,rfl,rfl,Zr,hc⟩)
  |(refine ak [3,5,11,12,13] [] ?_;(conv=>whnf);exact⟨rfl,_,[_],⟨i+1,_,by omega,rfl,by rw[aa (n:=(i:Int)+1) (by omega) (by omega)];rfl,rfl,by simp[Zr],(hc.set (e:=[_,_]) ⟨_,_,rfl⟩).av _⟩,rfl,rfl,by omega⟩))
 all_goals (conv=>whnf)
theorem AY (xs:Lz) (d:Sp) (hx:bG xs) (hl:xs.length≤1000000):Tg 56 [oL 2 xs,eo d] (GL 2 (fun ys=>ys.length=xs.length∧bG ys)):=by
 refine ah Tryz.func56 ?_
 repeat' (conv=>whnf
          first
  |(refine ai rfl (yA xs (_,_) hx hl) ?_;rintro _ ⟨ys,rfl,h1,h2⟩)
  |exact ZG rfl rfl ⟨h1,h2⟩)
 all_goals (conv=>whnf)
theorem zi (f:Bool) (q:Int) (xs:Lz) (hx:bG xs) (hl:xs.length≤1000000):Tg 57 [Wq f q,oL 2 xs] (GL 2 (fun ys=>ys.length=xs.length∧bG ys)):=by
 have HK:=aa (n:=(xs.length:Int) - 1) (by omega) (by omega)
 refine ah Tryz.func57 ?_
 repeat' (conv=>whnf
          first
  |(refine au (fun h=>?_) (fun h=>?_))
  |(refine aF (fun h=>?_) (fun h=>?_))
  |(refine And.intro ⟨by omega,by omega,by omega,by omega⟩ ?_)
  |(refine And.intro ⟨by first|omega|(rw[HK,aa (n:=(xs.length:Int) - 1 - (i:Int)) (by omega) (by omega)];omega),by first|omega|(rw[HK,aa (n:=(xs.length:Int) - 1 - (i:Int)) (by omega) (by omega)];omega)⟩ ?_)
  |(refine aq hx (by first|omega|exact bF (by first|omega|(simp (disch:=omega) only[aa];omega))|(simp (disch:=omega) only[aa];omega)) (by first|omega|exact bq (by omega)|(simp (disch:=omega) only[aa];omega)) ?_;rintro _ ⟨a,b,rfl⟩ hs)
  |(refine ai rfl (qk _ _ (_,_)) ?_;rintro _ ⟨x,y,rfl,_⟩)
  |(refine Fw hc (by omega) ?_;rintro _ ⟨a,b,rfl⟩ hs)
  |(refine Fw hc (by rw[HK,aa (n:=(xs.length:Int) - 1 - (i:Int)) (by omega) (by omega)];omega) ?_;rintro _ ⟨a,b,rfl⟩ hs)
  |exact gL rfl rfl rfl (by omega) hc (fun ys h1 h2=>⟨by omega,h2⟩)
  |(apply bX [1,2,5,11,12,13] [] [13] (fun m vs hq=> ∃ (i:Nat) (rows:List (List C)),i≤xs.length∧m=xs.length - i∧vs=[iV .i64 (i:Int)]∧hq=[(4, .row 2 [[.t (tB f), .t (tI q)]]),(8, .row 2 rows)]∧rows.length=xs.length∧lc NZ rows) (xs.length) [iV .i64 0];(conv=>whnf);exact⟨rfl,rfl,rfl,rfl⟩;exact rfl;exact rfl;exact⟨0,_,by omega,rfl,rfl,rfl,by simp,(lc.replicate (e:=[tI 0,tI 0]) ⟨0,0,rfl⟩).av _⟩;rintro _ _ _ ⟨i,rows,hi,rfl,rfl,rfl,Zr,hc⟩)
  |(refine ak [1,2,5,11,12,13] [] ?_;(conv=>whnf);exact⟨rfl,_,[_],⟨i+1,_,by omega,rfl,by rw[aa (n:=(i:Int)+1) (by omega) (by omega)];rfl,rfl,by simp[Zr],(hc.set (e:=[_,_]) ⟨_,_,rfl⟩).av _⟩,rfl,rfl,by omega⟩))
 all_goals (conv=>whnf)
theorem xl (a b:Int) (ha:0≤a) (hb:0 < b) (nj:b≤1000000000000):Tg 184 [oI a,oI b] GI:=by
 refine ah Tryz.func184 ?_
 repeat' (conv=>whnf
          first
  |(refine au (fun h=>?_) (fun h=>?_))
  |(refine And.intro (by rw[aa (n:=2 * b) (by omega) (by omega)];omega) ?_)
  |exact gI rfl rfl
  |(exfalso;omega))
 all_goals (conv=>whnf)
theorem pS (a b:Int) (ha: -1000000000000000≤a) (hb:0 < b) (nj:b≤1000000000000):Tg 184 [oI a,oI b] GI:=by
 refine ah Tryz.func184 ?_
 repeat' (conv=>whnf
          first
  |(refine au (fun h=>?_) (fun h=>?_))
  |(refine And.intro (by rw[aa (n:=2 * b) (by omega) (by omega)];omega) ?_)
  |(refine ai rfl (xl (IntKind.i64.wrap (0 - a)) b (by rw[aa (n:=0 - a) (by omega) (by omega)];omega) hb nj) ?_;rintro _ ⟨n,rfl⟩)
  |exact gI rfl rfl)
 all_goals (conv=>whnf)
theorem qQ (a b:Int) (ha:0≤a) (hb:0 < b) (nj:b≤1000000000000):Tg 188 [oI a,oI b] GI:=by
 refine ah Tryz.func188 ?_
 repeat' (conv=>whnf
          first
  |(refine au (fun h=>?_) (fun h=>?_))
  |(refine And.intro (by rw[aa (n:=2 * b) (by omega) (by omega)];omega) ?_)
  |exact gI rfl rfl
  |(exfalso;omega))
 all_goals (conv=>whnf)
theorem kM (a b:Int) (ha: -1000000000000000≤a) (hb:0 < b) (nj:b≤1000000000000):Tg 188 [oI a,oI b] GI:=by
 refine ah Tryz.func188 ?_
 repeat' (conv=>whnf
          first
  |(refine au (fun h=>?_) (fun h=>?_))
  |(refine And.intro (by rw[aa (n:=2 * b) (by omega) (by omega)];omega) ?_)
  |(refine ai rfl (qQ (IntKind.i64.wrap (0 - a)) b (by rw[aa (n:=0 - a) (by omega) (by omega)];omega) hb nj) ?_;rintro _ ⟨n,rfl⟩)
  |exact gI rfl rfl)
 all_goals (conv=>whnf)
end Go.aT.Cd
end
section
namespace Go.aT.Cd
open Go Go.Proofs
set_option maxRecDepth 100000
abbrev oS (s:ByteArray):W:= .one (.t (.val (.string s)))
abbrev oU8 (n:Int):W:= .one (.t (.val (.int .u8 n)))
theorem pL (xs ys:Lz) (hx:bG xs) (hy:bG ys) (hl:xs.length≤1000000) (hm:ys.length≤1000000):Tg 126 [oL 2 xs,oL 2 ys] GI:=by
 refine ah Tryz.func126 ?_
 repeat' (conv=>whnf
          first
  |(refine au (fun h=>?_) (fun h=>?_))
  |(refine aq hx (by first|omega|exact bF (by first|omega|(simp (disch:=omega) only[aa];omega))|(simp (disch:=omega) only[aa];omega)) (by first|omega|exact bq (by omega)|(simp (disch:=omega) only[aa];omega)) ?_;rintro _ ⟨a,b,rfl⟩ hs)
  |(refine aq hy (by first|omega|exact bF (by first|omega|(simp (disch:=omega) only[aa];omega))|(simp (disch:=omega) only[aa];omega)) (by first|omega|exact bq (by omega)|(simp (disch:=omega) only[aa];omega)) ?_;rintro _ ⟨a,b,rfl⟩ hs)
  |(refine And.intro (by omega) ?_)
  |(refine ai rfl (iX _ _) ?_;rintro _ ⟨n,rfl⟩)
  |exact gI rfl rfl
  |(apply aM [0,1,5,7,8,9,13,14,15,28,29,30] [] [9,30] (fun m vs=> ∃ (j:Nat) (s:Int),j≤ys.length∧m=ys.length - j∧vs=[iV .i64 s,iV .i64 j]) (ys.length) [iV .i64 (-1),iV .i64 0];(conv=>whnf);exact⟨rfl,rfl,rfl,rfl⟩;exact rfl;exact rfl;exact⟨0, -1,by omega,rfl,rfl⟩;rintro _ _ ⟨j,s',hj,rfl,rfl⟩)
  |(refine ak [0,1,5,7,8,9,13,14,15,28,29,30] [] ?_;(conv=>whnf);exact⟨rfl,_,[_,_],⟨j+1,_,by omega,rfl,by rw[aa (n:=(j:Int)+1) (by omega) (by omega)];rfl⟩,rfl,rfl,rfl,by omega⟩)
  |(apply aM [0,1,5,13,14,15] [] [5,15] (fun m vs=> ∃ (i:Nat) (s:Int),i≤xs.length∧m=xs.length - i∧vs=[iV .i64 s,iV .i64 i]) (xs.length) [iV .i64 1,iV .i64 0];(conv=>whnf);exact⟨rfl,rfl,rfl,rfl⟩;exact rfl;exact rfl;exact⟨0,1,by omega,rfl,rfl⟩;rintro _ _ ⟨i,s,hi,rfl,rfl⟩)
  |(refine ak [0,1,5,13,14,15] [] ?_;(conv=>whnf);exact⟨rfl,_,[_,_],⟨i+1,_,by omega,rfl,by rw[aa (n:=(i:Int)+1) (by omega) (by omega)];rfl⟩,rfl,rfl,rfl,by omega⟩))
 all_goals (conv=>whnf)
theorem mS (xs ys:Lz) (hx:bG xs) (hy:bG ys) (hl:xs.length≤1000000) (hm:ys.length≤1000000):Tg 92 [oL 2 xs,oL 2 ys] GI:=by
 refine ah Tryz.func92 ?_
 repeat' (conv=>whnf
          first
  |(refine ai rfl (pL xs ys hx hy hl hm) ?_;rintro _ ⟨n,rfl⟩)
  |(refine ai rfl (pL ys xs hy hx hm hl) ?_;rintro _ ⟨n,rfl⟩)
  |exact gI rfl rfl)
 all_goals (conv=>whnf)
theorem vu (c:Int):Tg 238 [oU8 c] GB:=by
 refine ah Tryz.func238 ?_
 repeat' (conv=>whnf
          first
  |(refine au (fun h=>?_) (fun h=>?_))
  |exact gB rfl rfl)
 all_goals (conv=>whnf)
theorem xp (s:ByteArray) (hs:s.size≤maxLen):Tg 218 [oS s] GB:=by
 refine ah Tryz.func218 ?_
 repeat' (conv=>whnf
          first
  |(refine au (fun h=>?_) (fun h=>?_))
  |(refine ca (fun h=>?_) (fun h=>?_))
  |(refine aF (fun h=>?_) (fun h=>?_))
  |(refine D3 (by omega) (by omega) ?_;intro bb)
  |(refine ai rfl (vu _) ?_;rintro _ ⟨b,rfl⟩)
  |exact gB rfl rfl
  |(apply aM [0,23,24] [] [24] (RI s.size) (s.size) [iV .i64 0];(conv=>whnf);exact⟨rfl,rfl,rfl,rfl⟩;exact rfl;exact rfl;exact RI.zero;rintro _ _ ⟨i,hi,rfl,rfl⟩)
  |(refine ak [0,23,24] [] ?_;(conv=>whnf);exact⟨rfl,_,[_],RI.succ (N:=s.size) (i:=i) (by omega) hs,rfl,rfl,rfl,by omega⟩))
 all_goals (conv=>whnf)
theorem BO (s:ByteArray) (hs:s.size≤maxLen):Tg 175 [oS s] GB:=by
 refine ah Tryz.func175 ?_
 repeat' (conv=>whnf
          first
  |(refine au (fun h=>?_) (fun h=>?_))
  |(refine aF (fun h=>?_) (fun h=>?_))
  |(refine D3 (by omega) (by omega) ?_;intro bb)
  |exact gB rfl rfl
  |(apply aM [0,7,8] [] [8] (RI s.size) (s.size) [iV .i64 0];(conv=>whnf);exact⟨rfl,rfl,rfl,rfl⟩;exact rfl;exact rfl;exact RI.zero;rintro _ _ ⟨i,hi,rfl,rfl⟩)
  |(refine ak [0,7,8] [] ?_;(conv=>whnf);exact⟨rfl,_,[_],RI.succ (N:=s.size) (i:=i) (by omega) hs,rfl,rfl,rfl,by omega⟩))
 all_goals (conv=>whnf)
def IsI (e:List T):Prop:= ∃a,e=[tI a]
end Go.aT.Cd
end
section
namespace Go.aT.Cd
open Go Go.Proofs
set_option maxRecDepth 100000
abbrev oU (n:Int):W:= .one (.t (.val (.int .u64 n)))
theorem Tz (n:Int):0≤IntKind.u8.wrap n∧IntKind.u8.wrap n < 256:=by
 simp[IntKind.wrap,IntKind.bits,IntKind.signed];omega
theorem vf (x:Int):Tg 118 [oU x] (kZ (fun n=>0≤n∧n≤64)):=by
 refine ah Tryz.func118 ?_
 repeat' (conv=>whnf
          first
  |(refine au (fun h=>?_) (fun h=>?_))
  |(refine LY (N:=256) (B:=8) (by kernel_rfl) (by kernel_rfl) (Tz _).1 (Tz _).2 ?_;intro bb DY)
  |(refine And.intro (by omega) ?_)
  |(refine gi rfl rfl ?_;simp (disch:=omega) only[aa];omega))
 all_goals (conv=>whnf)
theorem yH (x:Int):Tg 87 [oU x] (kZ (fun n=>0≤n∧n≤64)):=by
 refine ah Tryz.func87 ?_
 repeat' (conv=>whnf
          first
  |(refine ai rfl (vf _) ?_;rintro _ ⟨n,rfl,h1,h2⟩)
  |exact gi rfl rfl ⟨h1,h2⟩)
 all_goals (conv=>whnf)
theorem Ml (k:Nat) (h:k≤60):IntKind.i64.wrap (1 * 2 ^ (min k IntKind.i64.bits))=((2 ^ k:Nat):Int)∧1≤2 ^ k∧2 ^ k≤1152921504606846976:=by
 have h1:2 ^ k≤2 ^ 60:=Nat.pow_le_pow_right (by omega) h
 have h2:1≤2 ^ k:=Nat.one_le_two_pow
 have e:min k IntKind.i64.bits=k:=by simp only[IntKind.bits];omega
 refine⟨?_,h2,by simpa using h1⟩
 rw[e,Int.one_mul]
 have e2:((2:Int) ^ k)=((2 ^ k:Nat):Int):=by simp
 rw[e2]
 exact aa (by omega) (by omega)
theorem F7 {a:Int} (h0:0≤a) (h1:a < 9223372036854775808):IntKind.i64.wrap (a.tdiv 2)=a / 2:=by
 rw[Int.tdiv_eq_ediv_of_nonneg h0,aa (by omega) (by omega)]
theorem Jn {n x:Int} (h0:0≤n) (h1:1≤x):0≤n.tdiv x∧n.tdiv x≤n:=by
 rw[Int.tdiv_eq_ediv_of_nonneg h0]
 exact⟨Int.ediv_nonneg h0 (by omega),Int.ediv_le_self _ h0⟩
theorem QE {n x:Int} (h0:2≤n) (h1:n≤9223372036854775806) (hx:1≤x) (Zm:x≤1152921504606846976):
 1≤IntKind.i64.wrap ((IntKind.i64.wrap (x+IntKind.i64.wrap (n.tdiv x))).tdiv 2):=by
 obtain⟨q0,q1⟩:=Jn (n:=n) (x:=x) (by omega) hx
 have q2:x=1∨n.tdiv x≤4611686018427387903:=by
  by_cases h:x=1
  · exact .inl h
  · right
    rw[Int.tdiv_eq_ediv_of_nonneg (by omega)]
    have h3:n / x * x≤n:=Int.ediv_mul_le _ (by omega)
    have h4:0≤n / x:=Int.ediv_nonneg (by omega) (by omega)
    have h5:n / x * 2≤n / x * x:=Int.mul_le_mul_of_nonneg_left (by omega) h4
    omega
 have q3:x=1→n.tdiv x=n:=fun h=>by subst h;simp
 rw[aa (n:=n.tdiv x) (by omega) (by omega)]
 rw[aa (n:=x+n.tdiv x) (by omega) (by rcases q2 with h|h<;>omega)]
 rw[F7 (by omega) (by rcases q2 with h|h<;>omega)]
 rcases q2 with h|h
 · have:=q3 h;omega
 · by_cases s9:x=1
   · have:=q3 s9;omega
   · omega
theorem AP {r:Int} (h1:0≤r) (h2:r≤64):(0≤IntKind.i64.wrap ((IntKind.i64.wrap (r+1)).tdiv 2))∧1≤IntKind.i64.wrap (1 * 2 ^ (min (IntKind.i64.wrap ((IntKind.i64.wrap (r+1)).tdiv 2)).toNat IntKind.i64.bits))∧IntKind.i64.wrap (1 * 2 ^ (min (IntKind.i64.wrap ((IntKind.i64.wrap (r+1)).tdiv 2)).toNat IntKind.i64.bits))≤1152921504606846976:=by
 rw[aa (n:=r+1) (by omega) (by omega),F7 (by omega) (by omega)]
 obtain⟨a,b,c⟩:=Ml (((r+1) / 2).toNat) (by omega)
 rw[a]
 omega
theorem yz (n:Int) (h1:n≤9223372036854775806):Tg 226 [oI n] GI:=by
 refine ah Tryz.func226 ?_
 repeat' (conv=>whnf
          first
  |(refine au (fun h=>?_) (fun h=>?_))
  |(refine And.intro (AP kC w7).1 ?_)
  |(refine And.intro (by omega) ?_)
  |(refine ai rfl (yH _) ?_;rintro _ ⟨r,rfl,kC,w7⟩)
  |exact gI rfl rfl
  |(apply aM [0,3] [] [3] (fun m vs=> ∃x:Int,1≤x∧x≤1152921504606846976∧m=x.toNat∧vs=[iV .i64 x]) ((IntKind.i64.wrap (1 * 2 ^ (min (IntKind.i64.wrap ((IntKind.i64.wrap (r+1)).tdiv 2)).toNat IntKind.i64.bits))).toNat) [_];(conv=>whnf);exact⟨rfl,rfl,rfl,rfl⟩;exact rfl;exact rfl;exact⟨_,(AP kC w7).2.1,(AP kC w7).2.2,rfl,rfl⟩;rintro _ _ ⟨x,s9,Zm,rfl,rfl⟩)
  |(refine ak [0,3] [] ?_;(conv=>whnf);exact⟨rfl,_,[_],⟨_,QE (by omega) h1 s9 Zm,by omega,rfl,rfl⟩,rfl,rfl,rfl,by omega⟩))
 all_goals (conv=>whnf)
end Go.aT.Cd
end
section
namespace Go.aT
open Go
variable {P:Program}
abbrev iK:T:= .val (.slice none 0 0)
inductive NX:C→C→Prop
 |refl (c:C):NX c c
 |nil (sz:Nat):NX (.t iK) (.t (.aB sz []))
inductive cS:List C→List C→Prop
 |nil:cS [] []
 |cons {a b:C} {r s:List C} (h:NX a b) (t:cS r s):cS (a::r) (b::s)
inductive B3:W→W→Prop
 |one {a b:C} (h:NX a b):B3 (.one a) (.one b)
 |agg {r s:List C} (h:cS r s):B3 (.agg r) (.agg s)
inductive jH:List W→List W→Prop
 |nil:jH [] []
 |cons {a b:W} {r s:List W} (h:B3 a b) (t:jH r s):jH (a::r) (b::s)
theorem cS.refl: ∀l:List C,cS l l
 | []=> .nil
 |_::r=> .cons (.refl _) (cS.refl r)
theorem B3.refl: ∀u:W,B3 u u
 | .one c=> .one (.refl c)
 | .agg cs=> .agg (cS.refl cs)
theorem jH.refl: ∀l:List W,jH l l
 | []=> .nil
 |_::r=> .cons (B3.refl _) (jH.refl r)
variable {w:World} {A:Nat→Prop} {ρ:Env}
theorem NX.rc {a b:C} {x:Value} (h:NX a b) (hr:RC w A ρ a x):RC w A ρ b x:=by
 cases h with
 |refl=>exact hr
 |nil sz=>
  have dB:RT w A iK x:=hr
  cases dB
  exact RT.nil
theorem cS.len {r s:List C} (h:cS r s):r.length=s.length:=by
 induction h with
 |nil=>rfl
 |cons _ _ ih=>simp[ih]
theorem cS.get {r s:List C} (h:cS r s): ∀ {k:Nat} {b:C},s[k]? =some b→ ∃a,r[k]? =some a∧NX a b:=by
 induction h with
 |nil=>intro k b hb;simp at hb
 |cons hh _ ih=>
  intro k c hb
  cases k with
  |zero=>simp only[List.getElem?_cons_zero,Option.some.injEq]at hb;subst hb;exact⟨_,rfl,hh⟩
  |succ k=>exact ih hb
theorem jH.len {r s:List W} (h:jH r s):r.length=s.length:=by
 induction h with
 |nil=>rfl
 |cons _ _ ih=>simp[ih]
theorem jH.get {r s:List W} (h:jH r s): ∀ {k:Nat} {b:W},s[k]? =some b→ ∃a,r[k]? =some a∧B3 a b:=by
 induction h with
 |nil=>intro k b hb;simp at hb
 |cons hh _ ih=>
  intro k c hb
  cases k with
  |zero=>simp only[List.getElem?_cons_zero,Option.some.injEq]at hb;subst hb;exact⟨_,rfl,hh⟩
  |succ k=>exact ih hb
theorem B3.rw {a b:W} {x:Value} (h:B3 a b) (hr:RW w A ρ a x):RW w A ρ b x:=by
 cases h with
 |one h=>exact⟨h.rc hr.1,hr.2⟩
 |agg h=>
  obtain⟨vs,h1,h2,h3⟩:=hr
  refine⟨vs,h1,by rw[←h.len];exact h2,fun k c y hc hy=>?_⟩
  obtain⟨c',EP,hle⟩:=h.get hc
  exact⟨hle.rc (h3 k c' y EP hy).1,(h3 k c' y EP hy).2⟩
theorem jH.rws {a b:List W} {xs:List Value} (h:jH a b) (hr:BW w A ρ a xs):BW w A ρ b xs:=by
 refine⟨by rw[←h.len];exact hr.1,fun k u x hu hx=>?_⟩
 obtain⟨u',Bl,hle⟩:=h.get hu
 exact hle.rw (hr.2 k u' x Bl hx)
theorem jH.rv {a b:List W} {x:Value} (h:jH a b) (hr:RV w A ρ (aL a) x):RV w A ρ (aL b) x:=by
 cases h with
 |nil=>exact hr
 |cons h t=>
  cases t with
  |nil=>exact h.rw hr
  |cons h2 t=>
   obtain⟨vs,h1,R9,h3⟩:=hr
   have hh:=jH.cons h (jH.cons h2 t)
   refine⟨vs,h1,by rw[←hh.len];exact R9,fun k u y hu hy=>?_⟩
   obtain⟨u',Bl,hle⟩:=hh.get hu
   exact hle.rw (h3 k u' y Bl hy)
theorem Fn.IQ {f:FuncId} {args args' ts ts':List W} {hin hout:HS} (h:Fn P f args hin (aL ts) hout) (ha:jH args' args) (hr:jH ts ts'):Fn P f args' hin (aL ts') hout:=by
 intro w A ρ xs hH hx
 refine(h w A ρ xs hH (ha.rws hx)).mono ?_
 rintro e w' ⟨x,A',ρ',F',h1,h2,h3⟩
 exact⟨x,A',ρ',F',h1,hr.rv h2,h3⟩
theorem NX.bL {a b:C} (h:NX a b) (hT:a.bL=true):b.bL=true:=by
 cases h with
 |refl=>exact hT
 |nil=>rfl
theorem cS.bL {a b:List C} (h:cS a b) (hT:a.all C.bL=true):b.all C.bL=true:=by
 induction h with
 |nil=>rfl
 |cons hh _ ih=>
  simp only[List.all_cons,Bool.and_eq_true]at hT⊢
  exact⟨hh.bL hT.1,ih hT.2⟩
theorem B3.bL {a b:W} (h:B3 a b) (hT:a.bL=true):b.bL=true:=by
 cases h with
 |one h=>exact h.bL hT
 |agg h=>exact h.bL hT
theorem jH.bL {a b:List W} (h:jH a b) (hT:a.all W.bL=true):b.all W.bL=true:=by
 induction h with
 |nil=>rfl
 |cons hh _ ih=>
  simp only[List.all_cons,Bool.and_eq_true]at hT⊢
  exact⟨hh.bL hT.1,ih hT.2⟩
def Wk (Good:List W→Prop) (ts:List W):Prop:= ∃ts',jH ts ts'∧ts.all W.bL=true∧Good ts'
theorem aJ {f:FuncId} {args:List W} {Good:List W→Prop} (h: ∃ts,Fn P f args [] (aL ts) []∧(aL ts).bL=true∧Wk Good ts): ∃ts,Fn P f args [] (aL ts) []∧(aL ts).bL=true∧Good ts:=by
 obtain⟨ts,h1,_,ts',h3,h4,h5⟩:=h
 exact⟨ts',h1.IQ (jH.refl _) h3,wE (h3.bL h4),h5⟩
theorem Gc {f:FuncId} {args args':List W} {Good:List W→Prop} (h: ∃ts,Fn P f args [] (aL ts) []∧(aL ts).bL=true∧Good ts) (ha:jH args' args): ∃ts,Fn P f args' [] (aL ts) []∧(aL ts).bL=true∧Good ts:=by
 obtain⟨ts,h1,h2,h3⟩:=h
 exact⟨ts,h1.IQ ha (jH.refl _),h2,h3⟩
def tr (xs:Lz):List (List C):=xs.map fun e=>e.map .t
def az (rows:List (List C)) (xs:Lz):Prop:=rows=tr xs
theorem eu (xs:Lz) (f:Nat→Option Nat):(tr xs).map (fun e=>e.map (C.av f))=tr xs:=by
 unfold tr
 rw[List.map_map]
 apply List.map_congr_left
 intro e _
 exact FW e f
theorem Oh (xs:Lz) (n:Nat):(tr xs).map (fun e=>e.map (C.up n))=tr xs:=by
 unfold tr
 rw[List.map_map]
 apply List.map_congr_left
 intro e _
 simp only[Function.comp,List.map_map]
 rfl
theorem az.av {rows:List (List C)} {xs:Lz} (h:az rows xs) (f:Nat→Option Nat):az (rows.map fun e=>e.map (C.av f)) xs:=by
 unfold az at h⊢
 rw[h,eu]
theorem az.set {rows:List (List C)} {xs:Lz} (h:az rows xs) (i:Nat) (e:List T):az (rows.set i (e.map .t)) (xs.set i e):=by
 unfold az at h⊢
 rw[h]
 unfold tr
 rw[List.map_set]
theorem az.snoc {rows:List (List C)} {xs:Lz} (h:az rows xs) (e:List T):az (rows++[e.map .t]) (xs++[e]):=by
 unfold az at h⊢
 rw[h]
 unfold tr
 simp
theorem az.Fc {rows:List (List C)} {xs:Lz} (h:az rows xs) (ys:Lz):az (rows++tr ys) (xs++ys):=by
 unfold az at h⊢
 rw[h]
 unfold tr
 simp
theorem az.replicate (n:Nat) (e:List T):az (List.replicate n (e.map .t)) (List.replicate n e):=by
 unfold az tr
 simp
theorem az.nil:az [] []:=rfl
theorem az.len {rows:List (List C)} {xs:Lz} (h:az rows xs):rows.length=xs.length:=by
 rw[h];simp[tr]
theorem bJ {Pd:List T→Prop} {rows:List (List C)} {xs:Lz} {i:Nat} {K:List C→Prop} (h:az rows xs) (hx: ∀e,e∈xs→Pd e) (hi:i < xs.length) (hk: ∀e,Pd e→xs[i]? =some e→K (e.map .t)):qu rows i K:=by
 have e1:xs[i]? =some xs[i]:=by simp[hi]
 have:rows[i]? =some (xs[i].map .t):=by rw[h];simp[tr,hi]
 simp only[qu,this]
 exact hk _ (hx _ (List.getElem_mem hi)) e1
theorem xn {hp:HS} {d:Nat}: ∀ (xs:Lz),bM (bM (dm d hp)) (tr xs)=some xs
 | []=>rfl
 |e::xs=>by
  have hone: ∀e:List T,bM (dm d hp) (e.map .t)=some e:=by
   intro e
   induction e with
   |nil=>rfl
   |cons x e ih=>
    have:dm d hp (.t x)=some x:=by cases d<;>rfl
    simp only[List.map_cons,bM,this,ih]
  have:=xn (hp:=hp) (d:=d) xs
  unfold tr at this⊢
  simp only[List.map_cons,bM,hone,this]
theorem AB (xs:Lz) (i len:Nat):((tr xs).drop i).take len=tr ((xs.drop i).take len):=by
 unfold tr
 simp
theorem kE {hp:HS} {id sz i len:Nat} {rows:List (List C)} {xs:Lz} (hf:find hp id=some (.row sz rows)) (hR:az rows xs) (hl:i+len≤xs.length):
 bY hp (.one (.own id sz i len))=some (.one (.t (.aB sz ((xs.drop i).take len)))):=by
 have hl':i+len≤rows.length:=by rw[hR.len];exact hl
 have:dm 6 hp (.own id sz i len)=some (.aB sz ((xs.drop i).take len)):=by
  simp only[dm,hf,true_and,hl',if_true]
  rw[hR,AB,xn]
  rfl
 simp only[bY,this,Option.map_some]
def Rs (P:Program) (hp:HS) (tm:TS) (r:ResultVar) (u:W):Prop:= ∃a b,cz P hp tm r=some a∧bY hp a=some b∧B3 b u
theorem bS {hp:HS} {tm:TS} {t:Nat} {x:T} (h:find tm t=some (.w (.one (.t x)))):Rs P hp tm (.tmp t) (.one (.t x)):=
 ⟨.one (.t x), .one (.t x),by simp only[cz,h],rfl,B3.refl _⟩
theorem bR {hp:HS} {tm:TS} {t:Nat} (sz:Nat) (h:find tm t=some (.w (.one (.t iK)))):Rs P hp tm (.tmp t) (.one (.t (.aB sz []))):=
 ⟨.one (.t iK), .one (.t iK),by simp only[cz,h],rfl, .one (.nil sz)⟩
theorem fz {hp:HS} {tm:TS} {t id sz i len:Nat} {rows:List (List C)} {xs:Lz} (h:find tm t=some (.w (.one (.own id sz i len)))) (hf:find hp id=some (.row sz rows)) (hR:az rows xs) (hl:i+len≤xs.length):Rs P hp tm (.tmp t) (.one (.t (.aB sz ((xs.drop i).take len)))):=
 ⟨.one (.own id sz i len),_,by simp only[cz,h],kE hf hR hl,B3.refl _⟩
theorem bE {tm:TS} {hp:HS} {b ty n:Nat} {c:C} {cs:List C} {j:Nat} {ts:List T} {ds:List C} (ha:ju P ty=some true) (hz:cF P ty=some n)
 (h:find tm b=some (.w (.one c))) (hd:deref hp c=some (cs,j)) (hl:j+n≤cs.length) (hts:bM (dm 6 hp) ((cs.drop j).take n)=some ts) (hle:cS (ts.map .t) ds):Rs P hp tm (.cell b ty) (.agg ds):=by
 refine⟨.agg ((cs.drop j).take n), .agg (ts.map .t),?_,?_, .agg hle⟩
 · simp only[cz,h,eG,hd,jR,ha,hz,if_pos hl,Option.map_some]
 · simp only[bY,hts,Option.map_some]
theorem oP {hp:HS} {tm:TS} {rs:List ResultVar} {r1:ResultVar} {u1:W} {Good:List W→Prop} (hr:rs=[r1]) (h1:Rs P hp tm r1 u1) (hg:Good [u1]):
 ∃us ts,aN P hp tm rs=some us∧bM (bY hp) us=some ts∧Wk Good ts:=by
 subst hr
 obtain⟨a,b,e1,e2,e3⟩:=h1
 exact⟨[a],[b],by simp only[aN,e1],by simp only[bM,e2],[u1], .cons e3 .nil,by simp[gU e2],hg⟩
theorem dg {hp:HS} {tm:TS} {rs:List ResultVar} {r1 r2:ResultVar} {u1 u2:W} {Good:List W→Prop} (hr:rs=[r1,r2]) (h1:Rs P hp tm r1 u1) (h2:Rs P hp tm r2 u2) (hg:Good [u1,u2]):
 ∃us ts,aN P hp tm rs=some us∧bM (bY hp) us=some ts∧Wk Good ts:=by
 subst hr
 obtain⟨a,b,e1,e2,e3⟩:=h1
 obtain⟨c,d,k1,k2,k3⟩:=h2
 exact⟨[a,c],[b,d],by simp only[aN,e1,k1],by simp only[bM,e2,k2],[u1,u2], .cons e3 (.cons k3 .nil),by simp[gU e2,gU k2],hg⟩
theorem H6 {hp:HS} {tm:TS} {rs:List ResultVar} {r1 r2 r3:ResultVar} {u1 u2 u3:W} {Good:List W→Prop} (hr:rs=[r1,r2,r3]) (h1:Rs P hp tm r1 u1) (h2:Rs P hp tm r2 u2) (h3:Rs P hp tm r3 u3) (hg:Good [u1,u2,u3]):
 ∃us ts,aN P hp tm rs=some us∧bM (bY hp) us=some ts∧Wk Good ts:=by
 subst hr
 obtain⟨a,b,e1,e2,e3⟩:=h1
 obtain⟨c,d,k1,k2,k3⟩:=h2
 obtain⟨c',d',j1,j2,j3⟩:=h3
 exact⟨[a,c,c'],[b,d,d'],by simp only[aN,e1,k1,j1],by simp only[bM,e2,k2,j2],[u1,u2,u3], .cons e3 (.cons k3 (.cons j3 .nil)),by simp[gU e2,gU k2,gU j2],hg⟩
def GN (sz:Nat) (p:Lz→Prop) (ts:List W) (hout:HS):Prop:= ∃xs,ts=[.one (.own 0 sz 0 xs.length)]∧hout=[(0, .row sz (tr xs))]∧p xs
theorem gN {hp:HS} {tm:TS} {rs:List ResultVar} {t id sz len:Nat} {rows:List (List C)} {xs:Lz} {p:Lz→Prop} (hr:rs=[.tmp t]) (h:find tm t=some (.w (.one (.own id sz 0 len)))) (hf:find hp id=some (.row sz rows)) (hR:az rows xs) (hl:len=xs.length) (hg:p xs):
 ∃us ids,aN P hp tm rs=some us∧(ids.length≤4∧ids.Nodup)∧GN sz p (us.map (W.av (bt ids))) (cM (bt ids) hp 0 ids):=by
 subst hr
 subst hl
 refine⟨[.one (.own id sz 0 xs.length)],[id],by simp only[aN,cz,h],⟨by simp,by simp⟩,xs,?_,?_,hg⟩
 · simp[W.av,C.av,bt]
 · simp only[cM,hf,bA.av]
   rw[hR,eu]
theorem D5 {f:FuncId} {us:List W} {hp:HS} {ctr sz:Nat} {K:V→HS→Prop} {p:Lz→Prop} (hT:yW us=true) (h: ∃ts hout,Ar P f us (aL ts) hout∧GN sz p ts hout)
 (hk: ∀xs,p xs→K (.w (.one (.own (0+ctr) sz 0 xs.length))) ((0+ctr, .row sz (tr xs))::hp)): ∃v aG,eU P hp ctr f us v aG∧K v aG:=by
 obtain⟨ts,hout,h1,xs,rfl,rfl,h2⟩:=h
 refine⟨_,_,Fa hT h1,?_⟩
 have:=hk xs h2
 simp only[aL,V.up,W.up,C.up,gj,bA.up,Nat.zero_lt_succ,if_true,Oh]at this⊢
 exact this
theorem Of {f:FuncId} {us:List W} {hp:HS} {ctr sz:Nat} {K:V→HS→Nat→Prop} {p:Lz→Prop} (hT:yW us=true) (h: ∃ts hout,Ar P f us (aL ts) hout∧GN sz p ts hout)
 (hk: ∀xs,p xs→K (.w (.one (.own (0+ctr) sz 0 xs.length))) ((0+ctr, .row sz (tr xs))::hp) (ctr+4)): ∃v aG c',gh P f us hp ctr v aG c'∧K v aG c':=by
 obtain⟨v,aG,h1,h2⟩:=D5 (hp:=hp) (ctr:=ctr) (K:=fun v aG=>K v aG (ctr+4)) hT h hk
 exact⟨v,aG,ctr+4,qN h1,h2⟩
theorem Re {hp:HS} {sz:Nat} {xs ys:Lz} (h:find hp 0=some (.row sz (tr ys))):kY [(0, .row sz (tr xs))] hp [(0, .row sz (tr ys))]:=by
 refine⟨fun k b hk=>?_,fun k blk hk=>?_⟩
 · simp only[find]at hk
   split at hk
   · rename_i e;subst e;exact⟨by omega,_,h⟩
   · simp at hk
 · simp only[find]at hk
   split at hk
   · rename_i e
     subst e
     simp only[Option.some.injEq]at hk
     subst hk
     refine⟨h,rfl,fun e he c hc=>?_⟩
     simp only[tr,List.mem_map]at he
     obtain⟨e',_,rfl⟩:=he
     simp only[List.mem_map]at hc
     obtain⟨c',_,rfl⟩:=hc
     rfl
   · simp at hk
theorem IN {f:FuncId} {us args:List W} {hp:HS} {ctr id sz:Nat} {rows:List (List C)} {xs:Lz} {K:V→HS→Prop} {Good:List W→HS→Prop} (hsub:(us.flatMap W.ids).head? =some id) (hf:find hp id=some (.row sz rows)) (h: ∃ts hout,Fn P f args [(0, .row sz (tr xs))] (aL ts) hout∧hout=[(0, .row sz (tr xs))]∧Good ts hout)
 (ha:us.map (W.av (bt [id]))=args) (hR:az rows xs)
 (hk: ∀ts,Good ts [(0, .row sz (tr xs))]→K ((aL ts).av (fun j=>[id][j]?)) hp): ∃v aG,eU P hp ctr f us v aG∧K v aG:=by
 obtain⟨ts,hout,h1,rfl,h2⟩:=h
 refine⟨_,_, .inr ⟨rfl,Fb [id] (by simp) (by simp) (fun i hi=>?_) h1 ha ?_ (fun i hi=>?_)⟩,hk ts h2⟩
 · simp only[List.mem_singleton]at hi
   subst hi
   exact List.mem_of_mem_head? (by rw[hsub];rfl)
 · simp only[cM,hf,bA.av]
   rw[hR,eu]
 · simp only[List.mem_singleton]at hi
   subst hi
   refine⟨_,hf,?_⟩
   simp only[bA.av]
   rw[hR,eu,eu]
theorem GU {f:FuncId} {us args:List W} {hp:HS} {ctr id sz:Nat} {rows:List (List C)} {xs:Lz} {K:V→HS→Nat→Prop} {Good:List W→HS→Prop} (hsub:(us.flatMap W.ids).head? =some id) (hf:find hp id=some (.row sz rows)) (h: ∃ts hout,Fn P f args [(0, .row sz (tr xs))] (aL ts) hout∧hout=[(0, .row sz (tr xs))]∧Good ts hout)
 (ha:us.map (W.av (bt [id]))=args) (hR:az rows xs)
 (hk: ∀ts,Good ts [(0, .row sz (tr xs))]→K ((aL ts).av (fun j=>[id][j]?)) hp (ctr+4)): ∃v aG c',gh P f us hp ctr v aG c'∧K v aG c':=by
 obtain⟨v,aG,h1,h2⟩:=IN (hp:=hp) (ctr:=ctr) (K:=fun v aG=>K v aG (ctr+4)) hsub hf h ha hR hk
 exact⟨v,aG,ctr+4,qN h1,h2⟩
abbrev YT (sz:Nat) (xs:Lz) (G:List W→Prop) (ts:List W) (hout:HS):Prop:=hout=[(0, .row sz (tr xs))]∧G ts
theorem Bh {hp:HS} {sz:Nat} {rows:List (List C)} {xs ys:Lz} (h:find hp 0=some (.row sz rows)) (hR:az rows ys):kY [(0, .row sz (tr xs))] hp [(0, .row sz (tr ys))]:=Re (by rw[h,hR])
theorem X6 {hp:HS} {tm:TS} {rs:List ResultVar} {t sz i len:Nat} {rows:List (List C)} {xs:Lz} {G:List W→Prop} (hr:rs=[.tmp t]) (h:find tm t=some (.w (.one (.own 0 sz i len)))) (hf:find hp 0=some (.row sz rows)) (hR:az rows xs) (hg:G [.one (.own 0 sz i len)]):
 ∃us ts hout,aN P hp tm rs=some us∧bM (AS [(0, .row sz (tr xs))] hp) us=some ts∧kY [(0, .row sz (tr xs))] hp hout∧YT sz xs G ts hout:=by
 subst hr
 refine⟨[.one (.own 0 sz i len)],[.one (.own 0 sz i len)],_,by simp only[aN,cz,h],?_,Bh hf hR,rfl,hg⟩
 simp only[bM,AS,WZ,JQ,find,if_true,Option.isSome_some]
theorem ahM {hp:HS} {tm:TS} {rs:List ResultVar} {t id sz dy i len:Nat} {rows wB:List (List C)} {xs ys:Lz} {G:List W→Prop} (hr:rs=[.tmp t]) (h:find tm t=some (.w (.one (.own id dy i len)))) (bN:Nat.blt id 4=false) (J9:find (rS hp) id=some (.row dy wB)) (OY:az wB ys) (hl:i+len≤ys.length)
 (hf:find hp 0=some (.row sz rows)) (hR:az rows xs) (hg:G [.one (.t (.aB dy ((ys.drop i).take len)))]):
 ∃us ts hout,aN P hp tm rs=some us∧bM (AS [(0, .row sz (tr xs))] hp) us=some ts∧kY [(0, .row sz (tr xs))] hp hout∧YT sz xs G ts hout:=by
 subst hr
 have MT:¬id < 4:=by
  intro hlt
  have:Nat.blt id 4=true:=by simpa using hlt
  rw[bN]at this
  simp at this
 refine⟨[.one (.own id dy i len)],_,_,by simp only[aN,cz,h],?_,Bh hf hR,rfl,hg⟩
 have hne:WZ [(0,bA.row sz (tr xs))] (.one (.own id dy i len))=false:=by
  have:¬ (0=id):=by omega
  simp only[WZ,JQ,find,this,if_false,Option.isSome_none]
 simp only[bM,AS,hne,Bool.false_eq_true,if_false,kE J9 OY hl]
def WK:List (Nat×Nat)→List (Lz)→HS
 |(id,sz)::L,xs::xss=>(id, .row sz (tr xs))::WK L xss
 |_,_=>[]
inductive oE:List (Nat×Nat)→HS→List (Lz)→Prop
 |nil:oE [] [] []
 |cons {id sz:Nat} {L:List (Nat×Nat)} {rows:List (List C)} {xs:Lz} {hp:HS} {xss:List (Lz)} (h:az rows xs) (t:oE L hp xss):oE ((id,sz)::L) ((id, .row sz rows)::hp) (xs::xss)
theorem oE.eq {L:List (Nat×Nat)} {hp:HS} {xss:List (Lz)} (h:oE L hp xss):hp=WK L xss:=by
 induction h with
 |nil=>rfl
 |cons h _ ih=>simp only[WK];rw[h,ih]
theorem bp {n:Nat} {b:Rc} {Q:Exit→TS→HS→Nat→Prop} {tm:TS} {hp:HS} {ctr:Nat} (keys:List Nat) (nest:List (Nat×Nat)) (ks:List Nat) (L:List (Nat×Nat)) (R:Nat→List V→List (Lz)→Prop) (m0:Nat) (Ay:List V) {gn:List (Lz)} {mj:TS} {qR:HS} {cB:Nat}
 (hB:BB (vF keys nest tm hp) fun S=>qI (S.tm tm) fun t=>rL (S.hp hp) fun q=>S.ok=true∧t=mj∧q=qR∧S.ctr=cB)
 (GA:mj.length=keys.length) (h0:mj=kO ks Ay mj) (hH:oE L qR gn) (M3:R m0 Ay gn)
 (hstep: ∀m vs xss,R m vs xss→qI (kO ks vs mj) fun mX=>rL (WK L xss) fun hq=>X P n b (iM (bU fun bg aG c'=> ∃m' vs' xss',oE L aG xss'∧R m' vs' xss'∧bg=kO ks vs' mj∧c'=cB∧m' < m) Q) mX hq cB):
 ∃I:Nat→TS→HS→Nat→Prop,bU (fun tm hp c=> ∃m,I m tm hp c) tm hp ctr∧
  ∀m tm hp c,I m tm hp c→X P n b (iM (bU fun tm hp c=> ∃m',m' < m∧I m' tm hp c) Q) tm hp c:=by
 rw[oR,gH,jb]at hB
 obtain⟨hS,e1,e2,e3⟩:=hB
 refine⟨fun m bg aG c'=> ∃vs' xss',oE L aG xss'∧R m vs' xss'∧bg=kO ks vs' mj∧c'=cB,bU.mk' ⟨vF keys nest tm hp,hS,m0,Ay,gn,by rw[e2];exact hH,M3,e1.trans h0,e3⟩,?_⟩
 rintro m bg hq c' ⟨vs,xss,hH',hR,rfl,rfl⟩
 have:=hstep m vs xss hR
 rw[gH,jb, ←hH'.eq]at this
 refine(congrArg (fun J=>X P n b (iM (bU J) Q) _ _ _) ?_).mp this
 funext bg aG ZP
 exact propext ⟨fun⟨m',vs',xss',h1,h2,h3,h4,h5⟩=>⟨m',h5,vs',xss',h1,h2,h3,h4⟩,fun⟨m',h5,vs',xss',h1,h2,h3,h4⟩=>⟨m',vs',xss',h1,h2,h3,h4,h5⟩⟩
theorem sI (xs ys:Lz) (i:Nat):aR (tr xs) i (tr ys)=tr (aR xs i ys):=by
 unfold aR tr
 simp
theorem mh (xs:Lz):(tr xs).length=xs.length:=by simp[tr]
theorem oJ (xs:Lz) (n:Nat):(tr xs).take n=tr (xs.take n):=by simp[tr]
theorem D6 {n d s t1 t2 ty e id sz i len ctr:Nat} {tm:TS} {hp:HS} {c:C} {rows:List (List C)} {xs ys:Lz} {K:V→HS→Prop}
 (hd:find tm d=some (.w (.one (.own id sz i len)))) (hs:find tm s=some (.w (.one c))) (hn:isNil c=false) (he:elems hp c=some (sz,tr ys))
 (ht:P.underlying t1=some (.slice e)) (hz:cF P e=some sz) (hf:find hp id=some (.row sz rows)) (hR:az rows xs) (hl:i+len≤xs.length)
 (hk:K (iV .i64 (((ys.take len).length:Nat):Int)) (jN hp id (.row sz (tr (aR xs i (ys.take len)))))):
 ∃v aG,j6 P n (.call ⟨.builtin .copy, #[.tmp d, .tmp s], #[t1,t2]⟩) ty tm hp ctr v aG∧K v aG:=by
 refine⟨_,_,?_,hk⟩
 rintro⟨dst',op',ty',pos',after',guard'⟩ rfl rfl
 have C6:rows=tr xs:=hR
 subst C6
 by_cases h0:(ys.take len).length=0
 · have dU:aj P (St.get ⟨n,tm,hp⟩) hp ctr ⟨dst', .call ⟨.builtin .copy, #[.tmp d, .tmp s], #[t1,t2]⟩,ty',pos',after',guard'⟩=some (.w (.one (.t (.val (goInt 0)))),hp):=by
    simp only[aj,St.get,hd,hs,Option.getD_some,dV,ht,hz,hn,he,Bool.false_eq_true,if_false,oJ,mh,h0,if_true]
   intro M A ρ a w hr
   obtain⟨x,w',A',ρ',g1,g2,g3⟩:=mI dU M A ρ a w hr
   refine⟨x,w',A',ρ',g1,g2.forget rfl (fun _ _ h=>h) (fun k b hb=>?_),by rw[h0];exact g3⟩
   simp only[bO]at hb
   split at hb
   · rename_i ek
     subst ek
     rw[hf]at hb
     simp only[Option.map_some,Option.some.injEq]at hb
     rw[←hb,hf,List.eq_nil_of_length_eq_zero h0]
     simp[aR]
   · exact hb
 · have dU:aj P (St.get ⟨n,tm,hp⟩) hp ctr ⟨dst', .call ⟨.builtin .copy, #[.tmp d, .tmp s], #[t1,t2]⟩,ty',pos',after',guard'⟩=some (.w (.one (.t (.val (goInt ((ys.take len).length:Int))))),jN hp id (.row sz (tr (aR xs i (ys.take len))))):=by
    have hl':True∧True∧True∧i+len≤xs.length:=⟨trivial,trivial,trivial,hl⟩
    simp only[aj,St.get,hd,hs,Option.getD_some,dV,ht,hz,hn,he,hf,Bool.false_eq_true,if_false,oJ,mh,h0,sI]
    rw[if_pos hl']
   exact mI dU
end Go.aT
end
section
namespace Go.aT.Cd
open Go
abbrev tU (n:Int):T:= .val (.int .u32 n)
def IsU (e:List T):Prop:= ∃n:Int,e=[tU n]∧0≤n∧n < 4294967296
abbrev Us (xs:Lz):Prop:= ∀e,e∈xs→IsU e
def lb:List T→Nat
 | [.val (.int _ n)]=>n.toNat
 |_=>0
def nv:Lz→Nat
 | []=>0
 |e::r=>lb e+4294967296 * nv r
theorem kA (n:Int):lb [tU n]=n.toNat:=rfl
theorem IsU.lt {e:List T} (h:IsU e):lb e < 4294967296:=by obtain⟨n,rfl,h0,h1⟩:=h;rw[kA];omega
theorem A8: ∀ (xs ys:Lz),nv (xs++ys)=nv xs+4294967296 ^ xs.length * nv ys
 | [],ys=>by simp[nv]
 |e::xs,ys=>by
  simp only[List.cons_append,nv,A8 xs ys,List.length_cons,Nat.pow_succ]
  grind
theorem A6: ∀ {xs:Lz},(∀e,e∈xs→lb e=0)→nv xs=0
 | [],_=>rfl
 |e::xs,h=>by
  simp only[nv]
  rw[h e List.mem_cons_self,A6 (fun q hq=>h q (List.mem_cons_of_mem _ hq))]
theorem wP (xs:Lz) (n:Nat):nv xs=nv (xs.take n)+4294967296 ^ (xs.take n).length * nv (xs.drop n):=by
 rw[←A8,List.take_append_drop]
theorem zH: ∀ {xs:Lz},Us xs→nv xs < 4294967296 ^ xs.length
 | [],_=>by simp[nv]
 |e::xs,h=>by
  have h1:=(h e List.mem_cons_self).lt
  have h2:=zH (xs:=xs) (fun q hq=>h q (List.mem_cons_of_mem _ hq))
  simp only[nv,List.length_cons,Nat.pow_succ]
  omega
theorem Us.take {xs:Lz} (h:Us xs) (n:Nat):Us (xs.take n):=fun e he=>h e (List.mem_of_mem_take he)
theorem Us.drop {xs:Lz} (h:Us xs) (n:Nat):Us (xs.drop n):=fun e he=>h e (List.mem_of_mem_drop he)
theorem Us.cut {xs:Lz} (h:Us xs) (a b:Nat):Us ((xs.drop a).take b):=(h.drop a).take b
theorem Us.set {xs:Lz} (h:Us xs) {i:Nat} {n:Int} (h0:0≤n) (hn:n < 4294967296):Us (xs.set i [tU n]):=by
 intro e he
 rcases List.mem_or_eq_of_mem_set he with he|rfl
 · exact h e he
 · exact⟨n,rfl,h0,hn⟩
theorem Us.snoc {xs:Lz} (h:Us xs) {n:Int} (h0:0≤n) (hn:n < 4294967296):Us (xs++[[tU n]]):=by
 intro e he
 simp only[List.mem_append,List.mem_singleton]at he
 rcases he with he|rfl
 · exact h e he
 · exact⟨n,rfl,h0,hn⟩
theorem Us.replicate (k:Nat):Us (List.replicate k [tU (0:Int)]):=by
 intro e he
 obtain⟨_,rfl⟩:=List.mem_replicate.1 he
 exact⟨0,rfl,by omega,by omega⟩
theorem Us.nil:Us []:=fun e he=>by simp at he
theorem A7 (k:Nat):nv (List.replicate k [tU (0:Int)])=0:=by
 apply A6
 intro e he
 obtain⟨_,rfl⟩:=List.mem_replicate.1 he
 rfl
def DH (xs ys:Lz):Prop:=ys.length≤xs.length∧Us ys∧nv ys=nv xs∧(∀e,ys.getLast? =some e→lb e≠0)∧ ∃k,ys=xs.take k
theorem Ca {xs:Lz} {n:Nat} (hx:Us xs) (hn:n≤xs.length) (hz: ∀e,e∈xs.drop n→lb e=0) (hl:n=0∨ ∃e,xs[n - 1]? =some e∧lb e≠0):DH xs (xs.take n):=by
 refine⟨by simp;omega,hx.take n,?_,?_,n,rfl⟩
 · rw[wP xs n,A6 hz];simp
 · intro e he
   rcases hl with rfl|⟨e',h1,h2⟩
   · simp at he
   · have:(xs.take n).getLast? =xs[n - 1]? :=by
      rw[List.getLast?_eq_getElem?,List.getElem?_take]
      have h0:0 < n:=by
       rcases Nat.eq_zero_or_pos n with h|h
       · subst h;simp at he
       · exact h
      rw[if_pos (by simp;omega)]
      congr 1
      simp;omega
     rw[this,h1]at he
     simp only[Option.some.injEq]at he
     subst he
     exact h2
theorem drop_zero {xs:Lz} {n:Nat} {e:List T} (h:xs[n]? =some e) (he:lb e=0) (hz: ∀e,e∈xs.drop (n+1)→lb e=0): ∀e,e∈xs.drop n→lb e=0:=by
 obtain⟨hlt,rfl⟩:=List.getElem?_eq_some_iff.1 h
 intro q hq
 rw[List.drop_eq_getElem_cons hlt]at hq
 rcases List.mem_cons.1 hq with rfl|hq
 · exact he
 · exact hz q hq
theorem Cu: ∀ {xs:Lz},(∀e,xs.getLast? =some e→lb e≠0)→xs≠ []→4294967296 ^ (xs.length - 1)≤nv xs
 | [],_,h=>absurd rfl h
 | [e],h,_=>by
   have:=h e rfl
   simp only[nv,List.length_singleton,Nat.sub_self,Nat.pow_zero]
   omega
 |e::e'::r,h,_=>by
  have ih:=Cu (xs:=e'::r) (fun q hq=>h q (by simpa using hq)) (by simp)
  simp only[nv,List.length_cons]at ih⊢
  have e1:r.length+1+1 - 1=(r.length+1 - 1)+1:=by omega
  rw[e1,Nat.pow_succ]
  omega
theorem mc (n:Int):IntKind.u32.wrap n=n % 4294967296:=by simp[IntKind.wrap,IntKind.bits,IntKind.signed]
theorem sG (n:Int):IntKind.u64.wrap n=n % 18446744073709551616:=by simp[IntKind.wrap,IntKind.bits,IntKind.signed]
theorem eM (n:Int):0≤IntKind.u32.wrap n:=by rw[mc];omega
theorem fF (n:Int):IntKind.u32.wrap n < 4294967296:=by rw[mc];omega
theorem u64_in {n:Int} (h0:0≤n) (h1:n < 18446744073709551616):IntKind.u64.wrap n=n:=by rw[sG];omega
theorem u32_in {n:Int} (h0:0≤n) (h1:n < 4294967296):IntKind.u32.wrap n=n:=by rw[mc];omega
theorem sN (a:Int) (k:Nat) (hk:k≤64):a.fdiv (2 ^ (min ((k:Int)).toNat IntKind.u64.bits))=a / ((2 ^ k:Nat):Int):=by
 have:min ((k:Int)).toNat IntKind.u64.bits=k:=by simp only[IntKind.bits,Int.toNat_natCast];omega
 rw[this,Int.fdiv_eq_ediv_of_nonneg]
 · simp
 · exact Int.pow_nonneg (by omega)
theorem FL (a:Int):a.fdiv (2 ^ (min (32:Int).toNat IntKind.u64.bits))=a / 4294967296:=sN a 32 (by omega)
theorem V5 (a:Int):a.fdiv (2 ^ (min (63:Int).toNat IntKind.u64.bits))=a / 9223372036854775808:=sN a 63 (by omega)
theorem I5 (a:Int) (k:Nat) (hk:k≤64):IntKind.u64.wrap (a * 2 ^ (min ((k:Int)).toNat IntKind.u64.bits))=(a * ((2 ^ k:Nat):Int)) % 18446744073709551616:=by
 have:min ((k:Int)).toNat IntKind.u64.bits=k:=by simp only[IntKind.bits,Int.toNat_natCast];omega
 rw[this,sG]
 simp
theorem I6 (a:Int):IntKind.u64.wrap (a * 2 ^ (min (32:Int).toNat IntKind.u64.bits))=(a * 4294967296) % 18446744073709551616:=I5 a 32 (by omega)
theorem Ju {a b:Nat} (k:Nat) (ha:a < 2 ^ k):a|||(b * 2 ^ k)=a+b * 2 ^ k:=by
 have h:=Nat.two_pow_add_eq_or_of_lt ha b
 rw[Nat.mul_comm,Nat.or_comm, ←h,Nat.add_comm]
theorem QU {a b:Int} (ha0:0≤a) (ha:a < 4294967296) (hb0:0≤b) (hb:b < 4294967296):
 IntKind.u64.wrap ((BitVec.ofInt IntKind.u64.bits (b * 4294967296)|||BitVec.ofInt IntKind.u64.bits a).toNat:Int)=b * 4294967296+a:=by
 have e: ∀x:Int,0≤x→x < 18446744073709551616→(BitVec.ofInt IntKind.u64.bits x).toNat=x.toNat:=by
  intro x h0 h1
  simp only[BitVec.toNat_ofInt,IntKind.bits]
  congr 1
  omega
 rw[BitVec.toNat_or,e _ (by omega) (by omega),e _ (by omega) (by omega),Nat.or_comm]
 have:=Ju (a:=a.toNat) (b:=b.toNat) 32 (by omega)
 rw[show(b * 4294967296).toNat=b.toNat * 2 ^ 32 by omega,this,u64_in (by omega) (by omega)]
 omega
def Nm (k:Nat) (ys:Lz):Prop:=ys.length≤k∧Us ys∧(∀e,ys.getLast? =some e→lb e≠0)
theorem DH.nm {xs ys:Lz} {k:Nat} (h:DH xs ys) (hk:xs.length≤k):Nm k ys:=⟨by have:=h.1;omega,h.2.1,h.2.2.2.1⟩
theorem BN {aZ_ bs:Lz} (ha:Us aZ_) (hb: ∀e,bs.getLast? =some e→lb e≠0) (h:aZ_.length < bs.length):nv aZ_ < nv bs:=by
 have h1:=zH ha
 have h2:=Cu hb (by intro e;subst e;simp at h)
 have h3:4294967296 ^ aZ_.length≤4294967296 ^ (bs.length - 1):=Nat.pow_le_pow_right (by omega) (by omega)
 omega
theorem Cv {xs:Lz} {k:Nat} {x:Int} (h:xs[k]? =some [tU x]):nv xs=nv (xs.take k)+4294967296 ^ k * (x.toNat+4294967296 * nv (xs.drop (k+1))):=by
 obtain⟨hlt,he⟩:=List.getElem?_eq_some_iff.1 h
 rw[wP xs k,List.drop_eq_getElem_cons hlt,he]
 simp only[nv,kA,List.length_take]
 rw[Nat.min_eq_left (by omega)]
theorem KI {aZ_ bs:Lz} {k:Nat} {x y:Int} (ha:Us aZ_) (hd:aZ_.drop (k+1)=bs.drop (k+1)) (h1:aZ_[k]? =some [tU x]) (h2:bs[k]? =some [tU y]) (h0:0≤x) (h:x < y):nv aZ_ < nv bs:=by
 rw[Cv h1,Cv h2,hd]
 have hlt:=zH (ha.take k)
 have hk:(aZ_.take k).length=k:=by
  have:=(List.getElem?_eq_some_iff.1 h1).1
  simp;omega
 rw[hk]at hlt
 have:4294967296 ^ k * (x.toNat+1+4294967296 * nv (bs.drop (k+1)))≤4294967296 ^ k * (y.toNat+4294967296 * nv (bs.drop (k+1))):=Nat.mul_le_mul_left _ (by omega)
 rw[show x.toNat+1+4294967296 * nv (bs.drop (k+1))=(x.toNat+4294967296 * nv (bs.drop (k+1)))+1 by omega,Nat.mul_add]at this
 omega
theorem Im {aZ_ bs:Lz} {k:Nat} {x:Int} (hd:aZ_.drop (k+1)=bs.drop (k+1)) (h1:aZ_[k]? =some [tU x]) (h2:bs[k]? =some [tU x]):aZ_.drop k=bs.drop k:=by
 obtain⟨g1,e1⟩:=List.getElem?_eq_some_iff.1 h1
 obtain⟨g2,e2⟩:=List.getElem?_eq_some_iff.1 h2
 rw[List.drop_eq_getElem_cons g1,List.drop_eq_getElem_cons g2,e1,e2,hd]
def Iw (n:Int) (a b:Nat):Prop:=(n < 0↔a < b)∧(n=0↔a=b)
end Go.aT.Cd
end
section
namespace Go.aT.Cd
open Go Go.Proofs
set_option maxRecDepth 100000
def Am (xs:Lz) (m:Nat) (vs:List V):Prop:= ∃n:Nat,n≤xs.length∧(∀e,e∈xs.drop n→lb e=0)∧m=n∧vs=[iV .i64 (n:Int)]
theorem Am.next {xs:Lz} {n:Nat} {a:Int} (hn:n≤xs.length) (h0:(n:Int) > 0) (hz: ∀e,e∈xs.drop n→lb e=0) (hs:xs[(IntKind.i64.wrap ((n:Int) - 1)).toNat]? =some [tU a]) (ha:a=0) (hl:xs.length≤1000000):
 Am xs (n - 1) [iV .i64 (IntKind.i64.wrap ((n:Int) - 1))]:=by
 have e1:IntKind.i64.wrap ((n:Int) - 1)=((n - 1:Nat):Int):=by rw[aa (by omega) (by omega)];omega
 rw[e1]at hs
 refine⟨n - 1,by omega,?_,rfl,by rw[e1]⟩
 refine drop_zero hs ?_ ?_
 · subst ha
   rfl
 · rw[show n - 1+1=n by omega]
   exact hz
theorem zp {xs:Lz} {n:Nat} (hx:Us xs) (hn:n≤xs.length) (hz: ∀e,e∈xs.drop n→lb e=0) (h:¬ (n:Int) > 0):DH xs ((xs.drop 0).take ((n:Int).toNat - 0)):=by
 have:=Ca hx hn hz (.inl (by omega))
 simpa using this
theorem zo {xs:Lz} {n:Nat} {a:Int} (hx:Us xs) (hn:n≤xs.length) (hz: ∀e,e∈xs.drop n→lb e=0) (h:(n:Int) > 0) (hs:xs[(IntKind.i64.wrap ((n:Int) - 1)).toNat]? =some [tU a]) (h0:0≤a) (ha:a≠0) (hl:xs.length≤1000000):DH xs ((xs.drop 0).take ((n:Int).toNat - 0)):=by
 have e1:IntKind.i64.wrap ((n:Int) - 1)=((n - 1:Nat):Int):=by rw[aa (by omega) (by omega)];omega
 rw[e1]at hs
 have:=Ca hx hn hz (.inr ⟨_,hs,by rw[kA];omega⟩)
 simpa using this
theorem cL (xs:Lz) (hx:Us xs) (hl:xs.length≤1000000):Tg 239 [oL 1 xs] (GL 1 (DH xs)):=by
 refine ah Tryz.func239 ?_
 repeat' (conv=>whnf
          first
  |(refine au (fun h=>?_) (fun h=>?_))
  |(refine gK (Nat.zero_le _) (by omega) ?_)
  |(refine aq hx (by first|omega|exact bF (by first|omega|(simp (disch:=omega) only[aa];omega))|(simp (disch:=omega) only[aa];omega)) (by first|omega|exact bq (by omega)|(simp (disch:=omega) only[aa];omega)) ?_;rintro _ ⟨a,rfl,ha0,ha1⟩ hs)
  |(refine And.intro (by omega) ?_)
  |(first|exact ZG rfl rfl (zp hx hn hz (by omega))|exact ZG rfl rfl (zo hx hn hz (by omega) hs ha0 (by omega) hl))
  |(apply aM [0,3] [] [3] (Am xs) (xs.length) [iV .i64 (xs.length:Int)];(conv=>whnf);exact⟨rfl,rfl,rfl,rfl⟩;exact rfl;exact rfl;exact⟨xs.length,by omega,by simp,rfl,rfl⟩;rintro _ _ ⟨n,hn,hz,rfl,rfl⟩)
  |(refine ak [0,3] [] ?_;(conv=>whnf);exact⟨rfl,_,[_],Am.next hn (by omega) hz hs (by omega) hl,rfl,rfl,rfl,by omega⟩))
 all_goals (conv=>whnf)
def YQ (xs:Lz) (ts:List W):Prop:= ∃k,ts=[.one (.own 0 1 0 k)]∧k≤xs.length∧DH xs (xs.take k)
theorem Ui (n:Nat):0+n=n:=Nat.zero_add n
theorem dY (xs:Lz) (hx:Us xs) (hl:xs.length≤1000000): ∃ts hout,Fn Tryz.prog 239 [.one (.own 0 1 0 xs.length)] [(0, .row 1 (tr xs))] (aL ts) hout∧YT 1 xs (YQ xs) ts hout:=by
 refine dD Tryz.func239 ?_
 repeat' (conv=>whnf
          first
  |(refine au (fun h=>?_) (fun h=>?_))
  |(refine lX (Nat.zero_le _) (by omega) (.inr rfl) ?_)
  |(refine And.intro ⟨by(simp (disch:=omega) only[aa];omega),by(simp (disch:=omega) only[aa];omega)⟩ ?_)
  |(refine And.intro (by omega) ?_)
  |(refine bJ (xs:=xs) rfl hx (by(simp (disch:=omega) only[aa];omega)) ?_;rintro _ ⟨a,rfl,ha0,ha1⟩ hs)
  |(first|exact X6 rfl rfl rfl rfl ⟨_,rfl,by omega,by have:=zp hx hn hz (by omega);simpa using this⟩|exact X6 rfl rfl rfl rfl ⟨_,rfl,by omega,by have:=zo hx hn hz (by omega) (by rw[Ui]at hs;exact hs) ha0 (by omega) hl;simpa using this⟩)
  |(apply bp [0,3] [] [3] [(0,1)] (fun m vs xss=>Am xs m vs∧xss=[xs]) (xs.length) [iV .i64 (xs.length:Int)];(conv=>whnf);exact⟨rfl,rfl,rfl,rfl⟩;exact rfl;exact rfl;exact .cons (az.av rfl _) .nil;exact⟨⟨xs.length,by omega,by simp,rfl,rfl⟩,rfl⟩;rintro _ _ _ ⟨⟨n,hn,hz,rfl,rfl⟩,rfl⟩)
  |(refine ak [0,3] [] ?_;(conv=>whnf);exact⟨rfl,_,[_],_, .cons (az.av rfl _) .nil,⟨Am.next hn (by omega) hz (by rw[Ui]at hs;exact hs) (by omega) hl,rfl⟩,rfl,rfl,by omega⟩))
 all_goals (conv=>whnf)
theorem nt {a b:Int}:Us [[tU (IntKind.u32.wrap a)],[tU (IntKind.u32.wrap b)]]:=by
 intro e he
 simp only[List.mem_cons,List.not_mem_nil,or_false]at he
 rcases he with rfl|rfl
 · exact⟨_,rfl,eM _,fF _⟩
 · exact⟨_,rfl,eM _,fF _⟩
theorem QV {n:Int} (h0:0≤n) (h1:n < 18446744073709551616):nv [[tU (IntKind.u32.wrap n)],[tU (IntKind.u32.wrap (n.fdiv (2 ^ (min (32:Int).toNat IntKind.u64.bits))))]]=n.toNat:=by
 simp only[nv,kA,FL,mc]
 omega
theorem qA (n:Int) (h0:0≤n) (h1:n < 18446744073709551616):Tg 221 [oU n] (GL 1 (fun ys=>Nm 2 ys∧nv ys=n.toNat)):=by
 refine aJ ?_
 refine ah Tryz.func221 ?_
 repeat' (conv=>whnf
          first
  |(refine And.intro (by omega) ?_)
  |(refine GU rfl rfl (dY [[tU (IntKind.u32.wrap n)],[tU (IntKind.u32.wrap (n.fdiv (2 ^ (min (32:Int).toNat IntKind.u64.bits))))]] nt (by simp)) rfl rfl ?_;rintro _ ⟨k,rfl,hk,hT⟩)
  |exact oP rfl (fz rfl rfl (xs:=[[_],[_]]) rfl (by simp at hk⊢;omega)) ⟨_,rfl,by simpa using hT.nm (by simp),by simpa using hT.2.2.1.trans (QV h0 h1)⟩)
 all_goals (conv=>whnf)
theorem VN:Tryz.prog.underlying 276=some (.slice 238):=by kernel_rfl
theorem VX:cF Tryz.prog 238=some 1:=by kernel_rfl
abbrev Ht (n:Int):W:= .one (.t (tU n))
theorem jC (xs:Lz) (hx:Us xs) (hl:xs.length≤1000000):Tg 241 [oL 1 xs] (GL 1 (fun ys=>Nm xs.length ys∧nv ys=nv xs)):=by
 refine aJ ?_
 refine ah Tryz.func241 ?_
 repeat' (conv=>whnf
          first
  |(refine And.intro ⟨by omega,by omega,by have:=hT.1;omega,by have:=hT.1;omega⟩ ?_)
  |(refine ai rfl (cL xs hx hl) ?_;rintro _ ⟨ys,rfl,hT⟩)
  |(refine D6 (ys:=ys) rfl rfl rfl rfl VN VX rfl (az.replicate _ [tU 0]) (by simp) ?_)
  |exact oP rfl (fz rfl rfl rfl (by simp[aR])) ⟨_,rfl,by have h:=hT.nm (Nat.le_refl _);simpa[aR]using h,by have h:=hT.2.2.1;simpa[aR]using h⟩)
 all_goals (conv=>whnf)
theorem ML (n:Int):Tg 248 [Ht n] (ze False):=by
 refine ah Tryz.func248 ?_
 repeat' (conv=>whnf
          first
  |(refine tv rfl rfl ?_;simp))
 all_goals (conv=>whnf)
theorem Iz (a b:Int):Tg 240 [Ht a,Ht b] (kZ (fun n=>(n < 0↔a < b)∧(n=0↔a=b))):=by
 refine ah Tryz.func240 ?_
 repeat' (conv=>whnf
          first
  |(refine au (fun h=>?_) (fun h=>?_))
  |(refine aF (fun h=>?_) (fun h=>?_))
  |(refine ai rfl (ML _) ?_;rintro _ ⟨c,rfl,hc⟩)
  |(first|(refine gi rfl rfl ?_;omega)|(exfalso;simp_all;done)))
 all_goals (conv=>whnf)
theorem EF (n:Int):Tg 88 [oI n] (ze False):=by
 refine ah Tryz.func88 ?_
 repeat' (conv=>whnf
          first
  |(refine tv rfl rfl ?_;simp))
 all_goals (conv=>whnf)
theorem Lu (a b:Int):Tg 65 [oI a,oI b] (kZ (fun n=>(n < 0↔a < b)∧(n=0↔a=b))):=by
 refine ah Tryz.func65 ?_
 repeat' (conv=>whnf
          first
  |(refine au (fun h=>?_) (fun h=>?_))
  |(refine aF (fun h=>?_) (fun h=>?_))
  |(refine ai rfl (EF _) ?_;rintro _ ⟨c,rfl,hc⟩)
  |(first|(refine gi rfl rfl ?_;omega)|(exfalso;simp_all;done)))
 all_goals (conv=>whnf)
def NQ (ps qs:Lz) (m:Nat) (vs:List V):Prop:= ∃k:Nat,k≤ps.length∧ps.drop k=qs.drop k∧m=k∧vs=[iV .i64 ((k:Int) - 1)]
theorem NQ.next {ps qs:Lz} {k:Nat} {x y:Int} (hk:k≤ps.length) (hl:ps.length≤1000000) (h0:(k:Int) - 1≥0) (hd:ps.drop k=qs.drop k) (h1:ps[((k:Int) - 1).toNat]? =some [tU x]) (h2:qs[((k:Int) - 1).toNat]? =some [tU y]) (he:x=y):
 NQ ps qs (k - 1) [iV .i64 (IntKind.i64.wrap ((k:Int) - 1 - 1))]:=by
 subst he
 have e1:((k:Int) - 1).toNat=k - 1:=by omega
 rw[e1]at h1 h2
 have e2:IntKind.i64.wrap ((k:Int) - 1 - 1)=((k - 1:Nat):Int) - 1:=by rw[aa (by omega) (by omega)];omega
 exact⟨k - 1,by omega,Im (by rw[show k - 1+1=k by omega];exact hd) h1 h2,rfl,by rw[e2]⟩
theorem Np {ps qs:Lz} {k:Nat} {x y n:Int} (ha:Us ps) (hb:Us qs) (h0:(k:Int) - 1≥0) (hd:ps.drop k=qs.drop k) (h1:ps[((k:Int) - 1).toNat]? =some [tU x]) (h2:qs[((k:Int) - 1).toNat]? =some [tU y]) (hx:0≤x) (hy:0≤y)
 (hn:n≠0) (hc:(n < 0↔x < y)∧(n=0↔x=y)):Iw n (nv ps) (nv qs):=by
 have e1:((k:Int) - 1).toNat=k - 1:=by omega
 have e2:k - 1+1=k:=by omega
 rw[e1]at h1 h2
 rcases Int.lt_trichotomy x y with h|h|h
 · have:=KI ha (by rw[e2];exact hd) h1 h2 hx h
   exact⟨by omega,by omega⟩
 · omega
 · have:=KI hb (by rw[e2];exact hd.symm) h2 h1 hy h
   exact⟨by omega,by omega⟩
theorem KH {ps qs:Lz} {n:Int} (ha:Us ps) (hb:Us qs) (ha2: ∀e,ps.getLast? =some e→lb e≠0) (nj: ∀e,qs.getLast? =some e→lb e≠0) (hn:n≠0) (hc:(n < 0↔(ps.length:Int) < (qs.length:Int))∧(n=0↔(ps.length:Int)=(qs.length:Int))):Iw n (nv ps) (nv qs):=by
 rcases Nat.lt_trichotomy ps.length qs.length with h|h|h
 · have:=BN ha nj h
   exact⟨by omega,by omega⟩
 · omega
 · have:=BN hb ha2 h
   exact⟨by omega,by omega⟩
theorem KG {ps qs:Lz} {k:Nat} (hd:ps.drop k=qs.drop k) (hk:¬ ((k:Int) - 1≥0)):Iw 0 (nv ps) (nv qs):=by
 have:k=0:=by omega
 subst this
 simp only[List.drop_zero]at hd
 rw[hd]
 exact⟨by omega,by omega⟩
theorem jf (xs ys:Lz) (hx:Us xs) (hy:Us ys) (hl:xs.length≤1000000) (hm:ys.length≤1000000):Tg 223 [oL 1 xs,oL 1 ys] (kZ (fun n=>Iw n (nv xs) (nv ys))):=by
 refine ah Tryz.func223 ?_
 repeat' (conv=>whnf
          first
  |(refine au (fun h=>?_) (fun h=>?_))
  |(refine ca (fun h=>?_) (fun h=>?_))
  |(refine aq ua (by omega) (by omega) ?_;rintro _ ⟨x,rfl,hx0,s9⟩ hs1)
  |(refine aq ub (by omega) (by omega) ?_;rintro _ ⟨y,rfl,hy0,zP⟩ bW)
  |(refine And.intro (by kernel_rfl) ?_)
  |(refine ai rfl (cL xs hx hl) ?_;rintro _ ⟨ps,rfl,⟨la,ua,va,ta,_⟩⟩)
  |(refine ai rfl (cL ys hy hm) ?_;rintro _ ⟨qs,rfl,⟨lb',ub,vb,tb,_⟩⟩)
  |(refine ai rfl (Lu _ _) ?_;rintro _ ⟨c,rfl,hc⟩)
  |(refine aC rfl (Iz _ _) ?_;rintro _ ⟨d,rfl,TN⟩)
  |(refine gi rfl rfl ?_;rw[←va, ←vb];first|exact KH ua ub ta tb (by omega) hc|exact Np ua ub (by omega) hd hs1 bW hx0 hy0 (by omega) TN|exact KG hd (by omega))
  |(apply aM [0,1,6] [] [6] (NQ ps qs) (ps.length) [iV .i64 (IntKind.i64.wrap ((ps.length:Int) - 1))];(conv=>whnf);exact⟨rfl,rfl,rfl,rfl⟩;exact rfl;exact rfl;exact⟨ps.length,by omega,by rw[List.drop_length,List.drop_eq_nil_of_le (by omega)],rfl,by rw[aa (by omega) (by omega)]⟩;rintro _ _ ⟨k,hk,hd,rfl,rfl⟩)
  |(refine ak [0,1,6] [] ?_;(conv=>whnf);exact⟨rfl,_,[_],NQ.next hk (by omega) (by omega) hd hs1 bW (by omega),rfl,rfl,rfl,by omega⟩))
 all_goals (conv=>whnf)
end Go.aT.Cd
end
section
namespace Go.aT.Cd
open Go
def dI (xs:Lz) (i k:Nat):Nat:=nv ((xs.drop i).take k)
theorem Ck (xs:Lz) (i:Nat):dI xs i 0=0:=by simp[dI,nv]
theorem fW {α:Type} {l:List α} {k:Nat} {e:α} (h:l[k]? =some e):l.take (k+1)=l.take k++[e]:=by
 rw[List.take_add_one,h];rfl
theorem dR {xs:Lz} {i k:Nat} {x:Int} (h:xs[i+k]? =some [tU x]):dI xs i (k+1)=dI xs i k+4294967296 ^ k * x.toNat:=by
 have h':(xs.drop i)[k]? =some [tU x]:=by rw[List.getElem?_drop];exact h
 have hk:((xs.drop i).take k).length=k:=by
  have:=(List.getElem?_eq_some_iff.1 h').1
  rw[List.length_take];omega
 unfold dI
 rw[fW h',A8,hk]
 simp[nv,kA]
theorem I8 {xs:Lz} {i k:Nat} {x:Int} (h:xs[i]? =some [tU x]):dI xs i (k+1)=x.toNat+4294967296 * dI xs (i+1) k:=by
 obtain⟨hlt,he⟩:=List.getElem?_eq_some_iff.1 h
 unfold dI
 rw[List.drop_eq_getElem_cons hlt,he,List.take_succ_cons]
 simp[nv,kA]
theorem G7 {xs ys:Lz} {i k:Nat} (h: ∀j,i≤j→j < i+k→xs[j]? =ys[j]?):dI xs i k=dI ys i k:=by
 unfold dI
 congr 1
 apply List.ext_getElem?
 intro n
 rw[List.getElem?_take,List.getElem?_take]
 split
 · rw[List.getElem?_drop,List.getElem?_drop];exact h _ (by omega) (by omega)
 · rfl
theorem q8 {xs:Lz} {i k j:Nat} {e:List T} (h:j < i∨i+k≤j):dI (xs.set j e) i k=dI xs i k:=
 G7 fun n h1 h2=>by rw[List.getElem?_set_ne (by omega)]
theorem sP {xs:Lz} (hx:Us xs) (i k:Nat):dI xs i k < 4294967296 ^ k:=by
 have h:=zH (hx.cut i k)
 exact Nat.lt_of_lt_of_le h (Nat.pow_le_pow_right (by omega) (by simp only[List.length_take];omega))
theorem PY (k:Nat):0 < 4294967296 ^ k:=Nat.pow_pos (by omega)
theorem Ih {U V X top v1 q Q:Nat} (hU:U < (top+1) * X) (hV:v1 * X≤V) (hq:q=top / v1) (h1:1≤v1) (hQ:Q * V≤U):Q≤q:=by
 subst hq
 rw[Nat.le_div_iff_mul_le (by omega)]
 have h2:Q * v1 * X≤U:=by
  rw[Nat.mul_assoc]
  exact Nat.le_trans (Nat.mul_le_mul_left _ hV) hQ
 have h3:Q * v1 * X < (top+1) * X:=by omega
 have:=Nat.lt_of_mul_lt_mul_right h3
 omega
theorem Kr {U V X B top v1 v0 u0 q r Q:Nat} (hU:U < (top * B+u0+1) * X) (hV:(v1 * B+v0) * X≤V) (ht:q * v1+r=top) (hQ:Q * V≤U) (hQB:Q < B) (hqQ:Q≤q) (hc:B≤q∨r * B+u0 < q * v0):Q < q:=by
 rcases Nat.lt_or_eq_of_le hqQ with h|h
 · exact h
 · subst h
   rcases hc with h|h
   · omega
   · exfalso
     have h2:Q * (v1 * B+v0) * X < (top * B+u0+1) * X:=by
      rw[Nat.mul_assoc]
      exact Nat.lt_of_le_of_lt (Nat.le_trans (Nat.mul_le_mul_left _ hV) hQ) hU
     have h3:=Nat.lt_of_mul_lt_mul_right h2
     have h4:Q * (v1 * B+v0)=Q * v1 * B+Q * v0:=by rw[Nat.mul_add,Nat.mul_assoc]
     have h5:top * B=Q * v1 * B+r * B:=by rw[←ht,Nat.add_mul]
     omega
theorem Nd {U V X B top v1 v0 u0 q r:Nat} (hX:0 < X) (hB:0 < B) (hU:(top * B+u0) * X≤U) (XV:(v1 * B+v0) * X≤V) (ZC:V < (v1 * B+v0+1) * X) (ID:v0 < B) (h1:1≤v1) (Xe:top < v1 * B+B) (ht:q * v1+r=top)
 (hc:¬ (r < B∧(B≤q∨r * B+u0 < q * v0))):q < B∧q * V < U+V:=by
 have hBX:B * X≤V:=by
  refine Nat.le_trans ?_ XV
  refine Nat.mul_le_mul_right X ?_
  have:1 * B≤v1 * B:=Nat.mul_le_mul_right B h1
  omega
 have ayU:0 < B * X:=Nat.mul_pos hB hX
 by_cases hr:r < B
 · have hq:q < B:=by
    apply Nat.lt_of_not_le
    intro h
    exact hc ⟨hr, .inl h⟩
   have CW:q * v0≤r * B+u0:=by
    apply Nat.le_of_not_lt
    intro h
    exact hc ⟨hr, .inr h⟩
   refine⟨hq,?_⟩
   have e1:q * (v1 * B+v0)≤top * B+u0:=by
    have e2:q * (v1 * B+v0)=q * v1 * B+q * v0:=by rw[Nat.mul_add,Nat.mul_assoc]
    have e3:top * B=q * v1 * B+r * B:=by rw[←ht,Nat.add_mul]
    omega
   have e4:q * V≤q * ((v1 * B+v0+1) * X):=Nat.mul_le_mul_left q (Nat.le_of_lt ZC)
   have e5:q * ((v1 * B+v0+1) * X)=q * (v1 * B+v0) * X+q * X:=by
    rw[←Nat.mul_assoc,Nat.mul_add q (v1 * B+v0) 1,Nat.mul_one,Nat.add_mul]
   have e6:q * (v1 * B+v0) * X≤(top * B+u0) * X:=Nat.mul_le_mul_right X e1
   have e7:q * X < B * X:=Nat.mul_lt_mul_of_pos_right hq hX
   omega
 · have hv:q * v1 < v1 * B:=by omega
   have hq:q < B:=by
    rw[Nat.mul_comm q v1]at hv
    exact Nat.lt_of_mul_lt_mul_left hv
   refine⟨hq,?_⟩
   have e1:(v1 * B+v0+1) * X≤(v1+1) * (B * X):=by
    rw[←Nat.mul_assoc]
    refine Nat.mul_le_mul_right X ?_
    rw[Nat.add_mul];omega
   have e2:q * V≤q * ((v1+1) * (B * X)):=Nat.mul_le_mul_left q (by omega)
   have e3:q * ((v1+1) * (B * X))=(q * v1+q) * (B * X):=by rw[←Nat.mul_assoc,Nat.mul_add q v1 1,Nat.mul_one]
   have e4:(q * v1+q) * (B * X)≤top * (B * X):=Nat.mul_le_mul_right _ (by omega)
   have e5:top * (B * X)=top * B * X:=by rw[Nat.mul_assoc]
   have e6:top * B * X≤(top * B+u0) * X:=Nat.mul_le_mul_right X (by omega)
   omega
theorem IX {a b c q y u Bi d borrow BS carry lo hi:Nat} (ha:a+(borrow+carry) * Bi=b+q * c) (hc:carry+q * y=lo+hi * 4294967296) (hd:u+BS * 4294967296=d+lo+borrow):(a+Bi * u)+(BS+hi) * (4294967296 * Bi)=(b+Bi * d)+q * (c+Bi * y):=by
 have h1:Bi * (u+BS * 4294967296)=Bi * (d+lo+borrow):=by rw[hd]
 have h2:Bi * (carry+q * y)=Bi * (lo+hi * 4294967296):=by rw[hc]
 grind
theorem K7 {a b c y u Bi d carry E9:Nat} (ha:a+c=b+carry * Bi) (hd:carry+u+y=d+E9 * 4294967296):(a+Bi * u)+(c+Bi * y)=(b+Bi * d)+E9 * (4294967296 * Bi):=by
 have h1:Bi * (carry+u+y)=Bi * (d+E9 * 4294967296):=by rw[hd]
 grind
theorem Mf {U V q Q un carry borrow lo new Bn:Nat} (hU:U=lo+Bn * un) (h:lo+(borrow+carry) * Bn=new+q * V) (hQ:U < (Q+1) * V) (hq:Q≤q) (hge:carry+borrow≤un):new < V:=by
 obtain⟨k,rfl⟩: ∃k,un=carry+borrow+k:=⟨un - (carry+borrow),by omega⟩
 have e1:Bn * (carry+borrow+k)=(borrow+carry) * Bn+Bn * k:=by
  rw[Nat.mul_add,Nat.mul_comm,Nat.add_comm carry borrow]
 have e2:(Q+1) * V≤(q+1) * V:=Nat.mul_le_mul_right V (by omega)
 have e3:(q+1) * V=q * V+V:=by rw[Nat.add_mul,Nat.one_mul]
 have e4:0≤Bn * k:=Nat.zero_le _
 omega
theorem IZ {U V q un carry borrow lo new Q1 c2 Bn:Nat} (hU:U=lo+Bn * un) (h:lo+(borrow+carry) * Bn=new+q * V) (hV:V < Bn) (hq:q * V < U+V) (hlt:un < carry+borrow) (h2:new+V=Q1+c2 * Bn) (hn:new < Bn) (J5:Q1 < Bn):Q1 < V:=by
 obtain⟨k,hk⟩: ∃k,borrow+carry=un+1+k:=⟨borrow+carry - un - 1,by omega⟩
 rw[hk]at h
 have e1:(un+1+k) * Bn=Bn * un+Bn+k * Bn:=by
  rw[Nat.add_mul,Nat.add_mul,Nat.one_mul,Nat.mul_comm un Bn]
 match c2,h2 with
 |0,h2=>simp only[Nat.zero_mul,Nat.add_zero]at h2;have:=Nat.zero_le (k * Bn);omega
 |1,h2=>simp only[Nat.one_mul]at h2;omega
 |c+2,h2=>
  have e2:(c+2) * Bn=c * Bn+2 * Bn:=by rw[Nat.add_mul]
  have:=Nat.zero_le (c * Bn)
  omega
end Go.aT.Cd
end
section
namespace Go.aT.Cd
open Go Go.Proofs
set_option maxRecDepth 100000
theorem bh {n:Int} (h0: -9223372036854775808≤n) (h1:n < 9223372036854775808):IntKind.i64.wrap n=n:=aa h0 h1
abbrev bD (id sz len:Nat):V:= .w (.one (.own id sz 0 len))
def Fo (N:Nat) (m:Nat) (vs:List V) (xss:List (Lz)):Prop:= ∃ (i:Nat) (zs:Lz) (c:Int),i≤N∧m=N - i∧vs=[bD 4 1 i,iV .u64 c,iV .i64 (i:Int)]∧xss=[zs]∧zs.length=i∧Us zs
theorem Fo.zero {N:Nat}:Fo N N [bD 4 1 0,iV .u64 0,iV .i64 0] [[]]:=⟨0,[],0,by omega,rfl,rfl,rfl,rfl,Us.nil⟩
theorem Fo.next {N i k:Nat} {zs:Lz} {c d:Int} (h:i < N) (hN:N≤1000001) (hl:zs.length=i) (hU:Us zs) (hk:k=i+1):Fo N (N - (i+1)) [bD 4 1 k,iV .u64 d,iV .i64 (IntKind.i64.wrap ((i:Int)+1))] [zs++[[tU (IntKind.u32.wrap c)]]]:=
 ⟨i+1,_,d,by omega,rfl,by rw[bh (by omega) (by omega),hk];rfl,rfl,by simp[hl],hU.snoc (eM _) (fF _)⟩
theorem kz (xs ys:Lz) (hx:Us xs) (hy:Us ys) (hl:xs.length≤400000) (hm:ys.length≤400000):Tg 245 [oL 1 xs,oL 1 ys] (GL 1 (Nm (max xs.length ys.length+1))):=by
 refine aJ ?_
 refine ah Tryz.func245 ?_
 repeat' (conv=>whnf
          first
  |(refine au (fun h=>?_) (fun h=>?_))
  |(refine aq ua (by omega) (by omega) ?_;rintro _ ⟨x,rfl,hx0,s9⟩ hs1)
  |(refine aq ub (by omega) (by omega) ?_;rintro _ ⟨y,rfl,hy0,zP⟩ bW)
  |(refine And.intro ⟨(by first|omega|(simp (disch:=omega) only[aa];omega)),(by first|omega|(simp (disch:=omega) only[aa];omega)),(by first|omega|(simp (disch:=omega) only[aa];omega)),(by first|omega|(simp (disch:=omega) only[aa];omega))⟩ ?_)
  |(refine And.intro ⟨by simp[tr,hz],by simp[tr,aW];omega,by simp[tr,maxLen];omega⟩ ?_)
  |(refine And.intro (by omega) ?_)
  |(refine ai rfl (cL xs hx (by omega)) ?_;rintro _ ⟨ps,rfl,⟨la,ua,va,ta,_⟩⟩)
  |(refine ai rfl (cL ys hy (by omega)) ?_;rintro _ ⟨qs,rfl,⟨lb',ub,vb,tb,_⟩⟩)
  |(refine GU rfl rfl (dY (zs++[[tU (IntKind.u32.wrap c)]]) (hU.snoc (eM _) (fF _)) (by simp;omega)) (by simp[W.av,C.av,bt,tr]) (az.snoc (xs:=zs) rfl [tU _]) ?_;rintro _ ⟨k,rfl,hk,hT⟩)
  |exact oP rfl (fz rfl rfl (az.snoc (xs:=zs) rfl [tU _]) (by simp at hk⊢;omega)) ⟨_,rfl,by simpa using hT.nm (by simp;omega)⟩
  |(apply bp [1,5,6,24,25,26] [] [5,6,26] [(4,1)] (Fo (max ps.length qs.length)) (max ps.length qs.length) [bD 4 1 0,iV .u64 0,iV .i64 0];(conv=>whnf);exact⟨rfl,rfl,rfl,rfl⟩;exact rfl;exact rfl;exact .cons (az.av (az.replicate 0 [tU 0]) _) .nil;exact Fo.zero;rintro _ _ _ ⟨i,zs,c,hi,rfl,rfl,rfl,hz,hU⟩)
  |(refine ak [1,5,6,24,25,26] [] ?_;(conv=>whnf);exact⟨rfl,_,[_,_,_],_, .cons (az.av (az.snoc (xs:=zs) rfl [tU _]) _) .nil,Fo.next (by omega) (by omega) hz hU (by simp[tr,hz]),rfl,rfl,by omega⟩))
 all_goals (conv=>whnf)
def yZ (N L:Nat) (m:Nat) (vs:List V) (xss:List (Lz)):Prop:= ∃ (i:Nat) (zs:Lz) (c:Int),i≤N∧m=N - i∧vs=[iV .u64 c,iV .i64 (i:Int)]∧xss=[zs]∧zs.length=L∧Us zs
theorem yZ.zero {N L:Nat} {zs:Lz} (hz:zs.length=L) (hU:Us zs):yZ N L N [iV .u64 0,iV .i64 0] [zs]:=⟨0,zs,0,by omega,rfl,rfl,rfl,hz,hU⟩
theorem yZ.next {N L i j:Nat} {zs:Lz} {c d:Int} (h:i < N) (hN:N≤1000001) (hl:zs.length=L) (hU:Us zs):yZ N L (N - (i+1)) [iV .u64 d,iV .i64 (IntKind.i64.wrap ((i:Int)+1))] [zs.set j [tU (IntKind.u32.wrap c)]]:=
 ⟨i+1,_,d,by omega,rfl,by rw[bh (by omega) (by omega)];rfl,rfl,by simp[hl],hU.set (eM _) (fF _)⟩
def GLB (p:Lz→Prop) (ts:List W):Prop:= ∃xs b,ts=[.one (.t (.aB 1 xs)), .one (.t (.val (.bool b)))]∧p xs
theorem uh (xs ys:Lz) (hx:Us xs) (hy:Us ys) (hl:xs.length≤400000) (hm:ys.length≤400000):Tg 254 [oL 1 xs,oL 1 ys] (GLB (Nm xs.length)):=by
 refine aJ ?_
 refine ah Tryz.func254 ?_
 repeat' (conv=>whnf
          first
  |(refine au (fun h=>?_) (fun h=>?_))
  |(refine aq ua (by omega) (by omega) ?_;rintro _ ⟨x,rfl,hx0,s9⟩ hs1)
  |(refine aq ub (by omega) (by omega) ?_;rintro _ ⟨y,rfl,hy0,zP⟩ bW)
  |(refine And.intro ⟨(by first|omega|(simp (disch:=omega) only[aa];omega)),(by first|omega|(simp (disch:=omega) only[aa];omega)),(by first|omega|(simp (disch:=omega) only[aa];omega)),(by first|omega|(simp (disch:=omega) only[aa];omega))⟩ ?_)
  |(refine And.intro ⟨by omega,by omega⟩ ?_)
  |(refine And.intro (by omega) ?_)
  |(refine ai rfl (cL xs hx (by omega)) ?_;rintro _ ⟨ps,rfl,⟨la,ua,va,ta,_⟩⟩)
  |(refine ai rfl (cL ys hy (by omega)) ?_;rintro _ ⟨qs,rfl,⟨lb',ub,vb,tb,_⟩⟩)
  |(refine ai rfl (jf ps qs ua ub (by omega) (by omega)) ?_;rintro _ ⟨n,rfl,hn⟩)
  |(refine bJ (xs:=zs) rfl hU (by omega) ?_;rintro _ ⟨a,rfl,ha0,ha1⟩ hs)
  |(refine GU rfl rfl (dY zs hU (by omega)) (by simp[W.av,C.av,bt,hz]) rfl ?_;rintro _ ⟨k,rfl,hk,hT⟩)
  |exact dg rfl (fz rfl rfl (xs:=zs) rfl (by simp at hk⊢;omega)) (bS rfl) ⟨_,_,rfl,by simpa using hT.nm (by omega)⟩
  |exact dg rfl (bR 1 rfl) (bS rfl) ⟨_,_,rfl,by simp,Us.nil,by simp⟩
  |(apply bp [1,6,7,22,23,24] [] [7,24] [(4,1)] (yZ ps.length ps.length) (ps.length) [iV .u64 0,iV .i64 0];(conv=>whnf);exact⟨rfl,rfl,rfl,rfl⟩;exact rfl;exact rfl;exact .cons (az.av (az.replicate ps.length [tU 0]) _) .nil;exact yZ.zero (by simp) (Us.replicate _);rintro _ _ _ ⟨i,zs,c,hi,rfl,rfl,rfl,hz,hU⟩)
  |(refine ak [1,6,7,22,23,24] [] ?_;(conv=>whnf);exact⟨rfl,_,[_,_],_, .cons (az.av (az.set (xs:=zs) rfl _ [tU _]) _) .nil,yZ.next (by omega) (by omega) hz hU,rfl,rfl,by omega⟩))
 all_goals (conv=>whnf)
theorem jO (n:Int):0≤IntKind.u64.wrap n:=by rw[sG];omega
def Fj (N L:Nat) (m:Nat) (vs:List V) (xss:List (Lz)):Prop:= ∃ (i:Nat) (zs:Lz),i≤N∧m=N - i∧vs=[iV .i64 (i:Int)]∧xss=[zs]∧zs.length=L∧Us zs
theorem Fj.zero {N L:Nat} {zs:Lz} (hz:zs.length=L) (hU:Us zs):Fj N L N [iV .i64 0] [zs]:=⟨0,zs,by omega,rfl,rfl,rfl,hz,hU⟩
theorem Fj.next {N L i j:Nat} {zs:Lz} {c:Int} (h:i < N) (hN:N≤1000001) (hl:zs.length=L) (hU:Us zs):Fj N L (N - (i+1)) [iV .i64 (IntKind.i64.wrap ((i:Int)+1))] [zs.set j [tU (IntKind.u32.wrap c)]]:=
 ⟨i+1,_,by omega,rfl,by rw[bh (by omega) (by omega)];rfl,rfl,by simp[hl],hU.set (eM _) (fF _)⟩
theorem je (xs ys:Lz) (hx:Us xs) (hy:Us ys) (hl:xs.length≤400000) (hm:ys.length≤400000):Tg 225 [oL 1 xs,oL 1 ys] (GL 1 (Nm (xs.length+ys.length))):=by
 refine aJ ?_
 refine ah Tryz.func225 ?_
 repeat' (conv=>whnf
          first
  |(refine au (fun h=>?_) (fun h=>?_))
  |(refine aq ua (by omega) (by omega) ?_;rintro _ ⟨x,rfl,hx0,s9⟩ hs1)
  |(refine aq ub (by omega) (by omega) ?_;rintro _ ⟨y,rfl,hy0,zP⟩ bW)
  |(refine And.intro ⟨(by first|omega|(simp (disch:=omega) only[aa];omega)),(by first|omega|(simp (disch:=omega) only[aa];omega)),(by first|omega|(simp (disch:=omega) only[aa];omega)),(by first|omega|(simp (disch:=omega) only[aa];omega))⟩ ?_)
  |(refine And.intro ⟨(by first|omega|(simp (disch:=omega) only[aa];omega)),(by first|omega|(simp (disch:=omega) only[aa];omega))⟩ ?_)
  |(refine And.intro (by omega) ?_)
  |(refine ai rfl (cL xs hx (by omega)) ?_;rintro _ ⟨ps,rfl,⟨la,ua,va,ta,_⟩⟩)
  |(refine ai rfl (cL ys hy (by omega)) ?_;rintro _ ⟨qs,rfl,⟨lb',ub,vb,tb,_⟩⟩)
  |(refine bJ (xs:=zs) rfl hU (by first|omega|(simp (disch:=omega) only[aa];omega)) ?_;rintro _ ⟨a,rfl,ha0,ha1⟩ hs)
  |(refine GU rfl rfl (dY zs hU (by omega)) (by simp (disch:=omega) [W.av,C.av,bt,hz,aa];omega) rfl ?_;rintro _ ⟨k,rfl,hk,hT⟩)
  |exact oP rfl (fz rfl rfl (xs:=zs) rfl (by simp at hk⊢;omega)) ⟨_,rfl,by simpa using hT.nm (by omega)⟩
  |(apply bp [1,5,6,7,8,21,22,23,28,29,30] [] [8,30] [(4,1)] (yZ qs.length (ps.length+qs.length)) (qs.length) [iV .u64 0,iV .i64 0];(conv=>whnf);exact⟨rfl,rfl,rfl,rfl⟩;exact rfl;exact rfl;exact .cons (az.av rfl _) .nil;exact yZ.zero hz hU;rintro _ _ _ ⟨k,zs,c,MR,rfl,rfl,rfl,hz,hU⟩)
  |(refine ak [1,5,6,7,8,21,22,23,28,29,30] [] ?_;(conv=>whnf);exact⟨rfl,_,[_,_],_, .cons (az.av (az.set (xs:=zs) rfl _ [tU _]) _) .nil,yZ.next (by omega) (by omega) hz hU,rfl,rfl,by omega⟩)
  |(apply bp [1,5,21,22,23] [] [23] [(4,1)] (Fj ps.length (ps.length+qs.length)) (ps.length) [iV .i64 0];(conv=>whnf);exact⟨rfl,rfl,rfl,rfl⟩;exact rfl;exact rfl;exact .cons (az.av (az.replicate _ [tU 0]) _) .nil;exact Fj.zero (by simp (disch:=omega) only[List.length_replicate,aa];omega) (Us.replicate _);rintro _ _ _ ⟨i,zs,hi,rfl,rfl,rfl,hz,hU⟩)
  |(refine ak [1,5,21,22,23] [] ?_;(conv=>whnf);exact⟨rfl,_,[_],_, .cons (az.av (az.set (xs:=zs) rfl _ [tU _]) _) .nil,Fj.next (by omega) (by omega) hz hU,rfl,rfl,by omega⟩))
 all_goals (conv=>whnf)
def S6 (d:Int) (N:Nat) (m:Nat) (vs:List V) (xss:List (Lz)):Prop:= ∃ (k:Nat) (zs:Lz) (r:Int),k≤N∧m=k∧0≤r∧r < d∧vs=[iV .u64 r,iV .i64 ((k:Int) - 1)]∧xss=[zs]∧zs.length=N∧Us zs
theorem S6.zero {d:Int} {N:Nat} {zs:Lz} (hd:1≤d) (hN:N≤1000000) (hz:zs.length=N) (hU:Us zs):S6 d N N [iV .u64 0,iV .i64 (IntKind.i64.wrap ((N:Int) - 1))] [zs]:=⟨N,zs,0,by omega,rfl,by omega,by omega,by rw[bh (by omega) (by omega)],rfl,hz,hU⟩
theorem S6.next {d X c:Int} {N k j:Nat} {zs:Lz} (hd:1≤d) (TN:d < 4294967296) (hX:0≤X) (hk:k≤N) (hN:N≤1000000) (h0:(k:Int) - 1≥0) (hz:zs.length=N) (hU:Us zs):S6 d N (k - 1) [iV .u64 (X.tmod (IntKind.u64.wrap d)),iV .i64 (IntKind.i64.wrap ((k:Int) - 1 - 1))] [zs.set j [tU (IntKind.u32.wrap c)]]:=by
 have e:IntKind.u64.wrap d=d:=u64_in (by omega) (by omega)
 refine⟨k - 1,_,_,by omega,rfl,?_,?_,by rw[bh (by omega) (by omega)];congr 3;omega,rfl,by simp[hz],hU.set (eM _) (fF _)⟩
 · exact Int.tmod_nonneg _ hX
 · rw[e];exact Int.tmod_lt_of_pos _ (by omega)
def GSh (n:Nat) (d:Int) (ts:List W):Prop:= ∃zs r,ts=[.one (.t (.aB 1 zs)), .one (.t (tU r))]∧Nm n zs∧0≤r∧r < d
theorem Qo {d:Int} (hd:1≤d) (TN:d < 4294967296):IntKind.u64.wrap d≠0:=by rw[u64_in (by omega) (by omega)];omega
theorem yE (xs:Lz) (d:Int) (hx:Us xs) (hl:xs.length≤400000) (hd:1≤d) (TN:d < 4294967296):Tg 249 [oL 1 xs,Ht d] (GSh xs.length d):=by
 refine aJ ?_
 refine ah Tryz.func249 ?_
 repeat' (conv=>whnf
          first
  |(refine au (fun h=>?_) (fun h=>?_))
  |(refine aq hx (by omega) (by omega) ?_;rintro _ ⟨x,rfl,hx0,s9⟩ hs1)
  |(refine And.intro ⟨(by first|omega|(simp (disch:=omega) only[aa];omega)),(by first|omega|(simp (disch:=omega) only[aa];omega)),(by first|omega|(simp (disch:=omega) only[aa];omega)),(by first|omega|(simp (disch:=omega) only[aa];omega))⟩ ?_)
  |(refine And.intro ⟨(by first|omega|(simp (disch:=omega) only[aa];omega)),(by first|omega|(simp (disch:=omega) only[aa];omega))⟩ ?_)
  |(refine And.intro (Qo hd TN) ?_)
  |(refine And.intro (by omega) ?_)
  |(refine bJ (xs:=zs) rfl hU (by first|omega|(simp (disch:=omega) only[aa];omega)) ?_;rintro _ ⟨a,rfl,ha0,ha1⟩ hs)
  |(refine GU rfl rfl (dY zs hU (by omega)) (by simp[W.av,C.av,bt,hz]) rfl ?_;rintro _ ⟨k,rfl,hk,hT⟩)
  |exact dg rfl (fz rfl rfl (xs:=zs) rfl (by simp at hk⊢;omega)) (bS rfl) ⟨_,_,rfl,by simpa using hT.nm (by omega),eM _,by rw[u32_in (by omega) (by omega)];omega⟩
  |(apply bp [0,1,6,7,8] [] [7,8] [(4,1)] (S6 d xs.length) (xs.length) [iV .u64 0,iV .i64 (IntKind.i64.wrap ((xs.length:Int) - 1))];(conv=>whnf);exact⟨rfl,rfl,rfl,rfl⟩;exact rfl;exact rfl;exact .cons (az.av (az.replicate _ [tU 0]) _) .nil;exact S6.zero hd (by omega) (by simp) (Us.replicate _);rintro _ _ _ ⟨k,zs,r,MR,rfl,td,kC,rfl,rfl,hz,hU⟩)
  |(refine ak [0,1,6,7,8] [] ?_;(conv=>whnf);exact⟨rfl,_,[_,_],_, .cons (az.av (az.set (xs:=zs) rfl _ [tU _]) _) .nil,S6.next hd TN (jO _) MR (by omega) (by omega) hz hU,rfl,rfl,by omega⟩))
 all_goals (conv=>whnf)
theorem LX {s:ByteArray} {n:Int} {N B:Nat} {K:UInt8→Prop} (hN:s.size=N) (hQ:(List.range N).all (fun i=>match s[i]? with|some b=>Nat.blt i (2 ^ b.toNat)&&Nat.ble b.toNat B|none=>false)=true) (h0:0≤n) (h1:n < (N:Int)) (hk: ∀b:UInt8,b.toNat≤B→n.toNat < 2 ^ b.toNat→K b):0≤n∧ ∃b,s[n.toNat]? =some b∧K b:=by
 have hlt:n.toNat < s.size:=by omega
 have h2:=List.all_eq_true.1 hQ n.toNat (by simp;omega)
 have e:s[n.toNat]? =some s[n.toNat]:=by simp[hlt]
 rw[e]at h2
 simp only[Bool.and_eq_true,Nat.blt_eq,Nat.ble_eq]at h2
 exact⟨h0,_,e,hk _ h2.2 h2.1⟩
theorem I4 (a:Int) (k:Nat) (hk:k≤32):a.fdiv (2 ^ (min (k:Int).toNat IntKind.u32.bits))=a / 2 ^ k:=by
 have e:min (k:Int).toNat IntKind.u32.bits=k:=by simp only[IntKind.bits];omega
 rw[e,Int.fdiv_eq_ediv_of_nonneg _ (Int.le_of_lt (Int.pow_pos (by omega)))]
theorem u8_in {n:Int} (h0:0≤n) (h1:n < 256):IntKind.u8.wrap n=n:=by simp[IntKind.wrap,IntKind.bits,IntKind.signed];omega
theorem sr8 (x:Int):x.fdiv (2 ^ min (Int.toNat 8) IntKind.u32.bits)=x / 256:=I4 x 8 (by omega)
theorem acG (x:Int):x.fdiv (2 ^ min (Int.toNat 16) IntKind.u32.bits)=x / 65536:=I4 x 16 (by omega)
theorem vQ {x y n D:Int} {k:Nat} {b:UInt8} (hD:(2:Int) ^ k=D) (h0:0≤x) (hk:k≤24) (hy:y=x / D) (hy8:y < 256) (hb:b.toNat≤8) (hq:(IntKind.u8.wrap y).toNat < 2 ^ b.toNat) (hn:n=(k+b.toNat:Nat)):0≤n∧n≤32∧x.toNat < 2 ^ n.toNat:=by
 have hp:(0:Int) < 2 ^ k:=Int.pow_pos (by omega)
 rw[←hD]at hy
 have hy0:0≤y:=by rw[hy];exact Int.ediv_nonneg h0 (by omega)
 rw[u8_in hy0 hy8]at hq
 refine⟨by omega,by omega,?_⟩
 have e:n.toNat=k+b.toNat:=by omega
 rw[e,Nat.pow_add]
 have h3:y+1≤((2 ^ b.toNat:Nat):Int):=by omega
 have h4:x < (y+1) * 2 ^ k:=by
  rw[hy]
  exact Int.lt_ediv_add_one_mul_self x hp
 have h5:(y+1) * 2 ^ k≤((2 ^ b.toNat:Nat):Int) * 2 ^ k:=Int.mul_le_mul_of_nonneg_right h3 (by omega)
 have h6:((2 ^ b.toNat:Nat):Int) * 2 ^ k=((2 ^ k * 2 ^ b.toNat:Nat):Int):=by
  rw[Nat.mul_comm];simp
 omega
theorem i8:(2:Int) ^ 8=256:=by decide
theorem i16:(2:Int) ^ 16=65536:=by decide
theorem i24:(2:Int) ^ 24=16777216:=by decide
theorem vg (x:Int) (h0:0≤x) (h1:x < 4294967296):Tg 117 [Ht x] (kZ (fun n=>0≤n∧n≤32∧x.toNat < 2 ^ n.toNat)):=by
 refine ah Tryz.func117 ?_
 repeat' (conv=>whnf
          first
  |(refine au (fun h=>?_) (fun h=>?_))
  |(refine LX (N:=256) (B:=8) (by kernel_rfl) (by kernel_rfl) (Tz _).1 (Tz _).2 ?_;intro bb DY hq)
  |(refine And.intro (by omega) ?_)
  |(refine gi rfl rfl ?_;(try simp only[sr8,acG]at *);first|exact vQ (k:=0) (y:=x) (D:=1) (by decide) h0 (by omega) (by omega) (by omega) DY hq (by simp (disch:=omega) only[aa];omega)|exact vQ i8 h0 (by omega) rfl (by omega) DY hq (by simp (disch:=omega) only[aa];omega)|exact vQ i16 h0 (by omega) rfl (by omega) DY hq (by simp (disch:=omega) only[aa];omega)|exact vQ i24 h0 (by omega) (by omega) (by omega) DY hq (by simp (disch:=omega) only[aa];omega)))
 all_goals (conv=>whnf)
theorem kU (x:Int) (h0:0 < x) (h1:x < 4294967296):Tg 250 [Ht x] (kZ (fun n=>0≤n∧n≤31∧x.toNat < 2 ^ (32 - n.toNat))):=by
 refine ah Tryz.func250 ?_
 repeat' (conv=>whnf
          first
  |(refine ai rfl (vg x (by omega) h1) ?_;rintro _ ⟨n,rfl,LK,vS,hx⟩)
  |(refine gi rfl rfl ?_;rw[aa (by omega) (by omega)];refine⟨by omega,?_,?_⟩;(rcases Int.lt_or_le 0 n with h|h;omega;(have e:n.toNat=0:=by omega);rw[e]at hx;omega);rw[show 32 - (32 - n).toNat=n.toNat by omega];exact hx))
 all_goals (conv=>whnf)
end Go.aT.Cd
end
section
namespace Go.aT.Cd
open Go
def DV:Lz→Nat
 | []=>0
 |y::_=>lb y
def rt (s:Nat):Lz→Lz
 | []=>[]
 |x::r=>[tU (((lb x+4294967296 * DV r) / 2 ^ s % 4294967296:Nat):Int)]::rt s r
theorem Jg (s:Nat): ∀xs,(rt s xs).length=xs.length
 | []=>rfl
 |_::r=>by simp[rt,Jg s r]
theorem Wy {xs:Lz} (h:Us xs):nv xs % 4294967296=DV xs:=by
 cases xs with
 |nil=>rfl
 |cons y r=>
  have:=(h y List.mem_cons_self).lt
  simp only[nv,DV]
  omega
theorem Mp {x m P Q:Nat} (hP:0 < P) (hx:x < P * Q):(x+P * Q * (m % (P * Q))) / P % (P * Q)+P * Q * (m / P)=(x+P * Q * m) / P:=by
 have e1: ∀n,(x+P * Q * n) / P=x / P+Q * n:=fun n=>by rw[Nat.mul_assoc,Nat.add_mul_div_left _ _ hP]
 rw[e1,e1]
 have hm:=Nat.div_add_mod m P
 have h1:m % (P * Q) % P=m % P:=Nat.mod_mul_right_mod m P Q
 have tf:=Nat.div_add_mod (m % (P * Q)) P
 rw[h1]at tf
 have hlt:x / P < Q:=Nat.div_lt_of_lt_mul hx
 have ht:m % P < P:=Nat.mod_lt _ hP
 have e2:x / P+Q * (m % (P * Q))=(x / P+Q * (m % P))+P * Q * (m % (P * Q) / P):=by
  have:Q * (m % (P * Q))=Q * (P * (m % (P * Q) / P)+m % P):=by rw[tf]
  rw[this];grind
 have e3:x / P+Q * (m % P) < P * Q:=by
  have:Q * (m % P+1)≤Q * P:=Nat.mul_le_mul_left Q ht
  rw[Nat.mul_add,Nat.mul_one,Nat.mul_comm Q P]at this
  omega
 rw[e2,Nat.add_mul_mod_self_left,Nat.mod_eq_of_lt e3]
 have:Q * m=Q * (P * (m / P)+m % P):=by rw[hm]
 rw[this];grind
theorem oN {s:Nat} (h:s≤32):2 ^ s * 2 ^ (32 - s)=4294967296:=by
 rw[←Nat.pow_add,show s+(32 - s)=32 by omega]
theorem OB {s:Nat} (hs:s≤32): ∀ {xs:Lz},Us xs→nv (rt s xs)=nv xs / 2 ^ s
 | [],_=>by simp[rt,nv]
 |x::r,h=>by
  have hr:Us r:=fun e he=>h e (List.mem_cons_of_mem _ he)
  have hx:=(h x List.mem_cons_self).lt
  have ih:=OB hs hr
  have hB:=oN hs
  have:=Mp (x:=lb x) (m:=nv r) (P:=2 ^ s) (Q:=2 ^ (32 - s)) (Nat.pow_pos (by omega)) (by rw[hB];exact hx)
  rw[hB,Wy hr]at this
  simp only[rt,nv,kA,ih,Int.toNat_natCast]
  exact this
theorem Jh {s:Nat}: ∀ {xs:Lz} {i:Nat} {x:List T},xs[i]? =some x→(rt s xs)[i]? =some [tU (((lb x+4294967296 * DV (xs.drop (i+1))) / 2 ^ s % 4294967296:Nat):Int)]
 | [],i,x,h=>by simp at h
 |y::r,0,x,h=>by
  simp only[List.getElem?_cons_zero,Option.some.injEq]at h
  subst h
  simp[rt]
 |y::r,i+1,x,h=>by
  simp only[List.getElem?_cons_succ]at h
  simp only[rt,List.getElem?_cons_succ,List.drop_succ_cons]
  exact Jh h
theorem yn {α:Type} {zs ws:List α} {i:Nat} {e:α} (h:zs.take i=ws.take i) (hi:i < zs.length) (he:ws[i]? =some e):(zs.set i e).take (i+1)=ws.take (i+1):=by
 rw[fW he, ←h]
 have:(zs.set i e)[i]? =some e:=by simp[hi]
 rw[fW this]
 congr 1
 apply List.ext_getElem?
 intro n
 rw[List.getElem?_take,List.getElem?_take]
 split
 · rw[List.getElem?_set_ne (by omega)]
 · rfl
theorem MW {xs:Lz} {i:Nat} {y:Int} (h:xs[i]? =some [tU y]):DV (xs.drop i)=y.toNat:=by
 obtain⟨hlt,he⟩:=List.getElem?_eq_some_iff.1 h
 rw[List.drop_eq_getElem_cons hlt,he]
 rfl
theorem MX {xs:Lz} {i:Nat} (h:xs.length≤i):DV (xs.drop i)=0:=by
 rw[List.drop_eq_nil_of_le h];rfl
theorem Jx {xs:Lz} {k:Nat} {x y:Int} (h:xs[k]? =some [tU x]):nv (xs.set k [tU y])+4294967296 ^ k * x.toNat=nv xs+4294967296 ^ k * y.toNat:=by
 have hlt:=(List.getElem?_eq_some_iff.1 h).1
 have h2:(xs.set k [tU y])[k]? =some [tU y]:=by simp[hlt]
 have e1:(xs.set k [tU y]).take k=xs.take k:=by
  apply List.ext_getElem?
  intro n
  rw[List.getElem?_take,List.getElem?_take]
  split
  · rw[List.getElem?_set_ne (by omega)]
  · rfl
 have e2:(xs.set k [tU y]).drop (k+1)=xs.drop (k+1):=by
  apply List.ext_getElem?
  intro n
  rw[List.getElem?_drop,List.getElem?_drop,List.getElem?_set_ne (by omega)]
 rw[Cv h,Cv h2,e1,e2]
 simp only[Nat.mul_add]
 omega
def Lf (xs:Lz) (s i:Nat) (zs:Lz):Prop:=
 zs.length=xs.length+1∧Us zs∧nv zs=nv (xs.take i) * 2 ^ s∧(∃z:Int,zs[i]? =some [tU z]∧0≤z∧z < ((2 ^ s:Nat):Int))∧ ∀j,i < j→j < zs.length→zs[j]? =some [tU 0]
theorem Lf.zero {xs:Lz} {s:Nat}:Lf xs s 0 (List.replicate (xs.length+1) [tU 0]):=by
 refine⟨by simp,Us.replicate _,by rw[A7];simp[nv],⟨0,by simp,by omega,?_⟩,fun j _ hj=>?_⟩
 · have:0 < 2 ^ s:=Nat.pow_pos (by omega)
   omega
 · simp only[List.length_replicate]at hj
   simp[List.getElem?_replicate,hj]
theorem rE {x s:Nat} (hs:s≤32):x * 2 ^ s % 4294967296=(x % 2 ^ (32 - s)) * 2 ^ s:=by
 rw[←oN hs,Nat.mul_comm x (2 ^ s),Nat.mul_mod_mul_left,Nat.mul_comm]
theorem zM {x s:Nat} (hx:x < 4294967296):x * 2 ^ s / 4294967296 < 2 ^ s:=by
 rw[Nat.div_lt_iff_lt_mul (by omega),Nat.mul_comm (2 ^ s)]
 exact Nat.mul_lt_mul_of_pos_right hx (Nat.pow_pos (by omega))
theorem OI {x s:Nat} (hs:s≤32):x * 2 ^ s % 4294967296+2 ^ s≤4294967296:=by
 rw[rE hs]
 have h1:x % 2 ^ (32 - s)+1≤2 ^ (32 - s):=Nat.mod_lt _ (Nat.pow_pos (by omega))
 have h2:=Nat.mul_le_mul_right (2 ^ s) h1
 rw[Nat.add_mul,Nat.one_mul,Nat.mul_comm (2 ^ (32 - s)),oN hs]at h2
 exact h2
theorem Q8 {X X' lo hi z w n0 n1 n2 a B:Nat} (hX:X'=X * B) (e3:lo+B * hi=z+w) (a1:n1+X * z=n0+X * lo) (a2:n2+X' * 0=n1+X' * hi) (h3:n0=a):n2=a+X * w:=by
 have e4:X * (lo+B * hi)=X * (z+w):=by rw[e3]
 rw[Nat.mul_add,Nat.mul_add, ←Nat.mul_assoc, ←hX]at e4
 omega
theorem WR {x:Nat} {s:Nat} {z lo hi:Int} (hs:s≤31) (s9:x < 4294967296) (h5:0≤z) (h6:z < ((2 ^ s:Nat):Int)) (hlo:lo=z+((x * 2 ^ s % 4294967296:Nat):Int)) (hhi:hi=((x * 2 ^ s / 4294967296:Nat):Int)):
 (0≤lo∧lo < 4294967296)∧(0≤hi∧hi < ((2 ^ s:Nat):Int))∧hi < 4294967296∧lo.toNat+4294967296 * hi.toNat=z.toNat+x * 2 ^ s:=by
 have hB:2 ^ s≤2147483648:=Nat.pow_le_pow_right (n:=2) (by omega) hs
 have hh:=zM (x:=x) (s:=s) (by omega)
 have hlw:=OI (x:=x) (s:=s) (by omega)
 have ZA:=Nat.mod_add_div (x * 2 ^ s) 4294967296
 generalize x * 2 ^ s=W at *
 generalize 2 ^ s=Q at *
 omega
theorem MF {xs:Lz} {i:Nat} {x:Int} (hx:xs[i]? =some [tU x]):nv (xs.take (i+1))=nv (xs.take i)+4294967296 ^ i * x.toNat:=by
 have IE:=(List.getElem?_eq_some_iff.1 hx).1
 rw[fW hx,A8]
 simp only[nv,kA,List.length_take,Nat.mul_zero,Nat.add_zero]
 rw[Nat.min_eq_left (by omega)]
theorem WQ {xs zs:Lz} {s i:Nat} {x z lo hi:Int} (hx:xs[i]? =some [tU x]) (hz:zs[i]? =some [tU z]) (EG:(zs.set i [tU lo])[i+1]? =some [tU 0]) (h3:nv zs=nv (xs.take i) * 2 ^ s) (e3:lo.toNat+4294967296 * hi.toNat=z.toNat+x.toNat * 2 ^ s):
 nv ((zs.set i [tU lo]).set (i+1) [tU hi])=nv (xs.take (i+1)) * 2 ^ s:=by
 have a1:=Jx (y:=lo) hz
 have a2:=Jx (y:=hi) EG
 rw[MF hx,Nat.add_mul,Nat.mul_assoc]
 exact Q8 (B:=4294967296) (X':=4294967296 ^ (i+1)) (Nat.pow_succ ..) e3 a1 a2 h3
theorem Lf.next {xs zs:Lz} {s i:Nat} {x:Int} (h:Lf xs s i zs) (hs:s≤31) (hx:xs[i]? =some [tU x]) (hx0:0≤x) (s9:x < 4294967296) {z lo hi:Int} (hz:zs[i]? =some [tU z])
 (hlo:lo=z+((x.toNat * 2 ^ s % 4294967296:Nat):Int)) (hhi:hi=((x.toNat * 2 ^ s / 4294967296:Nat):Int)):Lf xs s (i+1) ((zs.set i [tU lo]).set (i+1) [tU hi]):=by
 obtain⟨h1,h2,h3,⟨z',h4,h5,h6⟩,h7⟩:=h
 rw[hz]at h4
 simp only[Option.some.injEq,List.cons.injEq,T.val.injEq,Value.int.injEq,true_and,and_true]at h4
 subst h4
 have IE:=(List.getElem?_eq_some_iff.1 hx).1
 have EG:(zs.set i [tU lo])[i+1]? =some [tU 0]:=by
  rw[List.getElem?_set_ne (by omega)]
  exact h7 (i+1) (by omega) (by omega)
 obtain⟨⟨c1,c2⟩,⟨c3,c4⟩,c5,e3⟩:=WR hs (by omega) h5 h6 hlo hhi
 refine⟨by simp[h1],(h2.set c1 c2).set c3 c5,WQ hx hz EG h3 e3,⟨hi,by rw[List.getElem?_set_self (by simp;omega)],c3,c4⟩,fun j hj hl=>?_⟩
 simp only[List.length_set]at hl
 rw[List.getElem?_set_ne (by omega),List.getElem?_set_ne (by omega)]
 exact h7 j (by omega) hl
theorem Lf.fin {xs zs:Lz} {s:Nat} (h:Lf xs s xs.length zs):zs.length=xs.length+1∧Us zs∧nv zs=nv xs * 2 ^ s:=by
 refine⟨h.1,h.2.1,?_⟩
 rw[h.2.2.1,List.take_length]
theorem QB {xs:Lz} (i k:Nat):4294967296 ^ i * dI xs i k≤nv xs:=by
 by_cases hi:i≤xs.length
 · rw[wP xs i]
   have:(xs.take i).length=i:=by simp;omega
   rw[this]
   have h2:=wP (xs.drop i) k
   have h3:dI xs i k≤nv (xs.drop i):=by unfold dI;omega
   have:=Nat.mul_le_mul_left (4294967296 ^ i) h3
   omega
 · unfold dI
   rw[List.drop_eq_nil_of_le (by omega)]
   simp[nv]
theorem Qp {us aZ_ bs:Lz} {s n i:Nat} (ha:Us aZ_) (hu:nv us=nv aZ_ * 2 ^ s) (hb: ∀e,bs.getLast? =some e→lb e≠0) (hn:bs.length=n) (vS:1≤n) (hi:i+n=aZ_.length+1) {V:Nat} (hV:V=nv bs * 2 ^ s):dI us i n < V:=by
 have h1:=zH ha
 have h2:=Cu hb (by intro e;subst e;simp at hn;omega)
 have h3:=QB (xs:=us) i n
 rw[hu]at h3
 have h4:nv aZ_ * 2 ^ s < 4294967296 ^ aZ_.length * 2 ^ s:=Nat.mul_lt_mul_of_pos_right h1 (Nat.pow_pos (by omega))
 have e:aZ_.length=i+(n - 1):=by omega
 rw[e,Nat.pow_add,Nat.mul_assoc]at h4
 have h5:=Nat.lt_of_mul_lt_mul_left (Nat.lt_of_le_of_lt h3 h4)
 rw[hV]
 refine Nat.lt_of_lt_of_le h5 (Nat.mul_le_mul_right _ ?_)
 rw[←hn];exact h2
theorem Si {bs:Lz} {s n:Nat} {x:Int} (hb:Us bs) (hn:bs.length=n) (vS:1≤n) (hx:bs[n - 1]? =some [tU x]) (hs:s≤32) (hxs:x.toNat < 2 ^ (32 - s)):nv bs * 2 ^ s < 4294967296 ^ n:=by
 have h1:=Cv hx
 rw[List.drop_eq_nil_of_le (by omega)]at h1
 simp only[nv,Nat.mul_zero,Nat.add_zero]at h1
 have h2:=zH (hb.take (n - 1))
 have e:(bs.take (n - 1)).length=n - 1:=by simp;omega
 rw[e]at h2
 have h3:nv bs < 4294967296 ^ (n - 1) * 2 ^ (32 - s):=by
  have:4294967296 ^ (n - 1) * (x.toNat+1)≤4294967296 ^ (n - 1) * 2 ^ (32 - s):=Nat.mul_le_mul_left _ hxs
  rw[Nat.mul_add,Nat.mul_one]at this
  omega
 have h4:=Nat.mul_lt_mul_of_pos_right h3 (Nat.pow_pos (n:=s) (show 0 < 2 by omega))
 rw[Nat.mul_assoc,Nat.mul_comm (2 ^ (32 - s)),oN hs]at h4
 have e2:4294967296 ^ n=4294967296 ^ (n - 1) * 4294967296:=by rw[←Nat.pow_succ];congr 1;omega
 rw[e2]
 exact h4
theorem Mm {vs:Lz} {n:Nat} (h:nv vs < 4294967296 ^ n) (hl:n≤vs.length):dI vs 0 n=nv vs:=by
 have h1:=wP vs n
 have e:(vs.take n).length=n:=by simp;omega
 rw[e]at h1
 unfold dI
 rw[List.drop_zero]
 have:nv (vs.drop n)=0:=by
  apply Nat.eq_zero_of_not_pos
  intro hp
  have:4294967296 ^ n * 1≤4294967296 ^ n * nv (vs.drop n):=Nat.mul_le_mul_left _ hp
  omega
 rw[this]at h1
 simpa using h1.symm
theorem MB {us:Lz} {i n V:Nat} {x:Int} (hU:Us us) (hx:us[i]? =some [tU x]) (h:dI us (i+1) n < V):dI us i (n+1) < 4294967296 * V:=by
 rw[I8 hx]
 have h1:IsU [tU x]:=hU _ (List.mem_of_getElem? hx)
 have:=h1.lt
 rw[kA]at this
 have:=Nat.mul_le_mul_left 4294967296 (Nat.succ_le_of_lt h)
 rw[Nat.succ_eq_add_one,Nat.mul_add]at this
 omega
end Go.aT.Cd
end
section
namespace Go.aT
open Go
variable {P:Program} {M A:Nat→Prop} {ρ:Env} {F:Nat→Prop} {st:St} {a:Act} {w:World}
abbrev Hu:V:= .w (.one (.t iK))
theorem eK.refl (A:Nat→Prop) (w:World):eK A A w w:=⟨Nat.le_refl _,fun _ _ hn=>⟨rfl,hn⟩⟩
theorem dK.jq {tm:TS} {hp:HS} {ctr:Nat} (t sz:Nat) (h:find tm t=some Hu):dK tm hp ctr ((t, .w (.one (.own ctr sz 0 0)))::tm) ((ctr, .row sz [])::hp) (ctr+4):=by
 intro M A ρ n a w hr
 have hfr:ρ ctr=none:=hr.fresh ctr (Nat.le_refl _)
 have cJ:cZ ρ (dl ρ ctr .jq):=cZ.jN hfr
 have hne: ∀ {id:Nat},id≠ctr→dl ρ ctr .jq id=ρ id:=fun bN=>by simp[dl,bN]
 refine⟨A,dl ρ ctr .jq,⟨hr.size,hr.defers,fun u v hv=>?_,fun id blk hb=>?_,fun id id' blk gf b h1 h2 r1 r2=>?_,fun id bN=>?_,hr.bound,hr.may,hr.ep⟩,cJ.Oi,gD.refl M A w⟩
 · simp only[aA]at hv
   split at hv
   · rename_i e
     subst e
     simp only[Option.some.injEq]at hv
     subst hv
     have hx:RW w A ρ (.one (.t iK)) (a.tmps.getD t undef):=hr.tmps t _ h
     obtain⟨h1,h2⟩:=hx
     have IG:RT w A iK (a.tmps.getD t undef):=h1
     generalize a.tmps.getD t undef=x at IG h2
     cases IG
     exact⟨.inr ⟨by simp[dl],rfl,rfl,rfl⟩,rfl⟩
   · exact(hr.tmps u v hv).keeps (eK.refl _ _) (fun _ _=>rfl) cJ
 · simp only[aA]at hb
   split at hb
   · rename_i e
     subst e
     simp only[Option.some.injEq]at hb
     subst hb
     exact⟨by simp, .inr ⟨by simp[dl],rfl⟩⟩
   · exact(hr.heap id blk hb).keeps (eK.refl _ _) (fun _ _=>rfl) cJ (fun _ h=>h) (fun _ _=>rfl)
 · simp only[aA]at h1 h2
   have n1:id≠ctr:=by intro e;subst e;simp[dl]at r1
   have n2:id'≠ctr:=by intro e;subst e;simp[dl]at r2
   rw[if_neg (fun e=>n1 e.symm)]at h1
   rw[if_neg (fun e=>n2 e.symm)]at h2
   rw[hne n1]at r1
   rw[hne n2]at r2
   exact hr.inj id id' blk gf b h1 h2 r1 r2
 · simp only[bu]at bN
   rw[hne (by omega)]
   exact hr.fresh id (by simp only[bu];omega)
theorem dK.aB {tm:TS} {hp:HS} {ctr:Nat} (t sz:Nat) (h:find tm t=some Hu):dK tm hp ctr ((t, .w (.one (.t (.aB sz []))))::tm) hp ctr:=by
 intro M A ρ n a w hr
 refine⟨A,ρ,⟨hr.size,hr.defers,fun u v hv=>?_,hr.heap,hr.inj,hr.fresh,hr.bound,hr.may,hr.ep⟩,iZ.refl _,gD.refl M A w⟩
 simp only[aA]at hv
 split at hv
 · rename_i e
   subst e
   simp only[Option.some.injEq]at hv
   subst hv
   exact(B3.one (.nil sz)).rw (hr.tmps t _ h)
 · exact hr.tmps u v hv
theorem Cc {α:Type} {l:List α} {k i:Nat} {e:α} (h:(l.take k)[i]? =some e):l[i]? =some e:=by
 rw[List.getElem?_take]at h
 split at h
 · exact h
 · simp at h
theorem dQ {n:Nat} {b:Rc} {Q:Exit→TS→HS→Nat→Prop} {tm uV:TS} {hp Bo:HS} {ctr c0:Nat} (keys:List Nat) (nest:List (Nat×Nat)) (ks:List Nat) (L:List (Nat×Nat)) (R:Nat→List V→List (Lz)→Prop) (m0:Nat) (Ay:List V) {gn:List (Lz)} {mj:TS} {qR:HS} {cB:Nat}
 (hW:dK tm hp ctr uV Bo c0)
 (hB:BB (vF keys nest uV Bo) fun S=>qI (S.tm uV) fun t=>rL (S.hp Bo) fun q=>S.ok=true∧t=mj∧q=qR∧S.ctr=cB)
 (GA:mj.length=keys.length) (h0:mj=kO ks Ay mj) (hH:oE L qR gn) (M3:R m0 Ay gn)
 (hstep: ∀m vs xss,R m vs xss→qI (kO ks vs mj) fun mX=>rL (WK L xss) fun hq=>X P n b (iM (bU fun bg aG c'=> ∃m' vs' xss',oE L aG xss'∧R m' vs' xss'∧bg=kO ks vs' mj∧c'=cB∧m' < m) Q) mX hq cB):
 ∃I:Nat→TS→HS→Nat→Prop,bU (fun tm hp c=> ∃m,I m tm hp c) tm hp ctr∧
  ∀m tm hp c,I m tm hp c→X P n b (iM (bU fun tm hp c=> ∃m',m' < m∧I m' tm hp c) Q) tm hp c:=by
 rw[oR,gH,jb]at hB
 obtain⟨hS,e1,e2,e3⟩:=hB
 refine⟨fun m bg aG c'=> ∃vs' xss',oE L aG xss'∧R m vs' xss'∧bg=kO ks vs' mj∧c'=cB, .sem hW (.mk' ⟨vF keys nest uV Bo,hS,m0,Ay,gn,by rw[e2];exact hH,M3,e1.trans h0,e3⟩),?_⟩
 rintro m bg hq c' ⟨vs,xss,hH',hR,rfl,rfl⟩
 have:=hstep m vs xss hR
 rw[gH,jb, ←hH'.eq]at this
 refine(congrArg (fun J=>X P n b (iM (bU J) Q) _ _ _) ?_).mp this
 funext bg aG ZP
 exact propext ⟨fun⟨m',vs',xss',h1,h2,h3,h4,h5⟩=>⟨m',h5,vs',xss',h1,h2,h3,h4⟩,fun⟨m',h5,vs',xss',h1,h2,h3,h4⟩=>⟨m',vs',xss',h1,h2,h3,h4,h5⟩⟩
theorem Rel.shrink {A A':Nat→Prop} {hp:HS} (h:Rel M A' ρ F st a w) (hA: ∀b,A b→A' b) (hsub: ∀id b,find hp id=some b→find st.heap id=some b) (hb: ∀id blk b,find hp id=some blk→ρ id=some (.gz b)→A b):Rel M A ρ F ⟨st.n,st.tmps,hp⟩ a w:=by
 have hk:eK A' A w w:=⟨Nat.le_refl _,fun b _ hn=>⟨rfl,fun h=>hn (hA b h)⟩⟩
 refine⟨h.size,h.defers,fun t v hv=>(h.tmps t v hv).keeps hk (fun _ _=>rfl) (cZ.refl _),fun id blk hf=>?_,fun id id' blk gf b h1 h2=>h.inj id id' blk gf b (hsub _ _ h1) (hsub _ _ h2),h.fresh,fun b hb=>h.bound b (hA b hb),h.may,h.ep.sub (fun _ _ h=>h) hA⟩
 have hh:=h.heap id blk (hsub _ _ hf)
 cases blk with
 |row sz xs=>
  obtain⟨h1,h2⟩:=hh
  refine⟨h1,?_⟩
  rcases h2 with⟨b,c,e,k1,k2,k3,k4,k5,k6⟩|h2
  · refine .inl ⟨b,c,e,k1,k2,hb id _ b hf k1,k4,k5,fun i el j k hi hj=>?_⟩
    obtain⟨x,hx,hc,hcell⟩:=k6 i el j k hi hj
    exact⟨x,hx,hc.keeps hk (fun _ _=>rfl) (cZ.refl _),hcell⟩
  · exact .inr h2
 |mp es clock=>
  obtain⟨b,en,k1,k2,k3,k4,k5,k6⟩:=hh
  refine⟨b,en,k1,k2,hb id _ b hf k1,k4,k5,fun i k c n hi=>?_⟩
  obtain⟨e,h1,h2,h3,h4,h5⟩:=k6 i k c n hi
  exact⟨e,h1,h2,h3,h4.keeps hk (fun _ _=>rfl) (cZ.refl _),h5⟩
theorem ES {id:Nat} {blk:bA} {b:Nat} (h:HB w M A ρ id blk) (hρ:ρ id=some (Loc.gz b)):A b∧b < w.heap.size:=by
 cases blk with
 |row sz xs=>
  obtain⟨_,h2⟩:=h
  rcases h2 with⟨b',c,e,k1,k2,k3,k4,_⟩|⟨h2,_⟩
  · rw[hρ]at k1
    simp only[Option.some.injEq,Loc.gz.injEq]at k1
    subst k1
    refine⟨k3,?_⟩
    rcases Nat.lt_or_ge b w.heap.size with h|h
    · exact h
    · rw[Array.getElem?_eq_none h]at k4;simp at k4
  · rw[hρ]at h2;simp at h2
 |mp es clock=>
  obtain⟨b',en,k1,k2,k3,k4,_⟩:=h
  rw[hρ]at k1
  simp only[Option.some.injEq,Loc.gz.injEq]at k1
  subst k1
  refine⟨k3,?_⟩
  rcases Nat.lt_or_ge b w.heap.size with h|h
  · exact h
  · rw[Array.getElem?_eq_none h]at k4;simp at k4
set_option maxHeartbeats 1000000 in
theorem Mo {t len n ctr ty sz:Nat} {ps:Array (Nat×Operand)} {l:List (Nat×W)} {tm:TS} {hp:HS} {xs:Lz} (hl:gM (St.get ⟨n,tm,hp⟩) ps.toList=some l)
 (he:dF P t len l ctr=some (.w (.one (.own ctr sz 0 len)),(ctr, .row sz (tr xs)))) (hlen:xs.length=len):j6 P n (.buildSlice t len ps) ty tm hp ctr (.w (.one (.t (.aB sz xs)))) hp:=by
 rintro⟨dst',op',ty',pos',after',guard'⟩ rfl rfl
 intro M A ρ a w hr
 have hn:bu ctr ctr:=Nat.le_refl _
 have aG:Ld w A ρ l (ps.map fun p=>(p.1,a.eval p.2)).toList:=by simpa using jA hr hl
 unfold dF at he
 split at he
 · rename_i e hu
   split at he
   · rename_i z hz
     split at he
     · rename_i hc
       simp only[Option.map_eq_some_iff,Prod.mk.injEq,V.w.injEq,W.one.injEq,C.own.injEq,bA.row.injEq,true_and,and_true]at he
       obtain⟨ys,hxs,rfl,_,rfl⟩:=he
       obtain⟨i,zv,hi,JT,hzs,MO,td⟩:=fE hz w A ρ
       obtain⟨vs,hvs,hE⟩:=oo hxs (nn td len) aG
       have XD:=tC hxs
       simp only[List.length_replicate]at XD
       have hle:(tr xs).length * z.length≤vs.size:=by rw[hE.2.1];exact Nat.le_refl _
       obtain⟨h1,h2⟩:=hr.alloc hn (sz:=z.length) (xs:=tr xs) (c:=vs) (e:=e) hE.1 hle hE.2.2
       have hold: ∀id blk b,find hp id=some blk→dl ρ ctr (.gz w.heap.size) id=some (.gz b)→A b:=by
        intro id blk b hf hρ
        have hh:=hr.heap id blk hf
        by_cases bN:id=ctr
        · subst bN
          exfalso
          have hfr:=hr.fresh id hn
          cases blk with
          |row sz xs=>
           rcases hh.2 with⟨b',_,_,k1,_⟩|⟨k1,_⟩
           · rw[hfr]at k1;simp at k1
           · rw[hfr]at k1;simp at k1
          |mp es clock=>
           obtain⟨b',en,k1,_⟩:=hh
           rw[hfr]at k1;simp at k1
        · have:ρ id=some (.gz b):=by simpa[dl,bN]using hρ
          exact(ES hh this).1
       have cI:Rel M A (dl ρ ctr (.gz w.heap.size)) (bu (ctr+4)) ⟨n,tm,hp⟩ a (w.alloc (.cells vs e)):=by
        refine Rel.sub (Rel.shrink h1 (A:=A) (hp:=hp) (fun b hb=> .inl hb) (fun id b hf=>?_) hold) (fun id bN=>⟨by simp only[bu]at bN⊢;omega,by simp only[bu]at bN;omega⟩)
        simp only[aA]
        split
        · rename_i e1
          subst e1
          exfalso
          have hh:=hr.heap ctr b hf
          have hfr:=hr.fresh ctr hn
          cases b with
          |row sz xs=>
           rcases hh.2 with⟨b',_,_,k1,_⟩|⟨k1,_⟩
           · rw[hfr]at k1;simp at k1
           · rw[hfr]at k1;simp at k1
          |mp es clock=>
           obtain⟨b',en,k1,_⟩:=hh
           rw[hfr]at k1;simp at k1
        · exact hf
       have vS:¬ (len * i.size > 2 ^ 24):=by rw[MO];have:=hc.1;omega
       have hsize:(sizeOf e).run P w= .ok i.size w:=by simp[sizeOf,typeInfo,hi]
       rw[←MO]at hvs
       have hrun:(Instr.buildSlice t len (ps.map fun p=>(p.1,a.eval p.2))).run P w= .ok (.slice (some ⟨w.heap.size,0,none⟩) len len) (w.alloc (.cells vs e)):=by
        generalize (ps.map fun p=>(p.1,a.eval p.2))=qs at hvs
        simp only[Instr.buildSlice,Sem.run_bind,run_underlying hu,Result.andThen_ok,hsize,vS,if_false]
        by_cases h0:len * i.size=0
        · rw[h0,wH,Array.map_empty]at hvs
          simp[h0,wH,hvs,newRow]
        · simp[h0,dW hi JT,hvs,newRow]
       have hnew:(w.alloc (.cells vs e)).heap[w.heap.size]? =some (.cells vs e (0,0)):=heap_alloc_new w _
       have hkA:eK A A w (w.alloc (.cells vs e)):=⟨by simp,fun b hlt hn=>⟨RowKit.Below.heap_alloc w _ b hlt,hn⟩⟩
       have hval:RV (w.alloc (.cells vs e)) A (dl ρ ctr (.gz w.heap.size)) (.w (.one (.t (.aB z.length xs)))) (.slice (some ⟨w.heap.size,0,none⟩) len len):=by
        refine⟨RT.aB (fun i j=>vs.getD (i * z.length+j) undef) hlen.symm (Nat.le_refl _) (by simp) (fun hb=>by have:=hr.bound _ hb;omega) (fun el hel=>?_) (fun i el j c hi hj=>?_) (fun i el j c hi hj=>?_),rfl⟩
        · have:=hE.1 (el.map .t) (by simp only[tr,List.mem_map];exact⟨el,hel,rfl⟩)
          simpa using this
        · obtain⟨x,hx,_,_⟩:=hE.2.2 i (el.map .t) j (.t c) (by simp[tr,hi]) (by simp[hj])
          simp only[World.cell?,hnew,Option.isSome_none,Bool.false_eq_true,if_false,Nat.zero_add,hx,Array.getD_eq_getD_getElem?,Option.getD_some]
        · obtain⟨x,hx,hrc,_⟩:=hE.2.2 i (el.map .t) j (.t c) (by simp[tr,hi]) (by simp[hj])
          simp only[Array.getD_eq_getD_getElem?,hx,Option.getD_some]
          have afC:RT w A c x:=hrc
          exact afC.keeps hkA
       exact pE.of (s:=Instr.buildSlice t len (ps.map fun p=>(p.1,a.eval p.2))) (by
        show(Bind.bind (Instr.buildSlice t len (ps.map fun p=>(p.1,a.eval p.2))) fun v=>Pure.pure (Next.value v)).run P w=_
        rw[Sem.run_bind]
        simp only[Sem.run_pure]) hrun cI hval (dj.alloc M w _) h2 (bH.refl A w)
     · simp at he
   · simp at he
 · simp at he
end Go.aT
end
section
namespace Go.aT.Cd
open Go Go.Proofs
set_option maxRecDepth 100000
theorem acM (a:Int) (s:Nat) (h0:0≤a) (h1:a < 4294967296) (hs:s≤31):IntKind.u64.wrap (a * 2 ^ (min ((s:Int)).toNat IntKind.u64.bits))=((a.toNat * 2 ^ s:Nat):Int):=by
 rw[I5 a s (by omega)]
 have hB:2 ^ s≤2147483648:=Nat.pow_le_pow_right (n:=2) (by omega) hs
 have h2:a.toNat * 2 ^ s≤4294967295 * 2147483648:=Nat.mul_le_mul (by omega) hB
 have e:a * ((2 ^ s:Nat):Int)=((a.toNat * 2 ^ s:Nat):Int):=by
  rw[Int.natCast_mul];congr 1;omega
 rw[e]
 omega
theorem QS {z:Int} {b k:Nat} (hz0:0≤z) (hz:z < ((2 ^ k:Nat):Int)) (hb:b * 2 ^ k < 4294967296) (hk:2 ^ k≤4294967296):
 IntKind.u32.wrap ((BitVec.ofInt IntKind.u32.bits z|||BitVec.ofInt IntKind.u32.bits ((b * 2 ^ k:Nat):Int)).toNat:Int)=IntKind.u32.wrap (z+((b * 2 ^ k:Nat):Int)):=by
 have e: ∀x:Int,0≤x→x < 4294967296→(BitVec.ofInt IntKind.u32.bits x).toNat=x.toNat:=by
  intro x h0 h1
  simp only[BitVec.toNat_ofInt,IntKind.bits]
  congr 1
  omega
 rw[BitVec.toNat_or,e _ hz0 (by omega),e _ (by omega) (by omega)]
 have:=Ju (a:=z.toNat) (b:=b) k (by omega)
 rw[Int.toNat_natCast,this]
 congr 1
 omega
def GF (xs:Lz) (s:Nat) (m:Nat) (vs:List V) (xss:List (Lz)):Prop:= ∃ (i:Nat) (zs:Lz),i≤xs.length∧m=xs.length - i∧vs=[iV .i64 (i:Int)]∧xss=[zs]∧Lf xs s i zs
theorem GF.next {xs zs:Lz} {s i:Nat} {x z:Int} (h:Lf xs s i zs) (hs:s≤31) (hl:xs.length≤1000000) (hi:i < xs.length) (hx:xs[((i:Int)).toNat]? =some [tU x]) (hx0:0≤x) (s9:x < 4294967296) (hz:zs[0+((i:Int)).toNat]? =some [tU z]):
 GF xs s (xs.length - (i+1)) [iV .i64 (IntKind.i64.wrap ((i:Int)+1))]
  [(zs.set (0+((i:Int)).toNat) [tU (IntKind.u32.wrap ((BitVec.ofInt IntKind.u32.bits z|||BitVec.ofInt IntKind.u32.bits (IntKind.u32.wrap (IntKind.u64.wrap (IntKind.u64.wrap x * 2 ^ (min ((s:Int)).toNat IntKind.u64.bits))))).toNat:Int))]).set (0+(IntKind.i64.wrap ((i:Int)+1)).toNat)
    [tU (IntKind.u32.wrap ((IntKind.u64.wrap (IntKind.u64.wrap x * 2 ^ (min ((s:Int)).toNat IntKind.u64.bits))).fdiv (2 ^ (min (32:Int).toNat IntKind.u64.bits))))]]:=by
 have e0:((i:Int)).toNat=i:=by omega
 have e1:IntKind.i64.wrap ((i:Int)+1)=((i+1:Nat):Int):=by rw[bh (by omega) (by omega)];rfl
 rw[e0]at hx
 rw[e0,Nat.zero_add]at hz
 rw[u64_in (n:=x) hx0 (by omega),acM x s hx0 s9 hs,e1,e0,Nat.zero_add,Int.toNat_natCast,Nat.zero_add,FL]
 refine⟨i+1,_,by omega,rfl,rfl,rfl,h.next hs hx hx0 s9 hz ?_ ?_⟩
 · have hh:=h
   obtain⟨_,_,_,⟨z',h4,h5,h6⟩,_⟩:=hh
   rw[hz]at h4
   simp only[Option.some.injEq,List.cons.injEq,T.val.injEq,Value.int.injEq,true_and,and_true]at h4
   subst h4
   have hB:2 ^ s≤2147483648:=Nat.pow_le_pow_right (n:=2) (by omega) hs
   have e2:IntKind.u32.wrap ((x.toNat * 2 ^ s:Nat):Int)=((x.toNat * 2 ^ s % 4294967296:Nat):Int):=by
    rw[mc];omega
   have hlw:=OI (x:=x.toNat) (s:=s) (by omega)
   rw[e2,rE (by omega),QS h5 h6 (by rw[←rE (by omega)];omega) (by omega),u32_in (by omega) (by rw[←rE (by omega)];omega)]
 · have:=zM (x:=x.toNat) (s:=s) (by omega)
   have hB:2 ^ s≤2147483648:=Nat.pow_le_pow_right (n:=2) (by omega) hs
   rw[u32_in (by omega) (by omega)]
   omega
theorem MG {xs zs:Lz} {s i:Nat} (h:Lf xs s i zs) (e:i=xs.length):zs.length=xs.length+1∧Us zs∧nv zs=nv xs * 2 ^ s:=by subst e;exact h.fin
theorem Bc (xs:Lz) (s:Nat) (hx:Us xs) (hl:xs.length≤400000) (hs:s≤31): ∃ts hout,Ar Tryz.prog 251 [oL 1 xs,oI s] (aL ts) hout∧GN 1 (fun ys=>ys.length=xs.length+1∧Us ys∧nv ys=nv xs * 2 ^ s) ts hout:=by
 refine rN Tryz.func251 ?_
 repeat' (conv=>whnf
          first
  |(refine au (fun h=>?_) (fun h=>?_))
  |(refine aq hx (by omega) (by omega) ?_;rintro _ ⟨x,rfl,hx0,s9⟩ hs1)
  |(refine And.intro ⟨(by first|omega|(simp (disch:=omega) only[aa];omega)),(by first|omega|(simp (disch:=omega) only[aa];omega)),(by first|omega|(simp (disch:=omega) only[aa];omega)),(by first|omega|(simp (disch:=omega) only[aa];omega))⟩ ?_)
  |(refine And.intro (show(0:Int)≤(s:Int) by omega) ?_)
  |(refine And.intro ⟨(by first|omega|(simp (disch:=omega) only[aa];omega)),(by first|omega|(simp (disch:=omega) only[aa];omega))⟩ ?_)
  |(refine And.intro (by omega) ?_)
  |(refine bJ (xs:=zs) rfl hf.2.1 (by have:=hf.1;omega) ?_;rintro _ ⟨z,rfl,hz0,w6⟩ bW)
  |(refine bJ (xs:=zs.set _ [tU _]) (az.set rfl _ [tU _]) (hf.2.1.set (eM _) (fF _)) (by have:=hf.1;simp (disch:=omega) only[List.length_set,aa];omega) ?_;rintro _ ⟨z3,rfl,_,_⟩ _)
  |exact gN rfl rfl rfl (xs:=zs) rfl (by have:=hf.1;simp (disch:=omega) only[aa];omega) (MG hf (by omega))
  |(apply bp [1,5,13,14,15] [] [15] [(4,1)] (GF xs s) (xs.length) [iV .i64 0];(conv=>whnf);exact⟨rfl,rfl,rfl,rfl⟩;exact rfl;exact rfl;exact .cons (az.av (az.replicate _ [tU 0]) _) .nil;exact⟨0,_,by omega,rfl,rfl,rfl,by rw[bh (by omega) (by omega),show((xs.length:Int)+1).toNat=xs.length+1 by omega];exact Lf.zero⟩;rintro _ _ _ ⟨i,zs,hi,rfl,rfl,rfl,hf⟩)
  |(refine ak [1,5,13,14,15] [] ?_;(conv=>whnf);exact⟨rfl,_,[_],_, .cons (az.av (az.set (az.set (xs:=zs) rfl _ [tU _]) _ [tU _]) _) .nil,GF.next hf hs (by omega) (by omega) hs1 hx0 s9 (by assumption),rfl,rfl,by omega⟩))
 all_goals (conv=>whnf)
theorem Wn {a b:Int} (ha0:0≤a) (ha:a < 4294967296) (hb0:0≤b) (hb:b < 4294967296):
 IntKind.u64.wrap ((BitVec.ofInt IntKind.u64.bits a|||BitVec.ofInt IntKind.u64.bits (b * 4294967296)).toNat:Int)=b * 4294967296+a:=by
 rw[←QU ha0 ha hb0 hb]
 rw[BitVec.toNat_or,BitVec.toNat_or,Nat.or_comm]
theorem zx {W:Int} {N s:Nat} (hs:s≤31) (hW:W=(N:Int)):IntKind.u32.wrap (W.fdiv (2 ^ (min ((s:Int)).toNat IntKind.u64.bits)))=((N / 2 ^ s % 4294967296:Nat):Int):=by
 rw[sN _ s (by omega),mc,hW]
 have e1:(N:Int) / ((2 ^ s:Nat):Int)=((N / 2 ^ s:Nat):Int):=rfl
 rw[e1]
 omega
theorem G9 {x y:Int} {s:Nat} (hx0:0≤x) (s9:x < 4294967296) (hy0:0≤y) (zP:y < 4294967296) (hs:s≤31):
 IntKind.u32.wrap ((IntKind.u64.wrap ((BitVec.ofInt IntKind.u64.bits (IntKind.u64.wrap x)|||BitVec.ofInt IntKind.u64.bits (IntKind.u64.wrap (IntKind.u64.wrap y * 2 ^ (min (32:Int).toNat IntKind.u64.bits)))).toNat:Int)).fdiv (2 ^ (min ((s:Int)).toNat IntKind.u64.bits)))=(((x.toNat+4294967296 * y.toNat) / 2 ^ s % 4294967296:Nat):Int):=by
 apply zx hs
 rw[u64_in hx0 (by omega),u64_in hy0 (by omega),I6,Int.emod_eq_of_lt (by omega) (by omega),Wn hx0 s9 hy0 zP]
 omega
def yb (us:Lz) (n s:Nat) (m:Nat) (vs:List V) (xss:List (Lz)):Prop:= ∃ (i:Nat) (zs:Lz),i≤n∧m=n - i∧vs=[iV .i64 (i:Int)]∧xss=[us,zs]∧zs.length=n∧Us zs∧zs.take i=(rt s (us.take n)).take i
theorem IW {us:Lz} {n i:Nat} (h:i < n):(us.take n)[i]? =us[i]? :=by rw[List.getElem?_take,if_pos h]
theorem yb.next {us zs:Lz} {n s i:Nat} {x y v:Int} (hn:n≤us.length) (hl:us.length≤1000000) (hz:zs.length=n) (hU:Us zs) (ht:zs.take i=(rt s (us.take n)).take i) (hi:i < n) (hx:us[0+((i:Int)).toNat]? =some [tU x])
 (hy:DV ((us.take n).drop (i+1))=y.toNat) (hv:v=(((x.toNat+4294967296 * y.toNat) / 2 ^ s % 4294967296:Nat):Int)):
 yb us n s (n - (i+1)) [iV .i64 (IntKind.i64.wrap ((i:Int)+1))] [us,zs.set (0+((i:Int)).toNat) [tU v]]:=by
 have e0:0+((i:Int)).toNat=i:=by omega
 rw[e0]at hx⊢
 rw[←IW hi]at hx
 refine⟨i+1,_,by omega,rfl,by rw[bh (by omega) (by omega)];rfl,rfl,by simp[hz],hU.set (by omega) (by omega),?_⟩
 refine yn ht (by omega) ?_
 rw[Jh hx,kA,hy,hv]
theorem Jk {us:Lz} {n i:Nat} {y:Int} (sB:(i:Int) < n) (hi:IntKind.i64.wrap ((i:Int)+1) < (n:Int)) (h:us[0+(IntKind.i64.wrap ((i:Int)+1)).toNat]? =some [tU y]) (hl:n≤1000000):DV ((us.take n).drop (i+1))=y.toNat:=by
 have e0:0+(IntKind.i64.wrap ((i:Int)+1)).toNat=i+1:=by rw[bh (by omega) (by omega)];omega
 rw[bh (by omega) (by omega)]at hi
 rw[e0, ←IW (n:=n) (i:=i+1) (by omega)]at h
 exact MW h
theorem He {us zs:Lz} {n s i k:Nat} (hs:s≤31) (hU:Us us) (hn:n≤us.length) (hz:zs.length=n) (ht:zs.take i=(rt s (us.take n)).take i) (hi:n≤i) (hT:DH zs (zs.take k)):Nm n (zs.take k)∧nv (zs.take k)=dI us 0 n / 2 ^ s:=by
 refine⟨hT.nm (by omega),?_⟩
 rw[hT.2.2.1]
 have e:zs=rt s (us.take n):=by
  rw[List.take_of_length_le (by omega),List.take_of_length_le (by rw[Jg];simp;omega)]at ht
  exact ht
 rw[e,OB (by omega) (hU.take n)]
 simp[dI]
theorem yF (us:Lz) (n s:Nat) (hx:Us us) (hn:n≤us.length) (hl:us.length≤400001) (hs:s≤31): ∃ts hout,Fn Tryz.prog 253 [.one (.own 0 1 0 n),oI s] [(0, .row 1 (tr us))] (aL ts) hout∧YT 1 us (fun ts=> ∃ys,ts=[oL 1 ys]∧Nm n ys∧nv ys=dI us 0 n / 2 ^ s) ts hout:=by
 refine dD Tryz.func253 ?_
 repeat' (conv=>whnf
          first
  |(refine au (fun h=>?_) (fun h=>?_))
  |(refine And.intro ⟨(by first|omega|(simp (disch:=omega) only[aa];omega)),(by first|omega|(simp (disch:=omega) only[aa];omega)),(by first|omega|(simp (disch:=omega) only[aa];omega)),(by first|omega|(simp (disch:=omega) only[aa];omega))⟩ ?_)
  |(refine And.intro (show(0:Int)≤(s:Int) by omega) ?_)
  |(refine And.intro ⟨(by first|omega|(simp (disch:=omega) only[aa];omega)),(by first|omega|(simp (disch:=omega) only[aa];omega))⟩ ?_)
  |(refine And.intro (by omega) ?_)
  |(refine bJ (xs:=us) (i:=0+((i:Int)).toNat) rfl hx (by omega) ?_;rintro _ ⟨x,rfl,hx0,s9⟩ hs1)
  |(refine bJ (xs:=us) rfl hx (by first|omega|(simp (disch:=omega) only[aa];omega)) ?_;rintro _ ⟨y,rfl,hy0,zP⟩ bW)
  |(refine bJ (xs:=zs) rfl hU (by omega) ?_;rintro _ ⟨z,rfl,hz0,w6⟩ _)
  |(refine GU rfl rfl (dY zs hU (by omega)) (by simp[W.av,C.av,bt,hz]) rfl ?_;rintro _ ⟨k,rfl,hk,hT⟩)
  |exact ahM rfl rfl rfl rfl (ys:=zs) rfl (by omega) rfl rfl ⟨_,rfl,He hs hx hn hz ht (by omega) (by simpa using hT)⟩
  |(apply bp [0,1,5,12,13,14] [] [14] [(0,1),(4,1)] (yb us n s) (n) [iV .i64 0];(conv=>whnf);exact⟨rfl,rfl,rfl,rfl⟩;exact rfl;exact rfl;exact .cons (az.av rfl _) (.cons (az.av (az.replicate _ [tU 0]) _) .nil);exact⟨0,_,by omega,rfl,rfl,rfl,by simp,Us.replicate _,by simp⟩;rintro _ _ _ ⟨i,zs,hi,rfl,rfl,rfl,hz,hU,ht⟩)
  |(refine ak [0,1,5,12,13,14] [] ?_;(conv=>whnf);exact⟨rfl,_,[_],_, .cons (az.av rfl _) (.cons (az.av (az.set (xs:=zs) rfl _ [tU _]) _) .nil),(by first|exact yb.next hn (by omega) hz hU ht (by omega) hs1 (Jk (by omega) h bW (by omega)) (G9 hx0 s9 hy0 zP hs)|exact yb.next (y:=0) hn (by omega) hz hU ht (by omega) hs1 (MX (by simp;rw[bh (by omega) (by omega)]at h;omega)) (zx hs (by rw[u64_in hx0 (by omega)];omega))),rfl,rfl,by omega⟩))
 all_goals (conv=>whnf)
end Go.aT.Cd
end
section
namespace Go.aT.Cd
open Go
theorem wi {xs:Lz} (h:Us xs) {k:Nat} (hk:k < xs.length): ∃x:Int,xs[k]? =some [tU x]∧0≤x∧x < 4294967296:=by
 obtain⟨x,e,h0,h1⟩:=h _ (List.getElem_mem hk)
 exact⟨x,by rw[←e];simp[hk],h0,h1⟩
theorem sD {rows:List (List C)} {xs:Lz} {i j:Nat} {e:List T} {K:List C→Prop} (h:az rows xs) (he:xs[j]? =some e) (hij:i=j) (hk:K (e.map .t)):qu rows i K:=by
 subst hij
 have:rows[i]? =some (e.map .t):=by rw[h];simp[tr,he]
 simp only[qu,this]
 exact hk
structure YX (U V un u1 u0 v1 v0:Nat):Prop where
 first:U / V≤(un * 4294967296+u1) / v1
 step: ∀q r,q * v1+r=un * 4294967296+u1→U / V≤q→(4294967296≤q∨r * 4294967296+u0 < q * v0)→U / V < q
 fin: ∀q r,q * v1+r=un * 4294967296+u1→¬ (r < 4294967296∧(4294967296≤q∨r * 4294967296+u0 < q * v0))→q < 4294967296∧q * V < U+V
theorem three {a X B u0 u1 un:Nat}:a+X * u0+X * B * u1+X * B * B * un=a+((un * B+u1) * B+u0) * X:=by grind
theorem two {a X B u0 u1:Nat}:a+X * u0+X * B * u1=a+(u1 * B+u0) * X:=by grind
theorem Ks {U V X B un u1 u0 v1 v0 a b:Nat} (hB:0 < B) (hX:0 < X) (hU:U=a+((un * B+u1) * B+u0) * X) (ha:a < X) (hV:V=b+(v1 * B+v0) * X) (hb:b < X) (CT:1≤v1) (ID:v0 < B) (mC:u0 < B) (hlt:U < B * V):
 U / V≤(un * B+u1) / v1∧(∀q r,q * v1+r=un * B+u1→U / V≤q→(B≤q∨r * B+u0 < q * v0)→U / V < q)∧(∀q r,q * v1+r=un * B+u1→¬ (r < B∧(B≤q∨r * B+u0 < q * v0))→q < B∧q * V < U+V):=by
 generalize un * B+u1=top at *
 have hVp:0 < V:=by
  have:0 < (v1 * B+v0) * X:=Nat.mul_pos (Nat.add_pos_left (Nat.mul_pos CT hB) _) hX
  omega
 have hQV:U / V * V≤U:=Nat.div_mul_le_self U V
 have hQB:U / V < B:=by
  rw[Nat.div_lt_iff_lt_mul hVp];exact hlt
 have hU1:(top * B+u0) * X≤U:=by omega
 have TP:U < (top * B+u0+1) * X:=by rw[Nat.add_mul (top * B+u0) 1 X,Nat.one_mul];omega
 have XV:(v1 * B+v0) * X≤V:=by omega
 have ZC:V < (v1 * B+v0+1) * X:=by rw[Nat.add_mul (v1 * B+v0) 1 X,Nat.one_mul];omega
 have Xe:top < v1 * B+B:=by
  have h1:(top * B+u0) * X < B * ((v1 * B+v0+1) * X):=Nat.lt_of_le_of_lt hU1 (Nat.lt_trans hlt (Nat.mul_lt_mul_of_pos_left ZC hB))
  rw[←Nat.mul_assoc]at h1
  have h2:=Nat.lt_of_mul_lt_mul_right h1
  have h3:B * (v1 * B+v0+1)≤B * (v1 * B+B):=Nat.mul_le_mul_left B (by omega)
  have h4:top * B < (v1 * B+B) * B:=by rw[Nat.mul_comm (v1 * B+B) B];omega
  exact Nat.lt_of_mul_lt_mul_right h4
 refine⟨?_,?_,?_⟩
 · refine Ih (X:=B * X) ?_ ?_ rfl CT hQV
   · refine Nat.lt_of_lt_of_le TP ?_
     rw[←Nat.mul_assoc]
     refine Nat.mul_le_mul_right X ?_
     rw[Nat.add_mul,Nat.one_mul];omega
   · refine Nat.le_trans ?_ XV
     rw[←Nat.mul_assoc]
     exact Nat.mul_le_mul_right X (by omega)
 · intro q r h1 h2 h3
   exact Kr TP XV h1 hQV hQB h2 h3
 · intro q r h1 h2
   exact Nd hX hB hU1 XV ZC ID CT Xe h1 h2
theorem Sl {us vs:Lz} {i n:Nat} {un u1 u0 v1 v0:Int} (hn:2≤n) (hU:Us us) (hV:Us vs) (h1:us[i+n]? =some [tU un]) (h2:us[i+(n - 1)]? =some [tU u1]) (h3:us[i+(n - 2)]? =some [tU u0]) (h4:vs[n - 1]? =some [tU v1]) (h5:vs[n - 2]? =some [tU v0])
 (CT:0 < v1) (hlt:dI us i (n+1) < 4294967296 * dI vs 0 n):YX (dI us i (n+1)) (dI vs 0 n) un.toNat u1.toNat u0.toNat v1.toNat v0.toNat:=by
 obtain⟨k,rfl⟩: ∃k,n=k+2:=⟨n - 2,by omega⟩
 simp only[Nat.add_sub_cancel,show k+2 - 1=k+1 by omega]at h2 h3 h4 h5
 have b0:=(hU _ (List.mem_of_getElem? h3)).lt
 have c0:=(hV _ (List.mem_of_getElem? h5)).lt
 rw[kA]at b0 c0
 have e1:dI us i (k+2+1)=dI us i k+4294967296 ^ k * u0.toNat+4294967296 ^ k * 4294967296 * u1.toNat+4294967296 ^ k * 4294967296 * 4294967296 * un.toNat:=by
  rw[dR h1,dR h2,dR h3,show 4294967296 ^ (k+2)=4294967296 ^ k * 4294967296 * 4294967296 by rw[Nat.pow_succ,Nat.pow_succ],Nat.pow_succ]
 have h5':vs[0+k]? =some [tU v0]:=by rw[Nat.zero_add];exact h5
 have R8:vs[0+(k+1)]? =some [tU v1]:=by rw[Nat.zero_add];exact h4
 have e2:dI vs 0 (k+2)=dI vs 0 k+4294967296 ^ k * v0.toNat+4294967296 ^ k * 4294967296 * v1.toNat:=by
  rw[dR R8,dR h5',Nat.pow_succ]
 rw[three]at e1
 rw[two]at e2
 obtain⟨a,b,c⟩:=Ks (B:=4294967296) (X:=4294967296 ^ k) (by omega) (PY k) e1 (sP hU i k) e2 (sP hV 0 k) (by omega) c0 b0 hlt
 exact⟨a,b,c⟩
theorem wS {q y:Int} (CW:0≤q) (hq:q < 4294967296) (hy0:0≤y) (hy:y < 4294967296):0≤q * y∧q * y≤18446744065119617025:=by
 refine⟨Int.mul_nonneg CW hy0,?_⟩
 have h1:q * y≤4294967295 * y:=Int.mul_le_mul_of_nonneg_right (by omega) hy0
 omega
theorem Cf {u lo b d:Int} (mC:0≤u) (hu:u < 4294967296) (F6:0≤lo) (hl:lo < 4294967296) (hb0:0≤b) (hb:b≤1) (hd:d=IntKind.u64.wrap (IntKind.u64.wrap (u - lo) - b)):
 ∃b':Int,d.fdiv (2 ^ (min (63:Int).toNat IntKind.u64.bits))=b'∧0≤b'∧b'≤1∧u+b' * 4294967296=IntKind.u32.wrap d+lo+b∧(b'=0↔lo+b≤u):=by
 rw[V5,mc,hd,sG,sG]
 refine⟨_,rfl,?_⟩
 omega
structure nh (us vs fU:Lz) (i k q:Nat) (c b:Int):Prop where
 len:fU.length=us.length
 ok:Us fU
 b0:0≤b
 b1:b≤1
 c0:0≤c
 c1:c < 4294967296
 eq:dI us i k+(b.toNat+c.toNat) * 4294967296 ^ k=dI fU i k+q * dI vs 0 k
 rest: ∀j,i+k≤j→fU[j]? =us[j]?
theorem nh.zero {us vs:Lz} {i q:Nat} (hU:Us us):nh us vs us i 0 q 0 0:=
 ⟨rfl,hU,by omega,by omega,by omega,by omega,by simp[Ck],fun _ _=>rfl⟩
theorem nh.next {us vs fU:Lz} {i k q:Nat} {c b y u c1 d b' c':Int} (h:nh us vs fU i k q c b) (hq:q < 4294967296) (hy:vs[k]? =some [tU y]) (hy0:0≤y) (zP:y < 4294967296) (hu:fU[i+k]? =some [tU u]) (mC:0≤u) (uw:u < 4294967296)
 (ph:c1=c+(q:Int) * y) (hd:d=IntKind.u64.wrap (IntKind.u64.wrap (u - IntKind.u32.wrap c1) - b)) (hb':b'=d.fdiv (2 ^ (min (63:Int).toNat IntKind.u64.bits))) (EP:c'=c1 / 4294967296):
 nh us vs (fU.set (i+k) [tU (IntKind.u32.wrap d)]) i (k+1) q c' b':=by
 obtain⟨m0,m1⟩:=wS (q:=(q:Int)) (y:=y) (by omega) (by omega) hy0 zP
 obtain⟨b2,e1,e2,e3,e4,_⟩:=Cf (u:=u) (lo:=IntKind.u32.wrap c1) (b:=b) mC uw (eM _) (fF _) h.b0 h.b1 hd
 rw[e1]at hb'
 subst hb'
 have hlt:=(List.getElem?_eq_some_iff.1 hu).1
 have hlo:IntKind.u32.wrap c1=c1 % 4294967296:=mc _
 have agU:=h.c0
 have agT:=h.c1
 have ayF:=h.b0
 refine⟨by simp[h.len],h.ok.set (eM _) (fF _),e2,e3,by omega,?_,?_,fun j hj=>?_⟩
 · omega
 · have g1:dI us i (k+1)=dI us i k+4294967296 ^ k * u.toNat:=dR (by rw[←h.rest (i+k) (Nat.le_refl _)];exact hu)
   have hs:(fU.set (i+k) [tU (IntKind.u32.wrap d)])[i+k]? =some [tU (IntKind.u32.wrap d)]:=by simp[hlt]
   have g2:=dR hs
   rw[q8 (.inr (Nat.le_refl _))]at g2
   have hy':vs[0+k]? =some [tU y]:=by rw[Nat.zero_add];exact hy
   have g3:=dR hy'
   rw[g1,g2,g3,Nat.pow_succ,Nat.mul_comm (4294967296 ^ k) 4294967296]
   refine IX (carry:=c.toNat) (borrow:=b.toNat) (lo:=(c1 % 4294967296).toNat) h.eq ?_ ?_
   · have hm:q * y.toNat=((q:Int) * y).toNat:=by
      rw[show(q:Int) * y=((q * y.toNat:Nat):Int) by rw[Int.natCast_mul];congr 1;omega]
      rfl
     rw[hm,EP]
     omega
   · have:=eM d
     omega
 · rw[List.getElem?_set_ne (by omega)]
   exact h.rest j (by omega)
structure tT (us vs fU:Lz) (i k:Nat) (c:Int):Prop where
 len:fU.length=us.length
 ok:Us fU
 c0:0≤c
 c1:c≤1
 eq:dI us i k+dI vs 0 k=dI fU i k+c.toNat * 4294967296 ^ k
 rest: ∀j,i+k≤j→fU[j]? =us[j]?
theorem tT.zero {us vs:Lz} {i:Nat} (hU:Us us):tT us vs us i 0 0:=
 ⟨rfl,hU,by omega,by omega,by simp[Ck],fun _ _=>rfl⟩
theorem tT.next {us vs fU:Lz} {i k:Nat} {c y u c1 c':Int} (h:tT us vs fU i k c) (hy:vs[k]? =some [tU y]) (hy0:0≤y) (zP:y < 4294967296) (hu:fU[i+k]? =some [tU u]) (mC:0≤u) (uw:u < 4294967296)
 (ph:c1=c+(u+y)) (EP:c'=c1 / 4294967296):tT us vs (fU.set (i+k) [tU (IntKind.u32.wrap c1)]) i (k+1) c':=by
 have hlt:=(List.getElem?_eq_some_iff.1 hu).1
 have agU:=h.c0
 have agT:=h.c1
 refine⟨by simp[h.len],h.ok.set (eM _) (fF _),by omega,by omega,?_,fun j hj=>?_⟩
 · have g1:dI us i (k+1)=dI us i k+4294967296 ^ k * u.toNat:=dR (by rw[←h.rest (i+k) (Nat.le_refl _)];exact hu)
   have hs:(fU.set (i+k) [tU (IntKind.u32.wrap c1)])[i+k]? =some [tU (IntKind.u32.wrap c1)]:=by simp[hlt]
   have g2:=dR hs
   rw[q8 (.inr (Nat.le_refl _))]at g2
   have hy':vs[0+k]? =some [tU y]:=by rw[Nat.zero_add];exact hy
   have g3:=dR hy'
   rw[g1,g2,g3,Nat.pow_succ,Nat.mul_comm (4294967296 ^ k) 4294967296]
   refine K7 (carry:=c.toNat) h.eq ?_
   rw[mc,EP]
   omega
 · rw[List.getElem?_set_ne (by omega)]
   exact h.rest j (by omega)
theorem IY {us vs fU:Lz} {i n q:Nat} {c b un:Int} {e:List T} (h:nh us vs fU i n q c b) (hun:us[i+n]? =some [tU un]) (hV:0 < dI vs 0 n) (hQ:dI us i (n+1) / dI vs 0 n≤q) (hge:c+b≤un):dI (fU.set (i+n) e) i n < dI vs 0 n:=by
 rw[q8 (.inr (Nat.le_refl _))]
 have hb0:=h.b0
 have hc0:=h.c0
 refine Mf (U:=dI us i (n+1)) (un:=un.toNat) (carry:=c.toNat) (borrow:=b.toNat) (Bn:=4294967296 ^ n) (dR hun) h.eq ?_ hQ (by omega)
 rw[Nat.mul_comm,Nat.mul_add,Nat.mul_one]
 exact Nat.lt_mul_div_succ _ hV
theorem K8 {us vs fU Az:Lz} {i n q:Nat} {c b un c2:Int} {e e':List T} (hV:Us vs) (h:nh us vs fU i n q c b) (hun:us[i+n]? =some [tU un]) (hq:q * dI vs 0 n < dI us i (n+1)+dI vs 0 n) (hlt:un < c+b) (h3:tT (fU.set (i+n) e) vs Az i n c2) (awP:0≤un):dI (Az.set (i+n) e') i n < dI vs 0 n:=by
 rw[q8 (.inr (Nat.le_refl _))]
 have hb0:=h.b0
 have hc0:=h.c0
 have e3:=h3.eq
 rw[q8 (.inr (Nat.le_refl _))]at e3
 exact IZ (U:=dI us i (n+1)) (un:=un.toNat) (carry:=c.toNat) (borrow:=b.toNat) (Bn:=4294967296 ^ n) (dR hun) h.eq (sP hV 0 n) hq (by omega) e3 (sP h.ok i n) (sP h3.ok i n)
theorem Gq {q r v0 u0:Int} (CW:0≤q) (hq:q < 4294967296) (td:0≤r) (hr:r < 4294967296) (ID:0≤v0) (hv:v0 < 4294967296) (mC:0≤u0) (hu:u0 < 4294967296):
 (IntKind.u64.wrap (q * IntKind.u64.wrap v0) > IntKind.u64.wrap ((BitVec.ofInt IntKind.u64.bits (IntKind.u64.wrap (r * 2 ^ (min (32:Int).toNat IntKind.u64.bits)))|||BitVec.ofInt IntKind.u64.bits (IntKind.u64.wrap u0)).toNat:Int))↔r.toNat * 4294967296+u0.toNat < q.toNat * v0.toNat:=by
 obtain⟨m0,m1⟩:=wS CW hq ID hv
 rw[u64_in ID (by omega),u64_in m0 (by omega),u64_in mC (by omega),I6,Int.emod_eq_of_lt (by omega) (by omega),QU mC hu td hr]
 have hm:q.toNat * v0.toNat=(q * v0).toNat:=by
  rw[show q * v0=((q.toNat * v0.toNat:Nat):Int) by rw[Int.natCast_mul];congr 1<;>omega]
  rfl
 rw[hm]
 omega
theorem Qq {un u1:Int} (h0:0≤un) (h1:un < 4294967296) (k0:0≤u1) (k1:u1 < 4294967296):
 IntKind.u64.wrap ((BitVec.ofInt IntKind.u64.bits (IntKind.u64.wrap (IntKind.u64.wrap un * 2 ^ (min (32:Int).toNat IntKind.u64.bits)))|||BitVec.ofInt IntKind.u64.bits (IntKind.u64.wrap u1)).toNat:Int)=((un.toNat * 4294967296+u1.toNat:Nat):Int):=by
 rw[u64_in h0 (by omega),u64_in k0 (by omega),I6,Int.emod_eq_of_lt (by omega) (by omega),QU k0 k1 h0 h1]
 omega
end Go.aT.Cd
end
section
namespace Go.aT.Cd
open Go Go.Proofs
set_option maxRecDepth 100000
set_option maxHeartbeats 4000000
theorem Rb {hp:HS} {sz dy:Nat} {xs ys xs' ys':Lz} (h:find hp 0=some (.row sz (tr xs'))) (h1:find hp 1=some (.row dy (tr ys'))):kY [(0, .row sz (tr xs)),(1, .row dy (tr ys))] hp [(0, .row sz (tr xs')),(1, .row dy (tr ys'))]:=by
 have hrow: ∀ (z:Nat) (zs:Lz),La [(0, .row sz (tr xs)),(1, .row dy (tr ys))] (.row z (tr zs)):=by
  intro z zs e he c hc
  simp only[tr,List.mem_map]at he
  obtain⟨e',_,rfl⟩:=he
  simp only[List.mem_map]at hc
  obtain⟨c',_,rfl⟩:=hc
  rfl
 refine⟨fun k b hk=>?_,fun k blk hk=>?_⟩
 · simp only[find]at hk
   split at hk
   · rename_i e;subst e;exact⟨by omega,_,h⟩
   · split at hk
     · rename_i e;subst e;exact⟨by omega,_,h1⟩
     · simp at hk
 · simp only[find]at hk
   split at hk
   · rename_i e
     subst e
     simp only[Option.some.injEq]at hk
     subst hk
     exact⟨h,rfl,hrow _ _⟩
   · split at hk
     · rename_i e
       subst e
       simp only[Option.some.injEq]at hk
       subst hk
       exact⟨h1,rfl,hrow _ _⟩
     · simp at hk
theorem gDg {hp:HS} {tm:TS} {rs:List ResultVar} {t sz dy:Nat} {x:T} {rows Ot:List (List C)} {us vs xs ys:Lz} {G:List W→HS→Prop} (hr:rs=[.tmp t]) (h:find tm t=some (.w (.one (.t x)))) (hf:find hp 0=some (.row sz rows)) (hf1:find hp 1=some (.row dy Ot)) (hR:az rows xs) (hR1:az Ot ys) (hg:G [.one (.t x)] [(0, .row sz (tr xs)),(1, .row dy (tr ys))]):
 ∃qs ts hout,aN Tryz.prog hp tm rs=some qs∧bM (AS [(0, .row sz (tr us)),(1, .row dy (tr vs))] hp) qs=some ts∧kY [(0, .row sz (tr us)),(1, .row dy (tr vs))] hp hout∧G ts hout:=by
 subst hr
 refine⟨[.one (.t x)],[.one (.t x)],_,by simp only[aN,cz,h],?_,Rb (by rw[hf,hR]) (by rw[hf1,hR1]),hg⟩
 simp only[bM,AS,WZ,JQ,if_true]
def Tp (us vs:Lz) (i n:Nat) (ts:List W) (hout:HS):Prop:= ∃fU d,ts=[.one (.t (tU d))]∧hout=[(0, .row 1 (tr fU)),(1, .row 1 (tr vs))]∧fU.length=us.length∧Us fU∧dI fU i n < dI vs 0 n∧0≤d∧d < 4294967296
def Fq (U V q:Nat):Prop:=q < 4294967296∧q * V < U+V∧U / V≤q
theorem q64 (X v:Nat) (h:X < 18446744073709551616):IntKind.u64.wrap ((X / v:Nat):Int)=((X / v:Nat):Int):=by
 have h1:=Nat.div_le_self X v
 generalize X / v=y at h1
 exact u64_in (by omega) (by omega)
def R1 (U W un u1 v1:Nat) (us vs:Lz) (m:Nat) (ws:List V) (xss:List (Lz)):Prop:=
 ∃q r:Int,0≤q∧0≤r∧m=4294967296 - r.toNat∧ws=[iV .u64 q,iV .u64 r]∧xss=[us,vs]∧q.toNat * v1+r.toNat=un * 4294967296+u1∧U / W≤q.toNat∧q < 18446744073709551616∧r < 8589934592
theorem R1.zero {U V:Nat} {un u1 u0 v1 v0:Int} {us vs:Lz} (he:YX U V un.toNat u1.toNat u0.toNat v1.toNat v0.toNat) (h0:0≤un) (h1:un < 4294967296) (k0:0≤u1) (k1:u1 < 4294967296) (hv:0 < v1) (CT:v1 < 4294967296) {top:Int}
 (ht:top=IntKind.u64.wrap ((BitVec.ofInt IntKind.u64.bits (IntKind.u64.wrap (IntKind.u64.wrap un * 2 ^ (min (32:Int).toNat IntKind.u64.bits)))|||BitVec.ofInt IntKind.u64.bits (IntKind.u64.wrap u1)).toNat:Int)):
 R1 U V un.toNat u1.toNat v1.toNat us vs (4294967296 - (un.toNat * 4294967296+u1.toNat) % v1.toNat) [iV .u64 (IntKind.u64.wrap (top.tdiv (IntKind.u64.wrap v1))),iV .u64 (top.tmod (IntKind.u64.wrap v1))] [us,vs]:=by
 have e:=Qq h0 h1 k0 k1
 have ev:IntKind.u64.wrap v1=((v1.toNat:Nat):Int):=by rw[u64_in (by omega) (by omega)];omega
 have hlt:=Nat.mod_lt (un.toNat * 4294967296+u1.toNat) (show 0 < v1.toNat by omega)
 have hle:=Nat.div_le_self (un.toNat * 4294967296+u1.toNat) v1.toNat
 have ZA:=Nat.div_add_mod (un.toNat * 4294967296+u1.toNat) v1.toNat
 have xd:=he.first
 have hXb:un.toNat * 4294967296+u1.toNat < 18446744073709551616:=by omega
 have hq:=q64 (un.toNat * 4294967296+u1.toNat) v1.toNat hXb
 rw[e]at ht
 clear he e
 have e2:((un.toNat * 4294967296+u1.toNat:Nat):Int).tdiv ((v1.toNat:Nat):Int)=(((un.toNat * 4294967296+u1.toNat) / v1.toNat:Nat):Int):=by
  rw[Int.tdiv_eq_ediv_of_nonneg (Int.natCast_nonneg _)];rfl
 have e3:((un.toNat * 4294967296+u1.toNat:Nat):Int).tmod ((v1.toNat:Nat):Int)=(((un.toNat * 4294967296+u1.toNat) % v1.toNat:Nat):Int):=by
  rw[Int.tmod_eq_emod_of_nonneg (Int.natCast_nonneg _)];rfl
 rw[ht,ev,e2,e3,hq]
 clear e2 e3 hq ht ev
 refine⟨(((un.toNat * 4294967296+u1.toNat) / v1.toNat:Nat):Int),(((un.toNat * 4294967296+u1.toNat) % v1.toNat:Nat):Int),Int.natCast_nonneg _,Int.natCast_nonneg _,by rw[Int.toNat_natCast],rfl,rfl,?_,by rw[Int.toNat_natCast];exact xd,?_,?_⟩
 · rw[Int.toNat_natCast,Int.toNat_natCast,Nat.mul_comm]
   exact ZA
 · clear xd ZA hlt
   generalize (un.toNat * 4294967296+u1.toNat) / v1.toNat=y at *
   omega
 · clear xd ZA hle
   generalize (un.toNat * 4294967296+u1.toNat) % v1.toNat=y at *
   omega
theorem R1.next {U V un u1:Nat} {q r u0 v1 v0:Int} {us vs:Lz} (he:YX U V un u1 u0.toNat v1.toNat v0.toNat) (CW:0≤q) (td:0≤r) (hv:0 < v1) (CT:v1 < 4294967296) (hm:q.toNat * v1.toNat+r.toNat=un * 4294967296+u1) (hQ:U / V≤q.toNat) (hq:q < 18446744073709551616) (hr:r < 4294967296)
 (hc:4294967296≤q.toNat∨r.toNat * 4294967296+u0.toNat < q.toNat * v0.toNat):
 R1 U V un u1 v1.toNat us vs (4294967296 - (r+v1).toNat) [iV .u64 (IntKind.u64.wrap (q - 1)),iV .u64 (IntKind.u64.wrap (r+IntKind.u64.wrap v1))] [us,vs]:=by
 have h1:=he.step q.toNat r.toNat hm hQ hc
 clear he hc
 generalize hQQ:U / V=Q0 at h1 hQ
 refine⟨q - 1,r+v1,by omega,by omega,rfl,?_,rfl,?_,by rw[hQQ];omega,by omega,by omega⟩
 · rw[u64_in (n:=v1) (by omega) (by omega),u64_in (by omega) (by omega),u64_in (by omega) (by omega)]
 · obtain⟨q',F5⟩: ∃q',q.toNat=q'+1:=⟨q.toNat - 1,by omega⟩
   rw[F5,Nat.add_mul,Nat.one_mul]at hm
   rw[show(q - 1).toNat=q' by omega,show(r+v1).toNat=r.toNat+v1.toNat by omega]
   omega
def R2 (us vs:Lz) (i n:Nat) (q:Int) (m:Nat) (ws:List V) (xss:List (Lz)):Prop:=
 ∃ (k:Nat) (c b:Int) (nt:Lz),k≤n∧m=n - k∧ws=[iV .u64 c,iV .u64 b,iV .i64 (k:Int)]∧xss=[nt,vs]∧nh us vs nt i k q.toNat c b∧Fq (dI us i (n+1)) (dI vs 0 n) q.toNat
theorem R2.next {us vs nt:Lz} {i n k:Nat} {q c b y u C1 D:Int} (CW:0≤q) (h:nh us vs nt i k q.toNat c b) (hF:Fq (dI us i (n+1)) (dI vs 0 n) q.toNat) (hk:(k:Int) < (n:Int)) (hn:n≤1000000) (hy:vs[0+((k:Int)).toNat]? =some [tU y]) (hy0:0≤y) (zP:y < 4294967296) (hu:nt[i+((k:Int)).toNat]? =some [tU u]) (mC:0≤u) (uw:u < 4294967296)
 (hC:C1=IntKind.u64.wrap (c+IntKind.u64.wrap (q * IntKind.u64.wrap y))) (hD:D=IntKind.u64.wrap (IntKind.u64.wrap (IntKind.u64.wrap u - IntKind.u64.wrap (IntKind.u32.wrap C1)) - b)):
 R2 us vs i n q (n - (k+1)) [iV .u64 (C1.fdiv (2 ^ (min (32:Int).toNat IntKind.u64.bits))),iV .u64 (D.fdiv (2 ^ (min (63:Int).toNat IntKind.u64.bits))),iV .i64 (IntKind.i64.wrap ((k:Int)+1))] [nt.set (i+((k:Int)).toNat) [tU (IntKind.u32.wrap D)],vs]:=by
 have e0:((k:Int)).toNat=k:=by omega
 rw[e0]at hy hu⊢
 rw[Nat.zero_add]at hy
 obtain⟨m0,m1⟩:=wS (q:=q) (y:=y) CW (by have:=hF.1;omega) hy0 zP
 have hc0:=h.c0
 have ph:=h.c1
 have eC:C1=c+(q.toNat:Int) * y:=by rw[hC,u64_in hy0 (by omega),u64_in m0 (by omega),u64_in (by omega) (by omega),Int.toNat_of_nonneg CW]
 rw[u64_in mC (by omega),u64_in (eM _) (by have:=fF C1;omega)]at hD
 refine⟨k+1,_,_,_,by omega,rfl,by rw[bh (by omega) (by omega)];rfl,rfl,h.next hF.1 hy hy0 zP hu mC uw eC hD rfl (FL _),hF⟩
theorem nh.to {us vs fU:Lz} {i k n q:Nat} {c b:Int} (h:nh us vs fU i k q c b) (e:k=n):nh us vs fU i n q c b:=e▸h
theorem tT.to {us vs fU:Lz} {i k n:Nat} {c:Int} (h:tT us vs fU i k c) (e:k=n):tT us vs fU i n c:=e▸h
theorem CK {un c b D:Int} (h0:0≤un) (h1:un < 4294967296) (hc0:0≤c) (ph:c < 4294967296) (hb0:0≤b) (pn:b≤1) (hD:D=IntKind.u64.wrap (IntKind.u64.wrap (IntKind.u64.wrap un - c) - b)):D.fdiv (2 ^ (min (63:Int).toNat IntKind.u64.bits))=0↔c+b≤un:=by
 rw[u64_in h0 (by omega)]at hD
 obtain⟨b',e,_,_,_,h⟩:=Cf h0 h1 hc0 ph hb0 pn hD
 rw[e];exact h
def R3 (us vs:Lz) (i n q:Nat) (un:Int) (m:Nat) (ws:List V) (xss:List (Lz)):Prop:=
 ∃ (k:Nat) (c3:Int) (Az nt:Lz) (e:List T) (c b:Int),k≤n∧m=n - k∧ws=[iV .u64 c3,iV .i64 (k:Int)]∧xss=[Az,vs]∧nh us vs nt i n q c b∧un < c+b∧tT (nt.set (i+n) e) vs Az i k c3∧Fq (dI us i (n+1)) (dI vs 0 n) q
theorem R3.zero {us vs nt:Lz} {i k n q:Nat} {un c b D:Int} (h:nh us vs nt i k q c b) (hF:Fq (dI us i (n+1)) (dI vs 0 n) q) (e:k=n) (h0:0≤un) (h1:un < 4294967296) (hD:D=IntKind.u64.wrap (IntKind.u64.wrap (IntKind.u64.wrap un - c) - b)) (hne:D.fdiv (2 ^ (min (63:Int).toNat IntKind.u64.bits))≠0):
 R3 us vs i n q un n [iV .u64 0,iV .i64 0] [nt.set (i+((n:Int)).toNat) [tU (IntKind.u32.wrap D)],vs]:=by
 have e0:((n:Int)).toNat=n:=by omega
 rw[e0]
 refine⟨0,0,_,nt,_,c,b,by omega,rfl,rfl,rfl,h.to e,?_,tT.zero (h.ok.set (eM _) (fF _)),hF⟩
 have:=CK h0 h1 h.c0 h.c1 h.b0 h.b1 hD
 omega
theorem R3.next {us vs nt Az:Lz} {i n k q:Nat} {un c3 c b y u C1:Int} {e:List T} (hS:nh us vs nt i n q c b) (hlt:un < c+b) (h:tT (nt.set (i+n) e) vs Az i k c3) (hF:Fq (dI us i (n+1)) (dI vs 0 n) q) (hk:(k:Int) < (n:Int)) (hn:n≤1000000) (hy:vs[0+((k:Int)).toNat]? =some [tU y]) (hy0:0≤y) (zP:y < 4294967296) (hu:Az[i+((k:Int)).toNat]? =some [tU u]) (mC:0≤u) (uw:u < 4294967296)
 (hC:C1=IntKind.u64.wrap (c3+IntKind.u64.wrap (IntKind.u64.wrap u+IntKind.u64.wrap y))):
 R3 us vs i n q un (n - (k+1)) [iV .u64 (C1.fdiv (2 ^ (min (32:Int).toNat IntKind.u64.bits))),iV .i64 (IntKind.i64.wrap ((k:Int)+1))] [Az.set (i+((k:Int)).toNat) [tU (IntKind.u32.wrap C1)],vs]:=by
 have e0:((k:Int)).toNat=k:=by omega
 rw[e0]at hy hu⊢
 rw[Nat.zero_add]at hy
 have hc0:=h.c0
 have ph:=h.c1
 have eC:C1=c3+(u+y):=by rw[hC,u64_in hy0 (by omega),u64_in mC (by omega),u64_in (n:=u+y) (by omega) (by omega),u64_in (by omega) (by omega)]
 exact⟨k+1,_,_,nt,e,c,b,by omega,rfl,by rw[bh (by omega) (by omega)];rfl,rfl,hS,hlt,h.next hy hy0 zP hu mC uw eC (FL _),hF⟩
theorem Ng {us vs nt:Lz} {i k n q:Nat} {un c b D d:Int} (h:nh us vs nt i k q c b) (hF:Fq (dI us i (n+1)) (dI vs 0 n) q) (e:k=n) (hun:us[i+n]? =some [tU un]) (h0:0≤un) (h1:un < 4294967296) (hV:0 < dI vs 0 n) (hD:D=IntKind.u64.wrap (IntKind.u64.wrap (IntKind.u64.wrap un - c) - b)) (heq:D.fdiv (2 ^ (min (63:Int).toNat IntKind.u64.bits))=0) (DV:0≤d) (RU:d < 4294967296):
 Tp us vs i n [.one (.t (tU d))] [(0, .row 1 (tr (nt.set (i+((n:Int)).toNat) [tU (IntKind.u32.wrap D)]))),(1, .row 1 (tr vs))]:=by
 have e0:((n:Int)).toNat=n:=by omega
 rw[e0]
 exact⟨_,d,rfl,rfl,by simp[h.len],h.ok.set (eM _) (fF _),IY (h.to e) hun hV hF.2.2 ((CK h0 h1 h.c0 h.c1 h.b0 h.b1 hD).1 heq),DV,RU⟩
theorem Nf {us vs nt Az:Lz} {i k n q:Nat} {un c b c3 x d:Int} {e:List T} (hVs:Us vs) (h:nh us vs nt i n q c b) (hlt:un < c+b) (hA:tT (nt.set (i+n) e) vs Az i k c3) (hF:Fq (dI us i (n+1)) (dI vs 0 n) q) (ek:k=n) (hun:us[i+n]? =some [tU un]) (h0:0≤un) (hx0:0≤x) (s9:x < 4294967296) (DV:0≤d) (RU:d < 4294967296):
 Tp us vs i n [.one (.t (tU d))] [(0, .row 1 (tr (Az.set (i+((n:Int)).toNat) [tU x]))),(1, .row 1 (tr vs))]:=by
 have e0:((n:Int)).toNat=n:=by omega
 rw[e0]
 exact⟨_,d,rfl,rfl,by simp[hA.len,h.len],hA.ok.set hx0 s9,K8 hVs h hun hF.2.1 hlt (hA.to ek) h0,DV,RU⟩
theorem O2 {U V un u1 q r:Nat} {u0 v1 v0:Nat} (he:YX U V un u1 u0 v1 v0) (hm:q * v1+r=un * 4294967296+u1) (hQ:U / V≤q) (hc:¬ (r < 4294967296∧(4294967296≤q∨r * 4294967296+u0 < q * v0))):Fq U V q:=by
 obtain⟨a,b⟩:=he.fin q r hm hc
 exact⟨a,b,hQ⟩
theorem fq2 {U V un u1:Nat} {q r u0 v1 v0:Int} (he:YX U V un u1 u0.toNat v1.toNat v0.toNat) (CW:0≤q) (td:0≤r) (hm:q.toNat * v1.toNat+r.toNat=un * 4294967296+u1) (hQ:U / V≤q.toNat) (ID:0≤v0) (hv:v0 < 4294967296) (mC:0≤u0) (hu:u0 < 4294967296) (hr:r < 4294967296) (hq:¬q≥4294967296)
 (h:¬ (IntKind.u64.wrap (q * IntKind.u64.wrap v0) > IntKind.u64.wrap ((BitVec.ofInt IntKind.u64.bits (IntKind.u64.wrap (r * 2 ^ (min (32:Int).toNat IntKind.u64.bits)))|||BitVec.ofInt IntKind.u64.bits (IntKind.u64.wrap u0)).toNat:Int))):Fq U V q.toNat:=by
 refine O2 he hm hQ ?_
 rintro⟨_,h1|h1⟩
 · omega
 · exact h ((Gq CW (by omega) td hr ID hv mC hu).2 h1)
theorem Yn {q r u0 v0:Int} (CW:0≤q) (td:0≤r) (ID:0≤v0) (hv:v0 < 4294967296) (mC:0≤u0) (hu:u0 < 4294967296) (hr:r < 4294967296) (hq:¬q≥4294967296)
 (h:(IntKind.u64.wrap (q * IntKind.u64.wrap v0) > IntKind.u64.wrap ((BitVec.ofInt IntKind.u64.bits (IntKind.u64.wrap (r * 2 ^ (min (32:Int).toNat IntKind.u64.bits)))|||BitVec.ofInt IntKind.u64.bits (IntKind.u64.wrap u0)).toNat:Int))):4294967296≤q.toNat∨r.toNat * 4294967296+u0.toNat < q.toNat * v0.toNat:=
 .inr ((Gq CW (by omega) td hr ID hv mC hu).1 h)
theorem yG (us vs:Lz) (i n:Nat) (hU:Us us) (hV:Us vs) (hn:2≤n) (hvl:n≤vs.length) (LI:i+n+1≤us.length) (hL:us.length≤1000000) (hM:vs.length≤1000000) (hlt:dI us i (n+1) < 4294967296 * dI vs 0 n) (v1:Int) (CT:vs[n - 1]? =some [tU v1]) (hvp:0 < v1): ∃ts hout,Fn Tryz.prog 252 [.one (.own 0 1 i (n+1)), .one (.own 1 1 0 n)] [(0, .row 1 (tr us)),(1, .row 1 (tr vs))] (aL ts) hout∧Tp us vs i n ts hout:=by
 obtain⟨un,hun,Ze,un1⟩:=wi hU (k:=i+n) (by omega)
 obtain⟨u1,uw,L9,u11⟩:=wi hU (k:=i+(n - 1)) (by omega)
 obtain⟨u0,mC,u00,u01⟩:=wi hU (k:=i+(n - 2)) (by omega)
 obtain⟨v0,ID,v00,v01⟩:=wi hV (k:=n - 2) (by omega)
 obtain⟨v1',Xc,v10,v11⟩:=wi hV (k:=n - 1) (by omega)
 obtain rfl:v1'=v1:=by rw[CT]at Xc;simpa using Xc.symm
 have ZI:=Sl hn hU hV hun uw mC CT ID hvp hlt
 have hVp:0 < dI vs 0 n:=by(apply Nat.pos_of_ne_zero;intro e;rw[e]at hlt;omega)
 refine dD Tryz.func252 ?_
 repeat' (conv=>whnf
          first
  |(refine au (fun h=>?_) (fun h=>?_))
  |(refine And.intro ⟨(by first|omega|(simp (disch:=omega) only[aa];omega)),(by first|omega|(simp (disch:=omega) only[aa];omega))⟩ ?_)
  |(refine And.intro (show IntKind.u64.wrap v1'≠0 by rw[u64_in (by omega) (by omega)];omega) ?_)
  |(refine And.intro (show(0:Int)≤32 by omega) ?_)
  |(refine And.intro (show(0:Int)≤63 by omega) ?_)
  |(refine And.intro (by kernel_rfl) ?_)
  |(refine sD (xs:=us) rfl hun (by first|omega|(simp (disch:=omega) only[aa];omega)) ?_)
  |(refine sD (xs:=us) rfl uw (by first|omega|(simp (disch:=omega) only[aa];omega)) ?_)
  |(refine sD (xs:=us) rfl mC (by first|omega|(simp (disch:=omega) only[aa];omega)) ?_)
  |(refine sD (xs:=vs) rfl CT (by first|omega|(simp (disch:=omega) only[aa];omega)) ?_)
  |(refine sD (xs:=vs) rfl ID (by first|omega|(simp (disch:=omega) only[aa];omega)) ?_)
  |(refine bJ (xs:=vs) (i:=0+((k:Int)).toNat) rfl hV (by omega) ?_;rintro _ ⟨y,rfl,hy0,zP⟩ hsy)
  |(refine bJ (xs:=vs) (i:=0+((k3:Int)).toNat) rfl hV (by omega) ?_;rintro _ ⟨y,rfl,hy0,zP⟩ hsy)
  |(refine bJ (xs:=nt) (i:=i+((k:Int)).toNat) rfl hS.ok (by have:=hS.len;omega) ?_;rintro _ ⟨u,rfl,mC,uw⟩ hsu)
  |(refine sD (xs:=nt) rfl ((hS.rest (i+n) (by omega)).trans hun) (by first|omega|(simp (disch:=omega) only[aa];omega)) ?_)
  |(refine bJ (xs:=Az) (i:=i+((k3:Int)).toNat) rfl hA.ok (by have:=hA.len;have:=ZD.len;simp only[List.length_set]at *;omega) ?_;rintro _ ⟨u,rfl,mC,uw⟩ hsu)
  |(refine bJ (xs:=Az) (i:=i+((n:Int)).toNat) rfl hA.ok (by have:=hA.len;have:=ZD.len;simp only[List.length_set]at *;omega) ?_;rintro _ ⟨u,rfl,mC,uw⟩ hsu)
  |exact gDg rfl rfl rfl rfl (xs:=nt.set (i+((n:Int)).toNat) [tU _]) (az.set rfl _ [tU _]) rfl (Ng hS hF (by omega) hun Ze un1 hVp rfl h (eM _) (fF _))
  |exact gDg rfl rfl rfl rfl (xs:=Az.set (i+((n:Int)).toNat) [tU _]) (az.set rfl _ [tU _]) rfl (Nf hV ZD XA hA hF' (by omega) hun Ze (eM _) (fF _) (eM _) (fF _))
  |(apply bp [0,5,8,10,129,130,131] [] [10,131] [(0,1),(1,1)] (R3 us vs i n q.toNat un) (n) [iV .u64 0,iV .i64 0];(conv=>whnf);exact⟨rfl,rfl,rfl,rfl⟩;exact rfl;exact rfl;exact .cons (az.av (az.set (xs:=nt) rfl _ [tU _]) _) (.cons (az.av rfl _) .nil);exact R3.zero hS hF (by omega) Ze un1 rfl h;rintro _ _ _ ⟨k3,c3,Az,atA,e3,c',b',hk3,rfl,rfl,rfl,ZD,XA,hA,hF'⟩)
  |(refine ak [0,5,8,10,129,130,131] [] ?_;(conv=>whnf);exact⟨rfl,_,[_,_],_, .cons (az.av (az.set (xs:=Az) rfl _ [tU _]) _) (.cons (az.av rfl _) .nil),R3.next ZD XA hA hF' (by omega) (by omega) hsy hy0 zP (by assumption) (by assumption) (by assumption) rfl,rfl,rfl,by omega⟩)
  |(apply bp [0,1,5,8,10,11,76,77,78] [] [10,11,78] [(0,1),(1,1)] (R2 us vs i n q) (n) [iV .u64 0,iV .u64 0,iV .i64 0];(conv=>whnf);exact⟨rfl,rfl,rfl,rfl⟩;exact rfl;exact rfl;exact .cons (az.av rfl _) (.cons (az.av rfl _) .nil);exact⟨0,0,0,us,by omega,rfl,rfl,rfl,nh.zero hU,by first|exact O2 ZI hm hQ (fun hh=>absurd hh.1 (by omega))|exact fq2 ZI CW td hm hQ v00 v01 u00 u01 (by omega) (by omega) h⟩;rintro _ _ _ ⟨k,c,b,nt,hk,rfl,rfl,rfl,hS,hF⟩)
  |(refine ak [0,1,5,8,10,11,76,77,78] [] ?_;(conv=>whnf);exact⟨rfl,_,[_,_,_],_, .cons (az.av (az.set (xs:=nt) rfl _ [tU _]) _) (.cons (az.av rfl _) .nil),R2.next CW hS hF (by omega) (by omega) hsy hy0 zP (by assumption) (by assumption) (by assumption) rfl rfl,rfl,rfl,by omega⟩)
  |(apply bp [0,1,5,7,8,9] [] [8,9] [(0,1),(1,1)] (R1 (dI us i (n+1)) (dI vs 0 n) un.toNat u1.toNat v1'.toNat us vs) (_) [_,_];(conv=>whnf);exact⟨rfl,rfl,rfl,rfl⟩;exact rfl;exact rfl;exact .cons (az.av rfl _) (.cons (az.av rfl _) .nil);exact R1.zero ZI Ze un1 L9 u11 hvp v11 rfl;rintro _ _ _ ⟨q,r,CW,td,hmr,rfl,rfl,hm,hQ,afE,awW⟩)
  |(refine ak [0,1,5,7,8,9] [] ?_;(conv=>whnf);exact⟨rfl,_,[_,_],_, .cons (az.av rfl _) (.cons (az.av rfl _) .nil),R1.next ZI CW td hvp v11 hm hQ afE (by omega) (by first|exact .inl (by omega)|exact Yn CW td v00 v01 u00 u01 (by omega) (by omega) h),rfl,rfl,by omega⟩))
 all_goals (conv=>whnf)
end Go.aT.Cd
end
section
namespace Go.aT.Cd
open Go Go.Proofs
set_option maxRecDepth 100000
set_option maxHeartbeats 4000000
abbrev oB (b:Bool):W:= .one (.t (tB b))
def ajE (k:Nat) (ys:Lz) (ts:List W):Prop:= ∃qs rs ok,ts=[oL 1 qs,oL 1 rs,oB ok]∧(qs.length≤k∧Us qs)∧Nm k rs∧(nv ys≠0→nv rs < nv ys)
theorem Mb {vs:Lz} {n:Nat} (hV:Us vs) (hn:1≤n) (hl:n≤vs.length) (h:4294967296 ^ (n - 1)≤dI vs 0 n): ∃v1,vs[n - 1]? =some [tU v1]∧0 < v1:=by
 obtain⟨x,hx,h0,_⟩:=wi hV (k:=n - 1) (by omega)
 refine⟨x,hx,?_⟩
 have e:n=(n - 1)+1:=by omega
 have h1:=dR (xs:=vs) (i:=0) (k:=n - 1) (x:=x) (by rw[Nat.zero_add];exact hx)
 rw[←e]at h1
 have h2:=sP hV 0 (n - 1)
 rcases Int.lt_or_le 0 x with h'|h'
 · exact h'
 · have:x.toNat=0:=by omega
   rw[this,Nat.mul_zero]at h1
   omega
structure Dv (bs vs:Lz) (n s:Nat):Prop where
 len:vs.length=n+1
 ok:Us vs
 val:dI vs 0 n=nv bs * 2 ^ s
 top: ∃v1,vs[n - 1]? =some [tU v1]∧0 < v1
theorem Gj {bs vs:Lz} {n s:Nat} {x:Int} (hb:Us bs) (hbt: ∀e,bs.getLast? =some e→lb e≠0) (hn:bs.length=n) (vS:2≤n) (hx:bs[n - 1]? =some [tU x]) (hs:s≤31) (hxs:x.toNat < 2 ^ (32 - s)) (h:vs.length=bs.length+1∧Us vs∧nv vs=nv bs * 2 ^ s):Dv bs vs n s:=by
 obtain⟨h1,h2,h3⟩:=h
 have hf:=Si hb hn (by omega) hx (by omega) hxs
 have e:dI vs 0 n=nv bs * 2 ^ s:=by rw[←h3];exact Mm (by rw[h3];exact hf) (by omega)
 refine⟨by omega,h2,e,Mb h2 (by omega) (by omega) ?_⟩
 have g:=Cu hbt (by intro e;subst e;simp at hn;omega)
 rw[hn]at g
 rw[e]
 have:nv bs * 1≤nv bs * 2 ^ s:=Nat.mul_le_mul_left _ (Nat.pow_pos (by omega))
 omega
def Fl (n la Vn:Nat) (vs:Lz) (m:Nat) (ws:List V) (xss:List (Lz)):Prop:=
 ∃ (j:Nat) (z:Int) (us qs:Lz),j≤la+1 - n∧m=j∧ws=[iV .i64 z]∧xss=[us,vs,qs]∧us.length=la+1∧Us us∧qs.length=la+1 - n∧Us qs∧dI us j n < Vn∧((z= -1∧j=0)∨ ∃i:Nat,z=(i:Int)∧j=i+1)
theorem Uj (j:Nat):((j:Int) - 1= -1∧j=0)∨ ∃i:Nat,(j:Int) - 1=(i:Int)∧j=i+1:=by
 rcases j with _|i
 · exact .inl ⟨by omega,rfl⟩
 · exact .inr ⟨i,by omega,rfl⟩
theorem FZ {qs:Lz} {k:Nat} {e:List T} (h:qs[k]? =some e) (hk:qs.length=k+1):qs.getLast? =some e:=by
 rw[List.getLast?_eq_getElem?,hk];simpa using h
theorem one_pos {qs:Lz} {x:Int} (hl:qs.length=1) (h:qs[(0:Int).toNat]? =some [tU x]) (ht: ∀e,qs.getLast? =some e→lb e≠0) (h0:0≤x):1≤x∧nv qs=x.toNat:=by
 have h':qs[0]? =some [tU x]:=h
 have:=ht _ (FZ h' (by omega))
 rw[kA]at this
 refine⟨by omega,?_⟩
 match qs,hl with
 | [e],_=>
   simp only[List.getElem?_cons_zero,Option.some.injEq]at h'
   subst h'
   simp[nv,kA]
theorem nw {qs:Lz} {x:Int} {n:Nat} (hn:2≤n) (hl:qs.length=n) (hb:n≤1000000) (h:qs[(IntKind.i64.wrap ((n:Int) - 1)).toNat]? =some [tU x]) (ht: ∀e,qs.getLast? =some e→lb e≠0) (h0:0≤x):0 < x∧qs[n - 1]? =some [tU x]:=by
 rw[bh (by omega) (by omega),show((n:Int) - 1).toNat=n - 1 by omega]at h
 have:=ht _ (FZ h (by omega))
 rw[kA]at this
 exact⟨by omega,h⟩
theorem MA {qs:Lz} (h:(qs.length:Int)=0):nv qs=0:=by
 have:qs=[]:=List.eq_nil_of_length_eq_zero (by omega)
 subst this;rfl
theorem fp {ps qs:Lz} {c:Int} (ua:Us ps) (tb: ∀e,qs.getLast? =some e→lb e≠0) (h:Iw c (nv ps) (nv qs)) (hc:¬c < 0):qs.length≤ps.length:=by
 apply Nat.le_of_not_lt
 intro hlt
 have:=BN ua tb hlt
 exact hc (h.1.2 this)
theorem Fl.zero {ps bs vs us:Lz} {n s:Nat} (ua:Us ps) (uw:us.length=ps.length+1) (hu2:Us us) (hu3:nv us=nv ps * 2 ^ s) (hD:Dv bs vs n s) (hb: ∀e,bs.getLast? =some e→lb e≠0) (hn:bs.length=n) (vS:2≤n) (hle:n≤ps.length) (hL:ps.length≤400000) {N:Nat} (hN:N=ps.length+1 - n):
 Fl n ps.length (dI vs 0 n) vs (ps.length+1 - n) [iV .i64 (IntKind.i64.wrap ((N:Int) - 1))] [us,vs,List.replicate N [tU 0]]:=by
 subst hN
 exact⟨ps.length+1 - n,_,us,_,by omega,rfl,by rw[bh (by omega) (by omega)],rfl,uw,hu2,by simp,Us.replicate _,Qp ua hu3 hb hn (by omega) (by omega) hD.val,Uj _⟩
theorem QC {us:Lz} {j n la V:Nat} (hU:Us us) (hl:us.length=la+1) (hj:j+1≤la+1 - n) (h:dI us (j+1) n < V):dI us j (n+1) < 4294967296 * V:=by
 obtain⟨x,hx,_,_⟩:=wi hU (k:=j) (by omega)
 exact MB hU hx h
theorem Fl.next {fU us qs vs:Lz} {n la V i k:Nat} {d:Int} (hj:i+1≤la+1 - n) (hL:la≤400000) (hl:us.length=la+1) (hl':fU.length=us.length) (hU:Us fU) (hq:qs.length=la+1 - n) (hQ:Us qs) (hs:dI fU i n < V) (DV:0≤d) (RU:d < 4294967296):
 Fl n la V vs i [iV .i64 (IntKind.i64.wrap ((i:Int) - 1))] [fU,vs,qs.set k [tU d]]:=
 ⟨i,_,fU,_,by omega,rfl,by rw[bh (by omega) (by omega)],rfl,by omega,hU,by simp[hq],hQ.set DV RU,hs,Uj _⟩
theorem acZ {a b c d i n:Nat} (h1:a=i) (h2:b=n+1) (h3:c=n) (h4:d=0): [W.one (C.own 0 1 a b),W.one (C.own 1 1 d c)]=[.one (.own 0 1 i (n+1)), .one (.own 1 1 0 n)]:=by subst h1;subst h2;subst h3;subst h4;rfl
theorem Wm {a b n:Nat} {r:List W} (h:b=n) (h0:a=0):W.one (C.own 0 1 a b)::r= .one (.own 0 1 0 n)::r:=by subst h;subst h0;rfl
theorem afY {f:Nat→Option Nat} {us vs:Lz}: [(0,bA.row 1 ((tr us).map fun e=>e.map (C.av f))),(1,bA.row 1 ((tr vs).map fun e=>e.map (C.av f)))]=[(0,bA.row 1 (tr us)),(1,bA.row 1 (tr vs))]:=by rw[eu,eu]
theorem QH {ys bs us vs:Lz} {n s:Nat} (hv:nv bs=nv ys) (hD:Dv bs vs n s) (h:dI us 0 n < dI vs 0 n) {r:Nat} (hr:r=dI us 0 n / 2 ^ s):r < nv ys:=by
 rw[hD.val,hv,Nat.mul_comm]at h
 rw[hr]
 exact Nat.div_lt_of_lt_mul h
theorem pN (xs:Lz) (s:Int) (hx:Us xs) (hl:xs.length≤400000) (hs0:0≤s) (hs:s≤31): ∃ts hout,Ar Tryz.prog 251 [oL 1 xs,oI s] (aL ts) hout∧GN 1 (fun ys=>ys.length=xs.length+1∧Us ys∧nv ys=nv xs * 2 ^ s.toNat) ts hout:=by
 have:=Bc xs s.toNat hx hl (by omega)
 rw[Int.toNat_of_nonneg hs0]at this
 exact this
theorem wR (us:Lz) (n:Nat) (s:Int) (hx:Us us) (hn:n≤us.length) (hl:us.length≤400001) (hs0:0≤s) (hs:s≤31): ∃ts hout,Fn Tryz.prog 253 [.one (.own 0 1 0 n),oI s] [(0, .row 1 (tr us))] (aL ts) hout∧YT 1 us (fun ts=> ∃ys,ts=[oL 1 ys]∧Nm n ys∧nv ys=dI us 0 n / 2 ^ s.toNat) ts hout:=by
 have:=yF us n s.toNat hx hn hl (by omega)
 rw[Int.toNat_of_nonneg hs0]at this
 exact this
theorem iC (k:Nat) (xs ys:Lz) (hl:xs.length≤k) (hx:Us xs) (hm:ys.length≤k) (hy:Us ys) (hk:k≤200000) (fS:2≤k):Tg 243 [oL 1 xs,oL 1 ys] (ajE k ys):=by
 refine aJ ?_
 refine ah Tryz.func243 ?_
 repeat' (conv=>whnf
          first
  |(refine au (fun h=>?_) (fun h=>?_))
  |(refine aq ub (by have:=fp ua tb hc (by omega);first|omega|(simp (disch:=omega) only[aa];omega)) (by have:=fp ua tb hc (by omega);first|omega|(simp (disch:=omega) only[aa];omega)) ?_;rintro _ ⟨x,rfl,hx0,s9⟩ Rq)
  |(refine lX (Nat.zero_le _) (by omega) (.inr rfl) ?_)
  |(refine lX (by have:=fp ua tb hc (by omega);first|omega|(simp (disch:=omega) only[aa];omega)) (by have:=fp ua tb hc (by omega);first|omega|(simp (disch:=omega) only[aa];omega)) (.inl (by have:=fp ua tb hc (by omega);first|omega|(simp (disch:=omega) only[aa];omega))) ?_)
  |(refine And.intro ⟨(by have:=fp ua tb hc (by omega);first|omega|(simp (disch:=omega) only[aa];omega)),(by have:=fp ua tb hc (by omega);first|omega|(simp (disch:=omega) only[aa];omega)),(by have:=fp ua tb hc (by omega);first|omega|(simp (disch:=omega) only[aa];omega)),(by have:=fp ua tb hc (by omega);first|omega|(simp (disch:=omega) only[aa];omega))⟩ ?_)
  |(refine And.intro ⟨(by have:=fp ua tb hc (by omega);first|omega|(simp (disch:=omega) only[aa];omega)),(by have:=fp ua tb hc (by omega);first|omega|(simp (disch:=omega) only[aa];omega))⟩ ?_)
  |(refine And.intro (by have:=fp ua tb hc (by omega);first|omega|(simp (disch:=omega) only[aa];omega)) ?_)
  |(refine And.intro (by kernel_rfl) ?_)
  |(refine ai rfl (cL xs hx (by omega)) ?_;rintro _ ⟨ps,rfl,⟨la,ua,va,ta,_⟩⟩)
  |(refine ai rfl (cL ys hy (by omega)) ?_;rintro _ ⟨qs,rfl,⟨lb',ub,vb,tb,_⟩⟩)
  |(refine ai rfl (jf ps qs ua ub (by omega) (by omega)) ?_;rintro _ ⟨c,rfl,hc⟩)
  |(refine ai rfl (jC ps ua (by omega)) ?_;rintro _ ⟨ns,rfl,⟨ln,un,tn⟩,vn⟩)
  |(refine ai rfl (yE ps x ua (by omega) (one_pos (by omega) Rq tb hx0).1 s9) ?_;rintro _ ⟨zs,r,rfl,⟨lz,uz,tz⟩,td,kC⟩)
  |(refine ai rfl (qA _ (jO _) (by rw[u64_in (by omega) (by omega)];omega)) ?_;rintro _ ⟨os,rfl,⟨lo,uo,to⟩,vo⟩)
  |(refine ai rfl (kU x (nw (by omega) rfl (by omega) Rq tb hx0).1 s9) ?_;rintro _ ⟨s,rfl,hs0,hs1,hxs⟩)
  |(refine D5 rfl (pN ps s ua (by omega) hs0 (by omega)) ?_;rintro us ⟨uw,hu2,hu3⟩)
  |(refine D5 rfl (pN qs s ub (by omega) hs0 (by omega)) ?_;rintro vs ⟨CT,Xb,Zp⟩)
  |(refine fu [4,8] rfl (yG nt vs i qs.length TP Xb (by omega) (by omega) (by have:=fp ua tb hc (by omega);first|omega|(simp (disch:=omega) only[aa];omega)) (by omega) (by omega) (QC TP LI hj Xo) _ (Exists.choose_spec (Gj ub tb rfl (by omega) (nw (by omega) rfl (by omega) Rq tb hx0).2 (by omega) hxs ⟨CT,Xb,Zp⟩).top).1 (Exists.choose_spec (Gj ub tb rfl (by omega) (nw (by omega) rfl (by omega) Rq tb hx0).2 (by omega) hxs ⟨CT,Xb,Zp⟩).top).2) (acZ (by omega) (by have:=fp ua tb hc (by omega);first|omega|(simp (disch:=omega) only[aa];omega)) (by omega) rfl) afY ?_;rintro _ _ ⟨Az,d,rfl,rfl,hl3,hU3,CU,DV,RU⟩)
  |(refine bJ (xs:=TA) rfl ZE (by omega) ?_;rintro _ ⟨q0,rfl,_,_⟩ _)
  |(refine IN rfl rfl (dY TA ZE (by omega)) (Wm (by have:=fp ua tb hc (by omega);first|omega|(simp (disch:=omega) only[aa];omega)) rfl) rfl ?_;rintro _ ⟨k2,rfl,MR,hT⟩)
  |(refine IN rfl rfl (wR nt qs.length s TP (by have:=fp ua tb hc (by omega);first|omega|(simp (disch:=omega) only[aa];omega)) (by omega) hs0 hs1) (Wm (by omega) rfl) rfl ?_;rintro _ ⟨rs,rfl,⟨lr,ur,tr'⟩,vr⟩)
  |exact H6 rfl (bR 1 rfl) (bR 1 rfl) (bS rfl) ⟨_,_,_,rfl,⟨by simp,Us.nil⟩,⟨by simp,Us.nil,by simp⟩,fun h=>absurd (vb.symm.trans (MA (by omega))) h⟩
  |exact H6 rfl (bR 1 rfl) (bS rfl) (bS rfl) ⟨_,_,_,rfl,⟨by simp,Us.nil⟩,⟨by omega,un,tn⟩,fun _=>by rw[vn, ←vb];exact hc.1.1 (by omega)⟩
  |exact H6 rfl (bS rfl) (bS rfl) (bS rfl) ⟨_,_,_,rfl,⟨by omega,uz⟩,⟨by omega,uo,to⟩,fun _=>by rw[vo,u64_in (by omega) (by omega), ←vb,(one_pos (by omega) Rq tb hx0).2];omega⟩
  |exact H6 rfl (fz rfl rfl (xs:=TA) rfl (by omega)) (bS rfl) (bS rfl) ⟨_,_,_,rfl,⟨by simp only[List.length_take,List.length_drop];omega,ZE.cut _ _⟩,⟨by omega,ur,tr'⟩,fun _=>QH vb (Gj ub tb rfl (by omega) (nw (by omega) rfl (by omega) Rq tb hx0).2 (by omega) hxs ⟨CT,Xb,Zp⟩) Xo vr⟩
  |(apply bp [9,10,11,12,13,14] [] [14] [(4,1),(8,1),(12,1)] (Fl qs.length ps.length (dI vs 0 qs.length) vs) (ps.length+1 - qs.length) [_];(conv=>whnf);exact⟨rfl,rfl,rfl,rfl⟩;exact rfl;exact rfl;exact .cons (az.av rfl _) (.cons (az.av rfl _) (.cons (az.av (az.replicate _ [tU 0]) _) .nil));exact Fl.zero ua uw hu2 hu3 (Gj ub tb rfl (by omega) (nw (by omega) rfl (by omega) Rq tb hx0).2 (by omega) hxs ⟨CT,Xb,Zp⟩) tb rfl (by omega) (fp ua tb hc (by omega)) (by omega) (by have:=fp ua tb hc (by omega);rw[bh (by omega) (by omega)];omega);rintro _ _ _ ⟨j,z,nt,TA,hj,hmj,rfl,rfl,LI,TP,Zt,ZE,Xo,(⟨rfl,rfl⟩|⟨i,rfl,rfl⟩)⟩)
  |(refine ak [9,10,11,12,13,14] [] ?_;(conv=>whnf);exact⟨rfl,_,[_],_, .cons (az.av (az.av (xs:=Az) rfl _) _) (.cons (az.av (az.av (xs:=vs) rfl _) _) (.cons (az.av (az.set (xs:=TA) rfl _ [tU _]) _) .nil)),Fl.next (us:=nt) hj (by omega) LI hl3 hU3 Zt ZE CU DV RU,rfl,rfl,by omega⟩))
 all_goals (conv=>whnf)
theorem MH {bs:Lz} (h: ∀e,bs.getLast? =some e→lb e≠0) (hl:(bs.length:Int) > 0):nv bs≠0:=by
 have g:=Cu h (by intro e;subst e;simp at hl)
 have:=PY (bs.length - 1)
 omega
theorem uZ (k:Nat) (xs ys:Lz) (hl:xs.length≤k) (hx:Us xs) (hm:ys.length≤k) (hy:Us ys) (hk:k≤200000) (fS:2≤k) (hp:nv ys≠0): ∃ts,Fn Tryz.prog 243 [oL 1 xs,oL 1 ys] [] (aL ts) []∧(aL ts).bL=true∧ ∃qs rs ok,ts=[oL 1 qs,oL 1 rs,oB ok]∧Nm k rs∧nv rs < nv ys:=by
 obtain⟨ts,h1,h2,qs,rs,ok,h3,_,h4,h5⟩:=iC k xs ys hl hx hm hy hk fS
 exact⟨ts,h1,h2,qs,rs,ok,h3,h4,h5 hp⟩
theorem Cz (k:Nat) (xs ys:Lz) (hl:xs.length≤k) (hx:Us xs) (hm:ys.length≤k) (hy:Us ys) (hk:k≤200000) (fS:2≤k):Tg 242 [oL 1 xs,oL 1 ys] (GL 1 (fun zs=>zs.length≤k∧Us zs)):=by
 refine ah Tryz.func242 ?_
 repeat' (conv=>whnf
          first
  |(refine au (fun h=>?_) (fun h=>?_))
  |(refine ai rfl (jC xs hx (by omega)) ?_;rintro _ ⟨ps,rfl,⟨la,ua,ta⟩,va⟩)
  |(refine ai rfl (jC ys hy (by omega)) ?_;rintro _ ⟨qs,rfl,⟨lb',ub,tb⟩,vb⟩)
  |(refine ai rfl (uZ k a b l1 u1 l2 u2 hk fS (MH t2 (by omega))) ?_;rintro _ ⟨q0,rs,ok,rfl,hN,hlt⟩)
  |exact ZG rfl rfl ⟨l1,u1⟩
  |(apply aM [0,1] [] [0,1] (fun m vs=> ∃a1 b1,(a1.length≤k∧Us a1)∧Nm k b1∧m=nv b1∧vs=[.w (oL 1 a1), .w (oL 1 b1)]) (nv qs) [.w (oL 1 ps), .w (oL 1 qs)];(conv=>whnf);exact⟨rfl,rfl,rfl,rfl⟩;exact rfl;exact rfl;exact⟨ps,qs,⟨by omega,ua⟩,⟨by omega,ub,tb⟩,rfl,rfl⟩;rintro _ _ ⟨a,b,⟨l1,u1⟩,⟨l2,u2,t2⟩,hmb,rfl⟩)
  |(refine ak [0,1] [] ?_;(conv=>whnf);exact⟨rfl,_,[_,_],⟨b,rs,⟨l2,u2⟩,hN,rfl,rfl⟩,rfl,rfl,rfl,by omega⟩))
 all_goals (conv=>whnf)
end Go.aT.Cd
end
section
namespace Go.aT.Cd
open Go Go.Proofs
set_option maxRecDepth 100000
theorem PK:ju Tryz.prog 278=some true:=by kernel_rfl
theorem Oe:cF Tryz.prog 278=some 2:=by kernel_rfl
theorem IJ:ju Tryz.prog 280=some true:=by kernel_rfl
theorem IA:cF Tryz.prog 280=some 3:=by kernel_rfl
abbrev IB (b:Bool) (xs:Lz):W:= .agg [.t (tB b), .t (.aB 1 xs)]
def PW (k:Nat) (ts:List W):Prop:= ∃b xs,ts=[IB b xs]∧xs.length≤k∧Us xs
def GIB (ts:List W):Prop:= ∃n b,ts=[oI n,oB b]
theorem lZ (n:Int):IntKind.u64.wrap n < 18446744073709551616:=by rw[sG];omega
theorem dA (b:Bool) (k:Nat) (xs:Lz) (hl:xs.length≤k) (hx:Us xs) (hk:k≤1000000):Tg 224 [oB b,oL 1 xs] (PW k):=by
 refine aJ ?_
 refine ah Tryz.func224 ?_
 repeat' (conv=>whnf
          first
  |(refine aF (fun h=>?_) (fun h=>?_))
  |(refine ai rfl (jC xs hx (by omega)) ?_;rintro _ ⟨ys,rfl,⟨l1,u1,_⟩,_⟩)
  |exact oP rfl (bE PK Oe rfl rfl (Nat.le_refl _) rfl (cS.refl _)) ⟨_,ys,rfl,by omega,u1⟩)
 all_goals (conv=>whnf)
theorem wY (n:Int):Tg 244 [oI n] (PW 2):=by
 refine aJ ?_
 refine ah Tryz.func244 ?_
 repeat' (conv=>whnf
          first
  |(refine au (fun h=>?_) (fun h=>?_))
  |(refine ai rfl (qA _ (jO _) (lZ _)) ?_;rintro _ ⟨ys,rfl,⟨l1,u1,_⟩,_⟩)
  |(refine ai rfl (dA _ 2 ys (by omega) u1 (by omega)) ?_;rintro _ ⟨b,zs,rfl,l2,u2⟩)
  |exact oP rfl (bE PK Oe rfl rfl (Nat.le_refl _) rfl (cS.refl _)) ⟨_,zs,rfl,by omega,u2⟩)
 all_goals (conv=>whnf)
theorem iD (b:Bool) (k:Nat) (xs:Lz) (hl:xs.length≤k) (hx:Us xs) (hk:k≤1000000):Tg 222 [IB b xs] (PW k):=by
 refine aJ ?_
 refine ah Tryz.func222 ?_
 repeat' (conv=>whnf
          first
  |(refine ai rfl (dA _ k xs hl hx hk) ?_;rintro _ ⟨b,zs,rfl,l2,u2⟩)
  |exact oP rfl (bE PK Oe rfl rfl (Nat.le_refl _) rfl (cS.refl _)) ⟨_,zs,rfl,by omega,u2⟩)
 all_goals (conv=>whnf)
theorem CO (b c:Bool) (k:Nat) (xs ys:Lz) (hl:xs.length≤k) (hx:Us xs) (hm:ys.length≤k) (hy:Us ys) (hk:k≤1000000):Tg 199 [IB b xs,IB c ys] GI:=by
 refine ah Tryz.func199 ?_
 repeat' (conv=>whnf
          first
  |(refine aF (fun h=>?_) (fun h=>?_))
  |(refine And.intro (by kernel_rfl) ?_)
  |(refine aC rfl (iD _ k xs hl hx hk) ?_;rintro _ ⟨b,zs,rfl,l2,u2⟩)
  |(refine aC rfl (iD _ k ys hm hy hk) ?_;rintro _ ⟨b,ws,rfl,l3,u3⟩)
  |(refine ai rfl (jf zs ws u2 u3 (by omega) (by omega)) ?_;rintro _ ⟨n,rfl,_⟩)
  |(refine ai rfl (jf ws zs u3 u2 (by omega) (by omega)) ?_;rintro _ ⟨n,rfl,_⟩)
  |exact gI rfl rfl)
 all_goals (conv=>whnf)
theorem CN (b:Bool) (k:Nat) (xs:Lz) (hl:xs.length≤k) (hx:Us xs) (hk:k≤1000000):Tg 247 [IB b xs] (PW k):=by
 refine aJ ?_
 refine ah Tryz.func247 ?_
 repeat' (conv=>whnf
          first
  |(refine ai rfl (dA _ k xs hl hx hk) ?_;rintro _ ⟨b,zs,rfl,l2,u2⟩)
  |exact oP rfl (bE PK Oe rfl rfl (Nat.le_refl _) rfl (cS.refl _)) ⟨_,zs,rfl,by omega,u2⟩)
 all_goals (conv=>whnf)
theorem CP (b c:Bool) (k:Nat) (xs ys:Lz) (hl:xs.length≤k) (hx:Us xs) (hm:ys.length≤k) (hy:Us ys) (hk:k≤400000):Tg 246 [IB b xs,IB c ys] (PW (k+1)):=by
 refine aJ ?_
 refine ah Tryz.func246 ?_
 repeat' (conv=>whnf
          first
  |(refine au (fun h=>?_) (fun h=>?_))
  |(refine aF (fun h=>?_) (fun h=>?_))
  |(refine And.intro (by kernel_rfl) ?_)
  |(refine aC rfl (kz xs ys hx hy (by omega) (by omega)) ?_;rintro _ ⟨zs,rfl,⟨l1,u1,_⟩⟩)
  |(refine ai rfl (uh xs ys hx hy (by omega) (by omega)) ?_;rintro _ ⟨zs,q,rfl,⟨l1,u1,_⟩⟩)
  |(refine ai rfl (uh ys xs hy hx (by omega) (by omega)) ?_;rintro _ ⟨ws,q2,rfl,⟨l4,u4,_⟩⟩)
  |(refine ai rfl (dA _ (k+1) zs (by omega) u1 (by omega)) ?_;rintro _ ⟨b,ws,rfl,l2,u2⟩)
  |(refine aC rfl (dA _ (k+1) zs (by omega) u1 (by omega)) ?_;rintro _ ⟨b,ws,rfl,l2,u2⟩)
  |(refine ai rfl (dA _ (k+1) ws (by omega) u4 (by omega)) ?_;rintro _ ⟨b,ws,rfl,l2,u2⟩)
  |exact oP rfl (bE PK Oe rfl rfl (Nat.le_refl _) rfl (cS.refl _)) ⟨_,ws,rfl,by omega,u2⟩)
 all_goals (conv=>whnf)
theorem jh (b c:Bool) (k:Nat) (xs ys:Lz) (hl:xs.length≤k) (hx:Us xs) (hm:ys.length≤k) (hy:Us ys) (hk:k≤400000):Tg 200 [IB b xs,IB c ys] (PW (2 * k)):=by
 refine aJ ?_
 refine ah Tryz.func200 ?_
 repeat' (conv=>whnf
          first
  |(refine And.intro (by kernel_rfl) ?_)
  |(refine aC rfl (je xs ys hx hy (by omega) (by omega)) ?_;rintro _ ⟨zs,rfl,⟨l1,u1,_⟩⟩)
  |(refine aC rfl (dA _ (2 * k) zs (by omega) u1 (by omega)) ?_;rintro _ ⟨b,ws,rfl,l2,u2⟩)
  |exact oP rfl (bE PK Oe rfl rfl (Nat.le_refl _) rfl (cS.refl _)) ⟨_,ws,rfl,by omega,u2⟩)
 all_goals (conv=>whnf)
theorem yL (b:Bool) (k:Nat) (xs:Lz) (hl:xs.length≤k) (hx:Us xs) (hk:k≤1000000):Tg 234 [IB b xs] GIB:=by
 refine aJ ?_
 refine ah Tryz.func234 ?_
 repeat' (conv=>whnf
          first
  |(refine au (fun h=>?_) (fun h=>?_))
  |(refine aF (fun h=>?_) (fun h=>?_))
  |(refine And.intro (show 0≤IntKind.i64.wrap (32 * (i:Int)) by rw[aa (by omega) (by omega)];omega) ?_)
  |(refine aq u2 (by first|omega|exact bF (by first|omega|(simp (disch:=omega) only[aa];omega))|(simp (disch:=omega) only[aa];omega)) (by first|omega|exact bq (by omega)|(simp (disch:=omega) only[aa];omega)) ?_;rintro _ ⟨x,rfl,hx0,s9⟩ hs)
  |(refine ai rfl (iD _ k xs hl hx hk) ?_;rintro _ ⟨b,ys,rfl,l2,u2⟩)
  |exact dg rfl (bS rfl) (bS rfl) ⟨_,_,rfl⟩
  |(apply aM [1,4,14,15,16] [] [4,16] (fun m vs=> ∃ (i:Nat) (n:Int),i≤ys.length∧m=ys.length - i∧vs=[iV .u64 n,iV .i64 i]) (ys.length) [iV .u64 0,iV .i64 0];(conv=>whnf);exact⟨rfl,rfl,rfl,rfl⟩;exact rfl;exact rfl;exact⟨0,0,by omega,rfl,rfl⟩;rintro _ _ ⟨i,n,hi,rfl,rfl⟩)
  |(refine ak [1,4,14,15,16] [] ?_;(conv=>whnf);exact⟨rfl,_,[_,_],⟨i+1,_,by omega,rfl,by rw[aa (n:=(i:Int)+1) (by omega) (by omega)];rfl⟩,rfl,rfl,rfl,by omega⟩))
 all_goals (conv=>whnf)
abbrev iQ (b:Bool) (xs ds:Lz):W:= .agg [.t (tB b), .t (.aB 1 xs), .t (.aB 1 ds)]
def zd (k:Nat) (ts:List W):Prop:= ∃b xs ds,ts=[iQ b xs ds]∧(xs.length≤k∧Us xs)∧ds.length≤k∧Us ds
def Lo (k:Nat) (ts:List W):Prop:= ∃b xs ds q,ts=[iQ b xs ds,oB q]∧(xs.length≤k∧Us xs)∧ds.length≤k∧Us ds
theorem eD {r s:List C} (h:cS r s):cS (.t iK::r) (.t (.aB 1 [])::s):= .cons (.nil 1) h
theorem fO {c:C} {r s:List C} (h:cS r s):cS (c::r) (c::s):= .cons (.refl c) h
theorem Bd (xs:Lz) (hx:Us xs) (hl:xs.length≤1000000): ∃ts,Fn Tryz.prog 223 [oL 1 xs, .one (.t iK)] [] (aL ts) []∧(aL ts).bL=true∧kZ (fun n=>Iw n (nv xs) (nv [])) ts:=
 Gc (jf xs [] hx Us.nil hl (by simp)) (.cons (B3.refl _) (.cons (.one (.nil 1)) .nil))
theorem wG (k:Nat) (xs:Lz) (hl:xs.length≤k) (hx:Us xs) (hk:k≤1000000):Tg 220 [oL 1 xs] GB:=by
 refine ah Tryz.func220 ?_
 repeat' (conv=>whnf
          first
  |(refine ai rfl (Bd xs hx (by omega)) ?_;rintro _ ⟨n,rfl,_⟩)
  |exact gB rfl rfl)
 all_goals (conv=>whnf)
theorem iz (xs:Lz): ∃ts,Fn Tryz.prog 201 [oL 1 xs] [] (aL ts) []∧(aL ts).bL=true∧(fun ts=>ts=[IB false xs]) ts:=by
 refine aJ ?_
 refine ah Tryz.func201 ?_
 repeat' (conv=>whnf
          first
  |exact oP rfl (bE PK Oe rfl rfl (Nat.le_refl _) rfl (cS.refl _)) rfl)
 all_goals (conv=>whnf)
theorem dn (b:Bool) (k:Nat) (xs ds:Lz) (hl:xs.length≤k) (hx:Us xs) (hm:ds.length≤k) (hd:Us ds) (hk:k≤1000000) (fS:2≤k):Tg 198 [iQ b xs ds] (zd k):=by
 refine aJ ?_
 refine ah Tryz.func198 ?_
 repeat' (conv=>whnf
          first
  |(refine aF (fun h=>?_) (fun h=>?_))
  |(refine ai rfl (wG k ds hm hd hk) ?_;rintro _ ⟨q,rfl⟩)
  |(refine ai rfl (qA 1 (by omega) (by omega)) ?_;rintro _ ⟨ys,rfl,⟨l1,u1,_⟩,_⟩)
  |exact oP rfl (bE IJ IA rfl rfl (Nat.le_refl _) rfl (cS.refl _)) ⟨_,xs,ds,rfl,⟨hl,hx⟩,hm,hd⟩
  |exact oP rfl (bE IJ IA rfl rfl (Nat.le_refl _) rfl (fO (eD (fO .nil)))) ⟨_,[],ys,rfl,⟨by simp,Us.nil⟩,by omega,u1⟩)
 all_goals (conv=>whnf)
theorem iy (b:Bool) (k:Nat) (xs ds:Lz) (hl:xs.length≤k) (hx:Us xs) (hm:ds.length≤k) (hd:Us ds) (hk:k≤200000) (fS:2≤k):Tg 229 [IB b xs,oL 1 ds] (zd k):=by
 refine aJ ?_
 refine ah Tryz.func229 ?_
 repeat' (conv=>whnf
          first
  |(refine ai rfl (Cz k xs ds hl hx hm hd hk fS) ?_;rintro _ ⟨gs,rfl,lg,ug⟩)
  |(refine ai rfl (iC k xs gs hl hx lg ug hk fS) ?_;rintro _ ⟨qs,rs,ok,rfl,⟨l1,u1⟩,⟨l2,u2,_⟩,_⟩)
  |(refine ai rfl (iC k ds gs hm hd lg ug hk fS) ?_;rintro _ ⟨TA,rs2,ok2,rfl,⟨l3,u3⟩,⟨l4,u4,_⟩,_⟩)
  |(refine ai rfl (iD _ k qs l1 u1 (by omega)) ?_;rintro _ ⟨c,ws,rfl,l5,u5⟩)
  |exact oP rfl (bE IJ IA rfl rfl (Nat.le_refl _) rfl (cS.refl _)) ⟨_,ws,TA,rfl,⟨l5,u5⟩,l3,u3⟩)
 all_goals (conv=>whnf)
theorem Cn (n d:Int):Tg 233 [oI n,oI d] (Lo 2):=by
 refine aJ ?_
 refine ah Tryz.func233 ?_
 repeat' (conv=>whnf
          first
  |(refine au (fun h=>?_) (fun h=>?_))
  |(refine ai rfl (wY n) ?_;rintro _ ⟨b,xs,rfl,l1,u1⟩)
  |(refine ai rfl (wY d) ?_;rintro _ ⟨c,ds,rfl,l2,u2⟩)
  |(refine ai rfl (iy _ 2 xs ds l1 u1 l2 u2 (by omega) (by omega)) ?_;rintro _ ⟨e,ys,es,rfl,⟨l3,u3⟩,l4,u4⟩)
  |exact dg rfl (bE IJ IA rfl rfl (Nat.le_refl _) rfl (cS.refl _)) (bS rfl) ⟨_,ys,es,_,rfl,⟨l3,u3⟩,l4,u4⟩
  |exact dg rfl (bE IJ IA rfl rfl (Nat.le_refl _) rfl (fO (eD (eD .nil)))) (bS rfl) ⟨_,[],[],_,rfl,⟨by simp,Us.nil⟩,by simp,Us.nil⟩)
 all_goals (conv=>whnf)
theorem Hl (b c:Bool) (k:Nat) (xs ds ys es:Lz) (hl:xs.length≤k) (hx:Us xs) (hm:ds.length≤k) (hd:Us ds) (rI:ys.length≤k) (hy:Us ys) (tf:es.length≤k) (he:Us es) (hk:k≤200000) (fS:2≤k):Tg 177 [iQ b xs ds,iQ c ys es] GI:=by
 refine ah Tryz.func177 ?_
 repeat' (conv=>whnf
          first
  |(refine And.intro (by kernel_rfl) ?_)
  |(refine aC rfl (dn _ k xs ds hl hx hm hd (by omega) fS) ?_;rintro _ ⟨b1,x1,d1,rfl,⟨l1,u1⟩,l2,u2⟩)
  |(refine aC rfl (dn _ k ys es rI hy tf he (by omega) fS) ?_;rintro _ ⟨b2,x2,d2,rfl,⟨l3,u3⟩,l4,u4⟩)
  |(refine aC rfl (iz d2) ?_;rintro _ rfl)
  |(refine aC rfl (iz d1) ?_;rintro _ rfl)
  |(refine aC rfl (jh _ _ k x1 d2 l1 u1 l4 u4 (by omega)) ?_;rintro _ ⟨b3,x3,rfl,l5,u5⟩)
  |(refine aC rfl (jh _ _ k x2 d1 l3 u3 l2 u2 (by omega)) ?_;rintro _ ⟨b4,x4,rfl,l6,u6⟩)
  |(refine aC rfl (CO _ _ (2 * k) x3 x4 l5 u5 l6 u6 (by omega)) ?_;rintro _ ⟨n,rfl⟩)
  |exact gI rfl rfl)
 all_goals (conv=>whnf)
theorem Hh (b:Bool) (k:Nat) (xs ds:Lz) (hl:xs.length≤k) (hx:Us xs) (hm:ds.length≤k) (hd:Us ds) (hk:k≤200000) (fS:2≤k):Tg 237 [iQ b xs ds] (zd k):=by
 refine aJ ?_
 refine ah Tryz.func237 ?_
 repeat' (conv=>whnf
          first
  |(refine And.intro (by kernel_rfl) ?_)
  |(refine ai rfl (dn _ k xs ds hl hx hm hd (by omega) fS) ?_;rintro _ ⟨b1,x1,d1,rfl,⟨l1,u1⟩,l2,u2⟩)
  |(refine aC rfl (CN _ k x1 l1 u1 (by omega)) ?_;rintro _ ⟨b3,x3,rfl,l5,u5⟩)
  |(refine aC rfl (iy _ k x3 d1 l5 u5 l2 u2 hk fS) ?_;rintro _ ⟨b4,x4,d4,rfl,⟨l6,u6⟩,l7,u7⟩)
  |exact oP rfl (bE IJ IA rfl rfl (Nat.le_refl _) rfl (cS.refl _)) ⟨_,x4,d4,rfl,⟨l6,u6⟩,l7,u7⟩)
 all_goals (conv=>whnf)
theorem zz (b c:Bool) (k:Nat) (xs ds ys es:Lz) (hl:xs.length≤k) (hx:Us xs) (hm:ds.length≤k) (hd:Us ds) (rI:ys.length≤k) (hy:Us ys) (tf:es.length≤k) (he:Us es) (hk:k≤90000) (fS:2≤k):Tg 236 [iQ b xs ds,iQ c ys es] (zd (2 * k+1)):=by
 refine aJ ?_
 refine ah Tryz.func236 ?_
 repeat' (conv=>whnf
          first
  |(refine And.intro (by kernel_rfl) ?_)
  |(refine aC rfl (dn _ k xs ds hl hx hm hd (by omega) fS) ?_;rintro _ ⟨b1,x1,d1,rfl,⟨l1,u1⟩,l2,u2⟩)
  |(refine aC rfl (dn _ k ys es rI hy tf he (by omega) fS) ?_;rintro _ ⟨b2,x2,d2,rfl,⟨l3,u3⟩,l4,u4⟩)
  |(refine aC rfl (iz d2) ?_;rintro _ rfl)
  |(refine aC rfl (iz d1) ?_;rintro _ rfl)
  |(refine aC rfl (jh _ _ k x1 d2 l1 u1 l4 u4 (by omega)) ?_;rintro _ ⟨b3,x3,rfl,l5,u5⟩)
  |(refine aC rfl (jh _ _ k x2 d1 l3 u3 l2 u2 (by omega)) ?_;rintro _ ⟨b4,x4,rfl,l6,u6⟩)
  |(refine aC rfl (CP _ _ (2 * k) x3 x4 l5 u5 l6 u6 (by omega)) ?_;rintro _ ⟨b5,x5,rfl,l7,u7⟩)
  |(refine aC rfl (je d1 d2 u2 u4 (by omega) (by omega)) ?_;rintro _ ⟨x6,rfl,⟨l8,u8,_⟩⟩)
  |(refine aC rfl (iy _ (2 * k+1) x5 x6 l7 u7 (by omega) u8 (by omega) (by omega)) ?_;rintro _ ⟨b7,x7,d7,rfl,⟨l9,u9⟩,IC,L9⟩)
  |exact oP rfl (bE IJ IA rfl rfl (Nat.le_refl _) rfl (cS.refl _)) ⟨_,x7,d7,rfl,⟨l9,u9⟩,IC,L9⟩)
 all_goals (conv=>whnf)
theorem Hg (b c:Bool) (k:Nat) (xs ds ys es:Lz) (hl:xs.length≤k) (hx:Us xs) (hm:ds.length≤k) (hd:Us ds) (rI:ys.length≤k) (hy:Us ys) (tf:es.length≤k) (he:Us es) (hk:k≤90000) (fS:2≤k):Tg 215 [iQ b xs ds,iQ c ys es] (zd (2 * k+1)):=by
 refine aJ ?_
 refine ah Tryz.func215 ?_
 repeat' (conv=>whnf
          first
  |(refine And.intro (by kernel_rfl) ?_)
  |(refine aC rfl (Hh _ k ys es rI hy tf he (by omega) fS) ?_;rintro _ ⟨b2,x2,d2,rfl,⟨l3,u3⟩,l4,u4⟩)
  |(refine aC rfl (zz _ _ k xs ds x2 d2 hl hx hm hd l3 u3 l4 u4 hk fS) ?_;rintro _ ⟨b7,x7,d7,rfl,⟨l9,u9⟩,IC,L9⟩)
  |exact oP rfl (bE IJ IA rfl rfl (Nat.le_refl _) rfl (cS.refl _)) ⟨_,x7,d7,rfl,⟨l9,u9⟩,IC,L9⟩)
 all_goals (conv=>whnf)
theorem Hi (b c:Bool) (k:Nat) (xs ds ys es:Lz) (hl:xs.length≤k) (hx:Us xs) (hm:ds.length≤k) (hd:Us ds) (rI:ys.length≤k) (hy:Us ys) (tf:es.length≤k) (he:Us es) (hk:k≤90000) (fS:2≤k):Tg 230 [iQ b xs ds,iQ c ys es] (zd (2 * k)):=by
 refine aJ ?_
 refine ah Tryz.func230 ?_
 repeat' (conv=>whnf
          first
  |(refine And.intro (by kernel_rfl) ?_)
  |(refine aC rfl (dn _ k xs ds hl hx hm hd (by omega) fS) ?_;rintro _ ⟨b1,x1,d1,rfl,⟨l1,u1⟩,l2,u2⟩)
  |(refine aC rfl (dn _ k ys es rI hy tf he (by omega) fS) ?_;rintro _ ⟨b2,x2,d2,rfl,⟨l3,u3⟩,l4,u4⟩)
  |(refine aC rfl (jh _ _ k x1 x2 l1 u1 l3 u3 (by omega)) ?_;rintro _ ⟨b3,x3,rfl,l5,u5⟩)
  |(refine aC rfl (je d1 d2 u2 u4 (by omega) (by omega)) ?_;rintro _ ⟨x6,rfl,⟨l8,u8,_⟩⟩)
  |(refine aC rfl (iy _ (2 * k) x3 x6 l5 u5 (by omega) u8 (by omega) (by omega)) ?_;rintro _ ⟨b7,x7,d7,rfl,⟨l9,u9⟩,IC,L9⟩)
  |exact oP rfl (bE IJ IA rfl rfl (Nat.le_refl _) rfl (cS.refl _)) ⟨_,x7,d7,rfl,⟨l9,u9⟩,IC,L9⟩)
 all_goals (conv=>whnf)
theorem Hj (b c:Bool) (k:Nat) (xs ds ys es:Lz) (hl:xs.length≤k) (hx:Us xs) (hm:ds.length≤k) (hd:Us ds) (rI:ys.length≤k) (hy:Us ys) (tf:es.length≤k) (he:Us es) (hk:k≤90000) (fS:2≤k):Tg 210 [iQ b xs ds,iQ c ys es] (Lo (2 * k)):=by
 refine aJ ?_
 refine ah Tryz.func210 ?_
 repeat' (conv=>whnf
          first
  |(refine aF (fun h=>?_) (fun h=>?_))
  |(refine And.intro (by kernel_rfl) ?_)
  |(refine aC rfl (dn _ k xs ds hl hx hm hd (by omega) fS) ?_;rintro _ ⟨b1,x1,d1,rfl,⟨l1,u1⟩,l2,u2⟩)
  |(refine aC rfl (dn _ k ys es rI hy tf he (by omega) fS) ?_;rintro _ ⟨b2,x2,d2,rfl,⟨l3,u3⟩,l4,u4⟩)
  |(refine ai rfl (wG k x2 l3 u3 (by omega)) ?_;rintro _ ⟨q,rfl⟩)
  |(refine aC rfl (je x1 d2 u1 u4 (by omega) (by omega)) ?_;rintro _ ⟨x5,rfl,⟨l7,u7,_⟩⟩)
  |(refine aC rfl (je d1 x2 u2 u3 (by omega) (by omega)) ?_;rintro _ ⟨x6,rfl,⟨l8,u8,_⟩⟩)
  |(refine aC rfl (iy _ (2 * k) x5 x6 (by omega) u7 (by omega) u8 (by omega) (by omega)) ?_;rintro _ ⟨b7,x7,d7,rfl,⟨l9,u9⟩,IC,L9⟩)
  |exact dg rfl (bE IJ IA rfl rfl (Nat.le_refl _) rfl (cS.refl _)) (bS rfl) ⟨_,x7,d7,_,rfl,⟨l9,u9⟩,IC,L9⟩
  |exact dg rfl (bE IJ IA rfl rfl (Nat.le_refl _) rfl (fO (eD (eD .nil)))) (bS rfl) ⟨_,[],[],_,rfl,⟨by simp,Us.nil⟩,by simp,Us.nil⟩)
 all_goals (conv=>whnf)
theorem Cm (b:Bool) (k:Nat) (xs ds:Lz) (hl:xs.length≤k) (hx:Us xs) (hm:ds.length≤k) (hd:Us ds) (hk:k≤90000) (fS:2≤k):Tg 235 [iQ b xs ds] (PW (k+2)):=by
 refine aJ ?_
 refine ah Tryz.func235 ?_
 repeat' (conv=>whnf
          first
  |(refine And.intro (by kernel_rfl) ?_)
  |(refine ai rfl (dn _ k xs ds hl hx hm hd (by omega) fS) ?_;rintro _ ⟨b1,x1,d1,rfl,⟨l1,u1⟩,l2,u2⟩)
  |(refine ai rfl (kz x1 x1 u1 u1 (by omega) (by omega)) ?_;rintro _ ⟨x2,rfl,⟨l3,u3,_⟩⟩)
  |(refine aC rfl (kz x2 d1 u3 u2 (by omega) (by omega)) ?_;rintro _ ⟨x3,rfl,⟨l4,u4,_⟩⟩)
  |(refine aC rfl (kz d1 d1 u2 u2 (by omega) (by omega)) ?_;rintro _ ⟨x4,rfl,⟨l5,u5,_⟩⟩)
  |(refine aC rfl (iC (k+2) x3 x4 (by omega) u4 (by omega) u5 (by omega) (by omega)) ?_;rintro _ ⟨qs,rs,ok,rfl,⟨l6,u6⟩,⟨l7,u7,_⟩,_⟩)
  |(refine ai rfl (iD _ (k+2) qs l6 u6 (by omega)) ?_;rintro _ ⟨c,ws,rfl,l8,u8⟩)
  |exact oP rfl (bE PK Oe rfl rfl (Nat.le_refl _) rfl (cS.refl _)) ⟨_,ws,rfl,l8,u8⟩)
 all_goals (conv=>whnf)
end Go.aT.Cd
end
section
namespace Go.aT.Cd
open Go Go.Proofs
set_option maxRecDepth 100000
theorem PJ:ju Tryz.prog 325=some true:=by kernel_rfl
theorem Od:cF Tryz.prog 325=some 6:=by kernel_rfl
abbrev dH (k:Nat) (xs ds:Lz):Prop:=(xs.length≤k∧Us xs)∧ds.length≤k∧Us ds
theorem iA {k m:Nat} {xs ds:Lz} (h:dH k xs ds) (hk:k≤m):dH m xs ds:=⟨⟨by have:=h.1.1;omega,h.1.2⟩,by have:=h.2.1;omega,h.2.2⟩
abbrev LR (f:Nat) (us:List W) (G:List W→Prop):Prop:= ∃ts,Fn Tryz.prog f us [] (aL ts) []∧(aL ts).bL=true∧G ts
theorem Wg {k:Nat} {b c:Bool} {xs ds ys es:Lz} (h:dH k xs ds) (g:dH k ys es) (hk:k≤90000) (fS:2≤k):LR 236 [iQ b xs ds,iQ c ys es] (zd (2 * k+1)):=zz b c k xs ds ys es h.1.1 h.1.2 h.2.1 h.2.2 g.1.1 g.1.2 g.2.1 g.2.2 hk fS
theorem QJ {k:Nat} {b c:Bool} {xs ds ys es:Lz} (h:dH k xs ds) (g:dH k ys es) (hk:k≤90000) (fS:2≤k):LR 215 [iQ b xs ds,iQ c ys es] (zd (2 * k+1)):=Hg b c k xs ds ys es h.1.1 h.1.2 h.2.1 h.2.2 g.1.1 g.1.2 g.2.1 g.2.2 hk fS
theorem Mq {k:Nat} {b c:Bool} {xs ds ys es:Lz} (h:dH k xs ds) (g:dH k ys es) (hk:k≤90000) (fS:2≤k):LR 230 [iQ b xs ds,iQ c ys es] (zd (2 * k)):=Hi b c k xs ds ys es h.1.1 h.1.2 h.2.1 h.2.2 g.1.1 g.1.2 g.2.1 g.2.2 hk fS
theorem acR {k:Nat} {b c:Bool} {xs ds ys es:Lz} (h:dH k xs ds) (g:dH k ys es) (hk:k≤90000) (fS:2≤k):LR 210 [iQ b xs ds,iQ c ys es] (Lo (2 * k)):=Hj b c k xs ds ys es h.1.1 h.1.2 h.2.1 h.2.2 g.1.1 g.1.2 g.2.1 g.2.2 hk fS
theorem QK {k:Nat} {b:Bool} {xs ds:Lz} (h:dH k xs ds) (hk:k≤90000) (fS:2≤k):LR 235 [iQ b xs ds] (PW (k+2)):=Cm b k xs ds h.1.1 h.1.2 h.2.1 h.2.2 hk fS
abbrev DR (b:Bool) (xs ds:Lz) (c:Bool) (ys es:Lz):W:= .agg [.t (tB b), .t (.aB 1 xs), .t (.aB 1 ds), .t (tB c), .t (.aB 1 ys), .t (.aB 1 es)]
def T9 (k:Nat) (ts:List W):Prop:= ∃b xs ds c ys es,ts=[DR b xs ds c ys es]∧dH k xs ds∧dH k ys es
def ajC (k:Nat) (ts:List W):Prop:= ∃b xs ds c ys es n,ts=[DR b xs ds c ys es,oI n]∧dH k xs ds∧dH k ys es
theorem Ow (k:Nat):dH k [] []:=⟨⟨by simp,Us.nil⟩,by simp,Us.nil⟩
theorem Jq (x y:Int):Tg 213 [oI x,oI y] (T9 2):=by
 refine aJ ?_
 refine ah Tryz.func213 ?_
 repeat' (conv=>whnf
          first
  |(refine ai rfl (Cn x 1) ?_;rintro _ ⟨b,xs,ds,q,rfl,h1⟩)
  |(refine ai rfl (Cn y 1) ?_;rintro _ ⟨c,ys,es,q2,rfl,h2⟩)
  |exact oP rfl (bE PJ Od rfl rfl (Nat.le_refl _) rfl (cS.refl _)) ⟨_,xs,ds,_,ys,es,rfl,h1,h2⟩)
 all_goals (conv=>whnf)
theorem Hr (k:Nat) (b:Bool) (xs ds:Lz) (c:Bool) (ys es:Lz) (b':Bool) (xs' ds':Lz) (c':Bool) (ys' es':Lz) (h1:dH k xs ds) (h2:dH k ys es) (h3:dH k xs' ds') (h4:dH k ys' es') (hk:k≤90000) (fS:2≤k):Tg 231 [DR b xs ds c ys es,DR b' xs' ds' c' ys' es'] (T9 (2 * k+1)):=by
 refine aJ ?_
 refine ah Tryz.func231 ?_
 repeat' (conv=>whnf
          first
  |(refine And.intro (by kernel_rfl) ?_)
  |(refine aC rfl (Wg h1 h3 hk fS) ?_;rintro _ ⟨b5,x5,d5,rfl,h5⟩)
  |(refine aC rfl (Wg h2 h4 hk fS) ?_;rintro _ ⟨b6,x6,d6,rfl,h6⟩)
  |exact oP rfl (bE PJ Od rfl rfl (Nat.le_refl _) rfl (cS.refl _)) ⟨_,x5,d5,_,x6,d6,rfl,h5,h6⟩)
 all_goals (conv=>whnf)
theorem lE (k:Nat) (b:Bool) (xs ds:Lz) (c:Bool) (ys es:Lz) (b':Bool) (xs' ds':Lz) (c':Bool) (ys' es':Lz) (h1:dH k xs ds) (h2:dH k ys es) (h3:dH k xs' ds') (h4:dH k ys' es') (hk:k≤90000) (fS:2≤k):Tg 192 [DR b xs ds c ys es,DR b' xs' ds' c' ys' es'] (T9 (2 * k+1)):=by
 refine aJ ?_
 refine ah Tryz.func192 ?_
 repeat' (conv=>whnf
          first
  |(refine And.intro (by kernel_rfl) ?_)
  |(refine aC rfl (QJ h1 h3 hk fS) ?_;rintro _ ⟨b5,x5,d5,rfl,h5⟩)
  |(refine aC rfl (QJ h2 h4 hk fS) ?_;rintro _ ⟨b6,x6,d6,rfl,h6⟩)
  |exact oP rfl (bE PJ Od rfl rfl (Nat.le_refl _) rfl (cS.refl _)) ⟨_,x5,d5,_,x6,d6,rfl,h5,h6⟩)
 all_goals (conv=>whnf)
theorem Cq (k:Nat) (b:Bool) (xs ds:Lz) (c:Bool) (ys es:Lz) (b':Bool) (xs' ds':Lz) (h1:dH k xs ds) (h2:dH k ys es) (h3:dH k xs' ds') (hk:k≤90000) (fS:2≤k):Tg 232 [DR b xs ds c ys es,iQ b' xs' ds'] (T9 (2 * k)):=by
 refine aJ ?_
 refine ah Tryz.func232 ?_
 repeat' (conv=>whnf
          first
  |(refine And.intro (by kernel_rfl) ?_)
  |(refine aC rfl (Mq h1 h3 hk fS) ?_;rintro _ ⟨b5,x5,d5,rfl,h5⟩)
  |(refine aC rfl (Mq h2 h3 hk fS) ?_;rintro _ ⟨b6,x6,d6,rfl,h6⟩)
  |exact oP rfl (bE PJ Od rfl rfl (Nat.le_refl _) rfl (cS.refl _)) ⟨_,x5,d5,_,x6,d6,rfl,h5,h6⟩)
 all_goals (conv=>whnf)
theorem ud (k:Nat) (b:Bool) (xs ds:Lz) (c:Bool) (ys es:Lz) (b':Bool) (xs' ds':Lz) (c':Bool) (ys' es':Lz) (h1:dH k xs ds) (h2:dH k ys es) (h3:dH k xs' ds') (h4:dH k ys' es') (hk:k≤40000) (fS:2≤k):Tg 211 [DR b xs ds c ys es,DR b' xs' ds' c' ys' es'] (zd (4 * k+1)):=by
 refine aJ ?_
 refine ah Tryz.func211 ?_
 repeat' (conv=>whnf
          first
  |(refine And.intro (by kernel_rfl) ?_)
  |(refine aC rfl (Mq h1 h4 (by omega) fS) ?_;rintro _ ⟨b5,x5,d5,rfl,h5⟩)
  |(refine aC rfl (Mq h2 h3 (by omega) fS) ?_;rintro _ ⟨b6,x6,d6,rfl,h6⟩)
  |(refine aC rfl (QJ h5 h6 (by omega) (by omega)) ?_;rintro _ ⟨b7,x7,d7,rfl,h7⟩)
  |exact oP rfl (bE IJ IA rfl rfl (Nat.le_refl _) rfl (cS.refl _)) ⟨_,x7,d7,rfl,iA h7 (by omega)⟩)
 all_goals (conv=>whnf)
theorem Jp (k:Nat) (b:Bool) (xs ds:Lz) (c:Bool) (ys es:Lz) (b':Bool) (xs' ds':Lz) (c':Bool) (ys' es':Lz) (r:Bool) (rn rd:Lz) (h1:dH k xs ds) (h2:dH k ys es) (h3:dH k xs' ds') (h4:dH k ys' es') (h5:dH k rn rd) (hk:k≤10000) (fS:2≤k):Tg 212 [DR b xs ds c ys es,DR b' xs' ds' c' ys' es',iQ r rn rd] (T9 (8 * k+5)):=by
 refine aJ ?_
 refine ah Tryz.func212 ?_
 repeat' (conv=>whnf
          first
  |(refine And.intro (by kernel_rfl) ?_)
  |(refine aC rfl (lE k _ _ _ _ _ _ _ _ _ _ _ _ h3 h4 h1 h2 (by omega) fS) ?_;rintro _ ⟨b5,x5,d5,c5,y5,e5,rfl,g1,g2⟩)
  |(refine aC rfl (Cq (2 * k+1) _ _ _ _ _ _ _ _ _ g1 g2 (iA h5 (by omega)) (by omega) (by omega)) ?_;rintro _ ⟨b6,x6,d6,c6,y6,e6,rfl,g3,g4⟩)
  |(refine aC rfl (Hr (4 * k+2) _ _ _ _ _ _ _ _ _ _ _ _ (iA h1 (by omega)) (iA h2 (by omega)) (iA g3 (by omega)) (iA g4 (by omega)) (by omega) (by omega)) ?_;rintro _ ⟨b7,x7,d7,c7,y7,e7,rfl,g5,g6⟩)
  |exact oP rfl (bE PJ Od rfl rfl (Nat.le_refl _) rfl (cS.refl _)) ⟨_,x7,d7,_,y7,e7,rfl,iA g5 (by omega),iA g6 (by omega)⟩)
 all_goals (conv=>whnf)
theorem Ep (b1:Bool) (x1 d1:Lz) (c1:Bool) (y1 e1:Lz) (b2:Bool) (x2 d2:Lz) (c2:Bool) (y2 e2:Lz) (b3:Bool) (x3 d3:Lz) (c3:Bool) (y3 e3:Lz) (b4:Bool) (x4 d4:Lz) (c4:Bool) (y4 e4:Lz) (p1:dH 2 x1 d1) (q1:dH 2 y1 e1) (p2:dH 2 x2 d2) (q2:dH 2 y2 e2) (p3:dH 2 x3 d3) (q3:dH 2 y3 e3) (p4:dH 2 x4 d4) (q4:dH 2 y4 e4):Tg 189 [DR b1 x1 d1 c1 y1 e1,DR b2 x2 d2 c2 y2 e2,DR b3 x3 d3 c3 y3 e3,DR b4 x4 d4 c4 y4 e4] (ajC 341):=by
 refine aJ ?_
 refine ah Tryz.func189 ?_
 repeat' (conv=>whnf
          first
  |(refine aF (fun h=>?_) (fun h=>?_))
  |(refine And.intro (by kernel_rfl) ?_)
  |(refine ai rfl (lE 2 _ _ _ _ _ _ _ _ _ _ _ _ p4 q4 p3 q3 (by omega) (by omega)) ?_;rintro _ ⟨b5,x5,d5,c5,y5,e5,rfl,p5,q5⟩)
  |(refine aC rfl (lE 2 _ _ _ _ _ _ _ _ _ _ _ _ p3 q3 p1 q1 (by omega) (by omega)) ?_;rintro _ ⟨b6,x6,d6,c6,y6,e6,rfl,p6,q6⟩)
  |(refine aC rfl (lE 2 _ _ _ _ _ _ _ _ _ _ _ _ p2 q2 p1 q1 (by omega) (by omega)) ?_;rintro _ ⟨b7,x7,d7,c7,y7,e7,rfl,p7,q7⟩)
  |(refine aC rfl (ud 5 _ _ _ _ _ _ _ _ _ _ _ _ p6 q6 p5 q5 (by omega) (by omega)) ?_;rintro _ ⟨b8,x8,d8,rfl,p8⟩)
  |(refine aC rfl (ud 5 _ _ _ _ _ _ _ _ _ _ _ _ p7 q7 p5 q5 (by omega) (by omega)) ?_;rintro _ ⟨b9,x9,d9,rfl,p9⟩)
  |(refine aC rfl (acR p8 p9 (by omega) (by omega)) ?_;rintro _ ⟨b10,x10,d10,ok,rfl,p10⟩)
  |(refine ai rfl (Jp 42 _ _ _ _ _ _ _ _ _ _ _ _ _ _ _ (iA p1 (by omega)) (iA q1 (by omega)) (iA p2 (by omega)) (iA q2 (by omega)) p10 (by omega) (by omega)) ?_;rintro _ ⟨b11,x11,d11,c11,y11,e11,rfl,p11,q11⟩)
  |exact dg rfl (bE PJ Od rfl rfl (Nat.le_refl _) rfl (cS.refl _)) (bS rfl) ⟨_,x11,d11,_,y11,e11,_,rfl,p11,q11⟩
  |exact dg rfl (bE PJ Od rfl rfl (Nat.le_refl _) rfl (fO (eD (eD (fO (eD (eD .nil))))))) (bS rfl) ⟨_,[],[],_,[],[],_,rfl,Ow _,Ow _⟩)
 all_goals (conv=>whnf)
theorem lD (k:Nat) (b:Bool) (xs ds:Lz) (h1:dH k xs ds) (hk:k≤90000) (fS:2≤k):Tg 214 [iQ b xs ds] GIB:=by
 refine aJ ?_
 refine ah Tryz.func214 ?_
 repeat' (conv=>whnf
          first
  |(refine au (fun h=>?_) (fun h=>?_))
  |(refine aF (fun h=>?_) (fun h=>?_))
  |(refine ai rfl (QK h1 hk fS) ?_;rintro _ ⟨c,ys,rfl,l1,u1⟩)
  |(refine ai rfl (yL _ (k+2) ys l1 u1 (by omega)) ?_;rintro _ ⟨n,q,rfl⟩)
  |exact dg rfl (bS rfl) (bS rfl) ⟨_,_,rfl⟩)
 all_goals (conv=>whnf)
def YR (ts:List W):Prop:= ∃s n,ts=[eo s,oI n]
theorem Er (k:Nat) (b:Bool) (xs ds:Lz) (c:Bool) (ys es:Lz) (h1:dH k xs ds) (h2:dH k ys es) (hk:k≤90000) (fS:2≤k):Tg 191 [DR b xs ds c ys es] YR:=by
 refine aJ ?_
 refine ah Tryz.func191 ?_
 repeat' (conv=>whnf
          first
  |(refine aF (fun h=>?_) (fun h=>?_))
  |(refine ai rfl (lD k _ _ _ h1 hk fS) ?_;rintro _ ⟨n,q,rfl⟩)
  |(refine ai rfl (lD k _ _ _ h2 hk fS) ?_;rintro _ ⟨n,q,rfl⟩)
  |exact dg rfl (bE aSp Zc rfl rfl (Nat.le_refl _) rfl (cS.refl _)) (bS rfl) ⟨(_,_),_,rfl⟩)
 all_goals (conv=>whnf)
end Go.aT.Cd
end
section
namespace Go.aT.Cd
open Go Go.Proofs
set_option maxRecDepth 100000
def Ti (xs:Lz) (e:List T) (i:Nat):Prop:= ∀j,j < i→xs[j]? ≠some e
theorem Ti.succ {xs:Lz} {e e':List T} {i:Nat} (h:Ti xs e i) (hs:xs[i]? =some e') (hne:e'≠e):Ti xs e (i+1):=by
 intro j hj he
 by_cases fT:j=i
 · subst fT
   rw[hs]at he
   exact hne (Option.some.inj he)
 · exact h j (by omega) he
theorem Ti.all {xs:Lz} {e:List T} {i:Nat} (h:Ti xs e i) (hi:xs.length≤i):e∉xs:=by
 intro he
 obtain⟨j,hj,rfl⟩:=List.getElem_of_mem he
 exact h j (by omega) (by simp[hj])
theorem Cy {a b c d:Int} (h:(a==c&& (b==d&&true))=false):([tI c,tI d]:List T)≠ [tI a,tI b]:=by
 intro he
 simp only[List.cons.injEq,T.val.injEq,Value.int.injEq,true_and,and_true]at he
 simp[he.1,he.2]at h
def T3 (xs:Lz) (e:List T) (m:Nat) (vs:List V):Prop:= ∃i:Nat,i≤xs.length∧Ti xs e i∧m=xs.length - i∧vs=[iV .i64 (i:Int)]
theorem T3.next {xs:Lz} {e e':List T} {i:Nat} (h:i < xs.length) (hl:xs.length≤1000000) (ha:Ti xs e i) (hs:xs[((i:Int)).toNat]? =some e') (hne:e'≠e):T3 xs e (xs.length - (i+1)) [iV .i64 (IntKind.i64.wrap ((i:Int)+1))]:=
 ⟨i+1,h,ha.succ (by simpa using hs) hne,rfl,by rw[aa (by omega) (by omega)];rfl⟩
theorem JP (xs:Lz) (a b:Int) (hx:bG xs) (hl:xs.length≤1000000):Tg 139 [oL 2 xs,eo (a,b)] (kZ (fun n=> -1≤n∧(n < 0→[tI a,tI b]∉xs))):=by
 refine ah Tryz.func139 ?_
 repeat' (conv=>whnf
          first
  |(refine au (fun h=>?_) (fun h=>?_))
  |(refine aF (fun h=>?_) (fun h=>?_))
  |(refine aq hx (by first|omega|exact bF (by first|omega|(simp (disch:=omega) only[aa];omega))|(simp (disch:=omega) only[aa];omega)) (by first|omega|exact bq (by omega)|(simp (disch:=omega) only[aa];omega)) ?_;rintro _ ⟨c,d,rfl⟩ hs)
  |(refine And.intro (by kernel_rfl) ?_)
  |(refine gi rfl rfl ⟨by omega,fun h=>?_⟩;first|(exfalso;omega)|exact ha.all (by omega))
  |(apply aM [0,3,7,8] [] [8] (T3 xs [tI a,tI b]) (xs.length) [iV .i64 0];(conv=>whnf);exact⟨rfl,rfl,rfl,rfl⟩;exact rfl;exact rfl;exact⟨0,by omega,fun j hj=>by omega,rfl,rfl⟩;rintro _ _ ⟨i,hi,ha,rfl,rfl⟩)
  |(refine ak [0,3,7,8] [] ?_;(conv=>whnf);exact⟨rfl,_,[_],T3.next (by omega) hl ha hs (Cy h),rfl,rfl,rfl,by omega⟩))
 all_goals (conv=>whnf)
theorem Dq (xs:Lz) (a b:Int) (hx:bG xs) (hl:xs.length≤1000000):Tg 106 [oL 2 xs,eo (a,b)] (GBq ([tI a,tI b]∉xs)):=by
 refine ah Tryz.func106 ?_
 repeat' (conv=>whnf
          first
  |(refine ai rfl (JP xs _ _ hx hl) ?_;rintro _ ⟨n,rfl,vS,hn⟩)
  |exact gBq rfl rfl (fun h=>hn (by simpa using h)))
 all_goals (conv=>whnf)
def GQ (xs:Lz) (n:Nat):Prop:= ∀j e,j < n→xs[j]? =some e→e∉xs.take j
theorem GQ.succ {xs:Lz} {i:Nat} {e:List T} (h:GQ xs i) (hs:xs[i]? =some e) (hn:e∉xs.take i):GQ xs (i+1):=by
 intro j e' hj he
 by_cases fT:j=i
 · subst fT
   rw[hs]at he
   rw[←Option.some.inj he];exact hn
 · exact h j e' (by omega) he
def Ix (xs:Lz) (m:Nat) (vs:List V):Prop:= ∃i:Nat,i≤xs.length∧GQ xs i∧m=xs.length - i∧vs=[iV .i64 (i:Int)]
theorem Ix.next {xs:Lz} {e:List T} {i:Nat} (h:i < xs.length) (hl:xs.length≤1000000) (ha:GQ xs i) (hs:xs[((i:Int)).toNat]? =some e) (hne:e∉ (xs.drop 0).take ((i:Int).toNat - 0)):Ix xs (xs.length - (i+1)) [iV .i64 (IntKind.i64.wrap ((i:Int)+1))]:=
 ⟨i+1,h,ha.succ (by simpa using hs) (by simpa using hne),rfl,by rw[aa (by omega) (by omega)];rfl⟩
def Uf (p:Prop) (ts:List W):Prop:= ∃b,ts=[.one (.t (.val (.bool b)))]∧(b=true→p)
theorem O1 {P:Program} {rs:List ResultVar} {tm:TS} {hp:HS} {t:Nat} {b:Bool} {p:Prop} (hr:rs=[.tmp t]) (h:find tm t=some (bV b)) (hp2:b=true→p): ∃us ts,aN P hp tm rs=some us∧bM (bY hp) us=some ts∧Uf p ts:=g1 hr h ⟨b,rfl,hp2⟩
theorem Gk {xs:Lz} {i:Nat} (h:GQ xs i) (hi:xs.length≤i):GQ xs xs.length:=fun j e hj he=>h j e (by omega) he
theorem Ei (xs:Lz) (hx:bG xs) (hl:xs.length≤1000000):Tg 81 [oL 2 xs] (Uf (GQ xs xs.length)):=by
 refine ah Tryz.func81 ?_
 repeat' (conv=>whnf
          first
  |(refine au (fun h=>?_) (fun h=>?_))
  |(refine ca (fun h=>?_) (fun h=>?_))
  |(refine aF (fun h=>?_) (fun h=>?_))
  |(refine gK (by omega) (by omega) ?_)
  |(refine aq hx (by first|omega|exact bF (by first|omega|(simp (disch:=omega) only[aa];omega))|(simp (disch:=omega) only[aa];omega)) (by first|omega|exact bq (by omega)|(simp (disch:=omega) only[aa];omega)) ?_;rintro _ ⟨a,b,rfl⟩ hs)
  |(refine And.intro (by kernel_rfl) ?_)
  |(refine And.intro (by omega) ?_)
  |(refine aC rfl (Dq _ _ _ (cE hx _ _) (oO hl _ _)) ?_;rintro _ ⟨cb,rfl,hc⟩)
  |(refine aC rfl (nU (_,_) (_,_) (_,_)) ?_;rintro _ ⟨b,rfl⟩)
  |(refine aC rfl (rf (_,_) (_,_) (_,_) (_,_)) ?_;rintro _ ⟨b,rfl⟩)
  |(refine O1 rfl rfl ?_;first|(intro _;exact Gk ha (by omega))|(intro hf;exact absurd hf (by simp)))
  |(apply aM [0,3,6,7,8,9,25,26,27] [] [9] (fun m vs=> ∃j:Nat,i+2≤j∧m=xs.length+2 - j∧j≤xs.length+2∧vs=[iV .i64 j]) (xs.length - i) [iV .i64 (IntKind.i64.wrap ((i:Int)+2))];(conv=>whnf);exact⟨rfl,rfl,rfl,rfl⟩;exact rfl;exact rfl;exact⟨i+2,by omega,by omega,by omega,by rw[aa (by omega) (by omega)];rfl⟩;rintro _ _ ⟨j,hj,rfl,hj2,rfl⟩)
  |(refine ak [0,3,6,7,8,9,25,26,27] [] ?_;(conv=>whnf);exact⟨rfl,_,[_],⟨j+1,by omega,rfl,by omega,by rw[aa (by omega) (by omega)];rfl⟩,rfl,rfl,rfl,by omega⟩)
  |(apply aM [0,3,25,26,27] [] [27] (RI xs.length) (xs.length) [iV .i64 0];(conv=>whnf);exact⟨rfl,rfl,rfl,rfl⟩;exact rfl;exact rfl;exact RI.zero;rintro _ _ ⟨i,hi,rfl,rfl⟩)
  |(refine ak [0,3,25,26,27] [] ?_;(conv=>whnf);exact⟨rfl,_,[_],RI.succ (N:=xs.length) (i:=i) (by omega) (by simp only[maxLen];omega),rfl,rfl,rfl,by omega⟩)
  |(apply aM [0,3,12,13,14] [] [14] (Ix xs) (xs.length) [iV .i64 0];(conv=>whnf);exact⟨rfl,rfl,rfl,rfl⟩;exact rfl;exact rfl;exact⟨0,by omega,fun j e hj=>by omega,rfl,rfl⟩;rintro _ _ ⟨i,hi,ha,rfl,rfl⟩)
  |(refine ak [0,3,12,13,14] [] ?_;(conv=>whnf);exact⟨rfl,_,[_],Ix.next (by omega) hl ha hs (hc (by simp_all)),rfl,rfl,rfl,by omega⟩))
 all_goals (conv=>whnf)
def Ap (xs:Lz):Prop:=Lj xs∧GQ xs xs.length
theorem fJ (xs:Lz) (hx:bG xs) (hl:xs.length≤1000000):Tg 55 [oL 2 xs] (kZ (fun n=>n=0→Ap xs)):=by
 refine ah Tryz.func55 ?_
 repeat' (conv=>whnf
          first
  |(refine au (fun h=>?_) (fun h=>?_))
  |(refine aF (fun h=>?_) (fun h=>?_))
  |(refine ai rfl (dL _ KB sX xs hx hl) ?_;rintro _ ⟨c,rfl,hc⟩)
  |(refine ai rfl (Ei xs hx hl) ?_;rintro _ ⟨d,rfl,hd⟩)
  |(refine gi rfl rfl (fun h0=>?_);first|(exfalso;omega)|exact⟨⟨by omega,by omega,hc (by simp_all)⟩,hd (by simp_all)⟩))
 all_goals (conv=>whnf)
theorem uX (xs:Lz) (hx:bG xs) (hb:40 < xs.length):Tg 182 [oL 2 xs] (kZ (fun n=>n=0→eS xs)):=by
 refine ah Tryz.func182 ?_
 repeat' (conv=>whnf
          first
  |(refine au (fun h=>?_) (fun h=>?_))
  |(refine gi rfl rfl (fun h0=>?_);exfalso;omega)
  |(exfalso;omega))
 all_goals (conv=>whnf)
theorem mR (xs:Lz) (hx:bG xs):LR 182 [oL 2 xs] (kZ (fun n=>n=0→eS xs)):=by
 by_cases h:xs.length≤1000000
 · exact wK xs hx h
 · exact uX xs hx (by omega)
theorem I7 (x:Int):IntKind.i64.wrap (1000000 * x)≤9223372036854775806:=by
 simp only[IntKind.wrap,IntKind.bits,IntKind.signed,Bool.true_and]
 split
 · rename_i h;simp at h⊢;omega
 · rename_i h;simp at h⊢;omega
theorem sS (p q:Sp):Tg 206 [eo p,eo q] GI:=by
 refine ah Tryz.func206 ?_
 repeat' (conv=>whnf
          first
  |(refine And.intro (by kernel_rfl) ?_)
  |(refine ai rfl (yz _ (I7 _)) ?_;rintro _ ⟨n,rfl⟩)
  |exact gI rfl rfl)
 all_goals (conv=>whnf)
def GIE (p:Prop) (ts:List W):Prop:= ∃n e,ts=[oI n,oI e]∧(e=0→p)
theorem Bg {xs:Lz} {i:Nat} (hL:eS xs) (h:(i:Int) < IntKind.i64.wrap ((xs.length:Int) - 1)):(i:Int) < (xs.length:Int)∧0≤IntKind.i64.wrap ((i:Int)+1)∧IntKind.i64.wrap ((i:Int)+1) < (xs.length:Int):=by
 have h1:=hL.1
 have h2:=hL.2.1
 rw[bh (n:=(xs.length:Int) - 1) (by omega) (by omega)]at h
 rw[bh (n:=(i:Int)+1) (by omega) (by omega)]
 omega
theorem mQ (xs:Lz) (hx:bG xs):Tg 185 [oL 2 xs] (GIE (eS xs)):=by
 refine aJ ?_
 refine ah Tryz.func185 ?_
 repeat' (conv=>whnf
          first
  |(refine au (fun h=>?_) (fun h=>?_))
  |(refine ca (fun h=>?_) (fun h=>?_))
  |(refine aq hx (n:=(i:Int)) (by omega) (Bg (he (by omega)) h).1 ?_;rintro _ ⟨a,b,rfl⟩ hs)
  |(refine aq hx (Bg (he (by omega)) h).2.1 (Bg (he (by omega)) h).2.2 ?_;rintro _ ⟨a,b,rfl⟩ hs)
  |(refine And.intro (by kernel_rfl) ?_)
  |(refine ai rfl (mR xs hx) ?_;rintro _ ⟨e,rfl,he⟩)
  |(refine aC rfl (sS (_,_) (_,_)) ?_;rintro _ ⟨n,rfl⟩)
  |exact dg rfl (bS rfl) (bS rfl) ⟨_,_,rfl,fun h0=>he (by omega)⟩
  |(apply aM [0,5,14,15] [] [5,15] (fun m vs=> ∃ (i:Nat) (s:Int),i≤(IntKind.i64.wrap ((xs.length:Int) - 1)).toNat∧m=(IntKind.i64.wrap ((xs.length:Int) - 1)).toNat - i∧vs=[iV .i64 s,iV .i64 i]) ((IntKind.i64.wrap ((xs.length:Int) - 1)).toNat) [iV .i64 0,iV .i64 0];(conv=>whnf);exact⟨rfl,rfl,rfl,rfl⟩;exact rfl;exact rfl;exact⟨0,0,by omega,rfl,rfl⟩;rintro _ _ ⟨i,s,hi,rfl,rfl⟩)
  |(refine ak [0,5,14,15] [] ?_;(conv=>whnf);exact⟨rfl,_,[_,_],⟨i+1,_,by omega,rfl,by have:=tV ((xs.length:Int) - 1);rw[aa (n:=(i:Int)+1) (by omega) (by omega)];rfl⟩,rfl,rfl,rfl,by omega⟩))
 all_goals (conv=>whnf)
end Go.aT.Cd
end
section
namespace Go.aT.Cd
open Go Go.Proofs
set_option maxRecDepth 100000
def Tl (e:List T):Prop:= ∃s xs,e=[.val (.string s), .aB 2 xs]∧s.size≤maxLen∧bG xs∧xs.length≤maxLen
abbrev j7 (es:Lz):Prop:= ∀e,e∈es→Tl e
abbrev oEx (s:ByteArray):W:= .agg [.t (tI 2), .t (tB false), .t iK, .t iK, .t (.val (.string s)), .t iK]
theorem tx (k:Int): ∃ts,Fn Tryz.prog 217 [oI k] [] (aL ts) []∧(aL ts).bL=true∧(fun ts=> ∃a b,ts=[oI a,oI b]) ts:=by
 refine aJ ?_
 refine ah Tryz.func217 ?_
 repeat' (conv=>whnf
          first
  |(refine au (fun h=>?_) (fun h=>?_))
  |exact dg rfl (bS rfl) (bS rfl) ⟨_,_,rfl⟩)
 all_goals (conv=>whnf)
theorem Co:LR 177 [.agg [.t (tB false), .t iK, .t iK], .agg [.t (tB false), .t iK, .t iK]] GI:=
 Gc (Hl false false 2 [] [] [] [] (by simp) Us.nil (by simp) Us.nil (by simp) Us.nil (by simp) Us.nil (by omega) (by omega)) (.cons (.agg (fO (eD (eD .nil)))) (.cons (.agg (fO (eD (eD .nil)))) .nil))
theorem yP (s:ByteArray) (hs:s.size≤maxLen):Tg 197 [oEx s] GB:=by
 refine ah Tryz.func197 ?_
 repeat' (conv=>whnf
          first
  |(refine au (fun h=>?_) (fun h=>?_))
  |(refine aF (fun h=>?_) (fun h=>?_))
  |(refine ai rfl (tx _) ?_;rintro _ ⟨a,b,rfl⟩)
  |(refine ai rfl (xp s hs) ?_;rintro _ ⟨b,rfl⟩)
  |(refine ai rfl (Co) ?_;rintro _ ⟨n,rfl⟩)
  |exact gB rfl rfl)
 all_goals (conv=>whnf)
theorem yQ (s:ByteArray) (hs:s.size≤maxLen) (l:Int):Tg 174 [oEx s,oI l] GI:=by
 refine ah Tryz.func174 ?_
 repeat' (conv=>whnf
          first
  |(refine au (fun h=>?_) (fun h=>?_))
  |(refine aF (fun h=>?_) (fun h=>?_))
  |(refine ai rfl (yP s hs) ?_;rintro _ ⟨b,rfl⟩)
  |exact gI rfl rfl
  |(apply aM [1,14,15,16] [] [16] (RI 0) (0) [iV .i64 0];(conv=>whnf);exact⟨rfl,rfl,rfl,rfl⟩;exact rfl;exact rfl;exact RI.zero;rintro _ _ ⟨i,hi,rfl,rfl⟩))
 all_goals (conv=>whnf)
theorem pT (s:ByteArray) (hs:s.size≤maxLen):Tg 156 [oEx s] GI:=by
 refine ah Tryz.func156 ?_
 repeat' (conv=>whnf
          first
  |(refine ai rfl (yQ s hs _) ?_;rintro _ ⟨b,rfl⟩)
  |exact gI rfl rfl)
 all_goals (conv=>whnf)
theorem wO (s:ByteArray) (hs:s.size≤maxLen):Tg 181 [oS s] GB:=by
 refine ah Tryz.func181 ?_
 repeat' (conv=>whnf
          first
  |(refine ai rfl (pT s hs) ?_;rintro _ ⟨b,rfl⟩)
  |exact gB rfl rfl)
 all_goals (conv=>whnf)
theorem qW (s:ByteArray) (hs:s.size≤maxLen):Tg 129 [oS s] GB:=by
 refine ah Tryz.func129 ?_
 repeat' (conv=>whnf
          first
  |(refine ai rfl (pT s hs) ?_;rintro _ ⟨b,rfl⟩)
  |exact gB rfl rfl)
 all_goals (conv=>whnf)
end Go.aT.Cd
end
section
namespace Go.aT.Cd
open Go Go.Proofs
set_option maxRecDepth 100000
set_option maxHeartbeats 1000000
theorem P8 {sz:Nat} {xs:Lz} {l h:Nat} {K:C→Prop} (h1:l < h) (h2:h≤xs.length) (hk: ∀y ys,(xs.drop l).take (h - l)=y::ys→K (.t (.aB sz (y::ys)))):(l≤h∧h≤xs.length)∧xJ (.t (.aB sz xs)) l h K:=by
 refine gK (by omega) h2 ?_
 have hlen:((xs.drop l).take (h - l)).length=h - l:=by simp;omega
 match hm:(xs.drop l).take (h - l)with
 | []=>rw[hm]at hlen;simp at hlen;omega
 |y::ys=>exact hk y ys hm
def ln (e:List T):Nat:=
 match e with
 | [_, .aB _ xs]=>xs.length - 1
 |_=>0
def iJ:Lz→Nat
 | []=>0
 |e::r=>ln e+iJ r
theorem zJ: ∀ (es:Lz) (e:List T),iJ (es++[e])=iJ es+ln e
 | [],e=>by simp[iJ]
 |x::r,e=>by simp only[List.cons_append,iJ,zJ r e];omega
theorem zI {es:Lz} {i:Nat} {e:List T} (h:es[i]? =some e):iJ (es.take (i+1))=iJ (es.take i)+ln e:=by
 rw[fW h,zJ]
def vt (e:List T):Lz:=
 match e with
 | [_, .aB _ xs]=>xs.take (xs.length - 1)
 |_=>[]
def ir:Lz→Lz
 | []=>[]
 |e::r=>vt e++ir r
theorem wg: ∀ (es:Lz) (e:List T),ir (es++[e])=ir es++vt e
 | [],e=>by simp[ir]
 |x::r,e=>by simp only[List.cons_append,ir,wg r e,List.append_assoc]
theorem D7 {es:Lz} {i:Nat} {e:List T} (h:es[i]? =some e):ir (es.take (i+1))=ir (es.take i)++vt e:=by
 rw[fW h,wg]
def DK (e:List T):Prop:= ∃s xs,e=[.val (.string s), .aB 2 xs]∧eS xs
theorem JI: ∀ {es:Lz},(∀e,e∈es→DK e)→iJ es≤39 * es.length
 | [],_=>by simp[iJ]
 |e::r,h=>by
  obtain⟨s,xs,rfl,hl⟩:=h e List.mem_cons_self
  have h1:=hl.2.1
  have:=JI (es:=r) (fun q hq=>h q (List.mem_cons_of_mem _ hq))
  simp only[iJ,ln,List.length_cons]
  omega
theorem eS.wo {xs:Lz} (h:eS xs):bG xs:=fun e he=>by
 obtain⟨a,b,rfl,_⟩:=h.2.2 e he
 exact⟨a,b,rfl⟩
def ZW (es:Lz) (m:Nat) (ws:List V) (xss:List (Lz)):Prop:= ∃ (i:Nat) (zs:Lz),i≤es.length∧m=es.length - i∧ws=[bD 4 2 zs.length,iV .i64 (i:Int)]∧xss=[zs]∧zs.length=iJ (es.take i)∧bG zs∧zs=ir (es.take i)
theorem ZW.next {es zs:Lz} {i k:Nat} {s:ByteArray} {xs ys:Lz} {y:List T} (hi:(i:Int) < (es.length:Int)) (he:es.length≤16) (hs:es[((i:Int)).toNat]? =some [.val (.string s), .aB 2 xs]) (hl:eS xs) (hz:zs.length=iJ (es.take i)) (hU:bG zs) (hv:zs=ir (es.take i))
 (hc:(xs.drop 0).take ((IntKind.i64.wrap ((xs.length:Int) - 1)).toNat - 0)=y::ys) (hk:k=zs.length+(ys.length+1)):ZW es (es.length - (i+1)) [bD 4 2 k,iV .i64 (IntKind.i64.wrap ((i:Int)+1))] [zs++y::ys]:=by
 have h1:=hl.1
 have h2:=hl.2.1
 have EP:xs.take (xs.length - 1)=y::ys:=by
  rw[bh (by omega) (by omega)]at hc
  simpa using hc
 have hlen:ys.length+1=xs.length - 1:=by
  have:=congrArg List.length EP
  simp at this
  omega
 refine⟨i+1,_,by omega,rfl,by rw[bh (by omega) (by omega),hk];simp[Nat.add_assoc],rfl,?_,?_,?_⟩
 · rw[zI (by simpa using hs)]
   simp only[ln,List.length_append,List.length_cons]
   omega
 · intro e he'
   simp only[List.mem_append]at he'
   rcases he' with he'|he'
   · exact hU e he'
   · rw[←EP]at he'
     exact hl.wo e (List.mem_of_mem_take he')
 · rw[D7 (by simpa using hs),hv]
   simp only[vt,EP]
theorem sY {es:Lz} (h: ∀e,e∈es→DK e) (i:Nat) (hl:es.length≤16):iJ (es.take i)≤640:=by
 have:=JI (es:=es.take i) (fun e he=>h e (List.mem_of_mem_take he))
 have h2:(es.take i).length≤es.length:=by simp;omega
 omega
theorem SU {es zs xs ys:Lz} {y:List T} {i:Nat} (hz:zs.length=iJ (es.take i)) (hb:iJ (es.take i)≤640) (hc:(xs.drop 0).take ((IntKind.i64.wrap ((xs.length:Int) - 1)).toNat - 0)=y::ys) (hL:eS xs):
 zs.length=(tr zs).length∧((tr zs).length+((ys.map fun e=>e.map C.t).length+1)) * 16≤aW∧(tr zs).length+((ys.map fun e=>e.map C.t).length+1)≤maxLen:=by
 have h1:=hL.2.1
 have hlen:=congrArg List.length hc
 simp only[List.length_take,List.length_drop,List.length_cons]at hlen
 have hy:ys.length≤40:=by omega
 clear hlen hc
 refine⟨by simp[tr],?_,?_⟩
 · simp only[tr,List.length_map,aW];omega
 · simp only[tr,List.length_map,maxLen];omega
theorem Qk {es zs:Lz} {i:Nat} (hz:zs.length=iJ (es.take i)) (hU:bG zs) (hv:zs=ir (es.take i)) (hi:es.length≤i):(zs.drop 0).take zs.length=ir es∧((zs.drop 0).take zs.length).length=iJ es∧bG ((zs.drop 0).take zs.length):=by
 rw[List.take_of_length_le hi]at hz hv
 simp only[List.drop_zero,List.take_length]
 exact⟨hv,hz,hU⟩
theorem lF (es:Lz) (he: ∀e,e∈es→DK e) (hl:es.length≤16):Tg 183 [oL 2 es] (GL 2 (fun vs=>vs=ir es∧vs.length=iJ es∧bG vs)):=by
 refine aJ ?_
 refine ah Tryz.func183 ?_
 repeat' (conv=>whnf
          first
  |(refine au (fun h=>?_) (fun h=>?_))
  |(refine aq he (by omega) (by omega) ?_;rintro _ ⟨s,xs,rfl,hL⟩ hs)
  |(refine P8 (by have:=hL.1;have:=hL.2.1;simp (disch:=omega) only[aa];omega) (by have:=hL.1;have:=hL.2.1;simp (disch:=omega) only[aa];omega) ?_;intro y ys MZ)
  |(refine And.intro (by have:=hL.1;have:=hL.2.1;simp (disch:=omega) only[aa];omega) ?_)
  |(refine And.intro (SU hz (sY he i hl) MZ hL) ?_)
  |exact oP rfl (fz rfl rfl (xs:=zs) rfl (by omega)) ⟨_,rfl,Qk hz hU hv (by omega)⟩
  |(apply dQ [3,6,7,8] [] [3,8] [(4,2)] (ZW es) (es.length) [bD 4 2 0,iV .i64 0] (dK.jq 3 2 rfl);(conv=>whnf);exact⟨rfl,rfl,rfl,rfl⟩;exact rfl;exact rfl;exact .cons (az.av az.nil _) .nil;exact⟨0,[],by omega,rfl,rfl,rfl,by simp[iJ],(fun e he=>by simp at he),by simp[ir]⟩;rintro _ _ _ ⟨i,zs,hi,rfl,rfl,rfl,hz,hU,hv⟩)
  |(refine ak [3,6,7,8] [] ?_;(conv=>whnf);exact⟨rfl,_,[_,_],_, .cons (az.av (az.Fc (xs:=zs) rfl (y::ys)) _) .nil,ZW.next (by omega) hl hs hL hz hU hv MZ (by simp[tr]),rfl,rfl,by omega⟩))
 all_goals (conv=>whnf)
def uQ (es:Lz):Prop:=(2≤es.length∧es.length≤16)∧(∀e,e∈es→DK e)∧Ap (ir es)∧(ir es).length=iJ es
def GG (es:Lz) (i:Nat):Prop:= ∀j e,j < i→es[j]? =some e→DK e
theorem GG.all {es:Lz} {i:Nat} (h:GG es i) (hi:es.length≤i): ∀e,e∈es→DK e:=by
 intro e he
 obtain⟨j,hj,rfl⟩:=List.getElem_of_mem he
 exact h j _ (by omega) (by simp[hj])
def RLn (es:Lz) (m:Nat) (vs:List V):Prop:= ∃i:Nat,i≤es.length∧GG es i∧m=es.length - i∧vs=[iV .i64 (i:Int)]
theorem RLn.next {es:Lz} {i:Nat} {s:ByteArray} {xs:Lz} (hi:(i:Int) < (es.length:Int)) (hl:es.length≤16) (h:GG es i) (hs:es[((i:Int)).toNat]? =some [.val (.string s), .aB 2 xs]) (hL:eS xs):RLn es (es.length - (i+1)) [iV .i64 (IntKind.i64.wrap ((i:Int)+1))]:=by
 refine⟨i+1,by omega,fun j e hj he=>?_,rfl,by rw[bh (by omega) (by omega)];rfl⟩
 by_cases fT:j=i
 · subst fT
   have hs':es[j]? =some [.val (.string s), .aB 2 xs]:=by simpa using hs
   rw[hs']at he
   exact⟨s,xs,(Option.some.inj he).symm,hL⟩
 · exact h j e (by omega) he
theorem kR (es:Lz) (he:j7 es) (hm:es.length≤maxLen):Tg 160 [oL 2 es] (kZ (fun n=>n=0→uQ es)):=by
 refine ah Tryz.func160 ?_
 repeat' (conv=>whnf
          first
  |(refine au (fun h=>?_) (fun h=>?_))
  |(refine ca (fun h=>?_) (fun h=>?_))
  |(refine aF (fun h=>?_) (fun h=>?_))
  |(refine gK (Nat.zero_le _) (by omega) ?_)
  |(refine aq (xs:=es) (n:=(i:Int)) he (by omega) (by omega) ?_;rintro _ ⟨s,xs,rfl,hsz,hsp,hxl⟩ hs)
  |(refine aq (cE he 0 _) (n:=(j:Int)) (by omega) (by omega) ?_;rintro _ ⟨s2,xs2,rfl,MN,awU,awK⟩ bW)
  |(refine aq (xs:=es) (n:=(k:Int)) (hp.all (by omega)) (by omega) (by omega) ?_;rintro _ ⟨s3,xs3,rfl,XW⟩ CU)
  |(refine aq (xs:=es) (hp.all (by omega)) (bF (by rw[bh (by omega) (by omega)];omega)) (bq (by omega)) ?_;rintro _ ⟨s4,xs4,rfl,hL4⟩ hs4)
  |(refine aq (xs:=xs3) XW.wo (by have:=XW.1;have:=XW.2.1;rw[bh (by omega) (by omega)];omega) (by have:=XW.1;have:=XW.2.1;rw[bh (by omega) (by omega)];omega) ?_;rintro _ ⟨a,b,rfl⟩ Zq)
  |(refine aq (xs:=xs4) hL4.wo (by omega) (by have:=hL4.1;omega) ?_;rintro _ ⟨a,b,rfl⟩ hs6)
  |(refine And.intro (by kernel_rfl) ?_)
  |(refine And.intro (by omega) ?_)
  |(refine ai rfl (wO s hsz) ?_;rintro _ ⟨b,rfl⟩)
  |(refine ai rfl (mR xs hsp) ?_;rintro _ ⟨c,rfl,hc⟩)
  |(refine ai rfl (lF es (hp.all (by omega)) (by omega)) ?_;rintro _ ⟨vs,rfl,rfl,hvl,hvs⟩)
  |(refine ai rfl (fJ (ir es) hvs (by have:=JI (hp.all (by omega));omega)) ?_;rintro _ ⟨d,rfl,hd⟩)
  |(refine gi rfl rfl (fun h0=>?_);first|(exfalso;omega)|exact⟨⟨by omega,by omega⟩,hp.all (by omega),hd (by omega),hvl⟩)
  |(apply aM [0,49,50,51] [] [51] (RI es.length) (es.length) [iV .i64 0];(conv=>whnf);exact⟨rfl,rfl,rfl,rfl⟩;exact rfl;exact rfl;exact RI.zero;rintro _ _ ⟨k,hk,rfl,rfl⟩)
  |(refine ak [0,49,50,51] [] ?_;(conv=>whnf);exact⟨rfl,_,[_],RI.succ (N:=es.length) (i:=k) (by omega) hm,rfl,rfl,rfl,by omega⟩)
  |(apply aM [0,4,17,18,19,30,31,32] [] [32] (RI ((es.drop 0).take ((i:Int).toNat - 0)).length) (((es.drop 0).take ((i:Int).toNat - 0)).length) [iV .i64 0];(conv=>whnf);exact⟨rfl,rfl,rfl,rfl⟩;exact rfl;exact rfl;exact RI.zero;rintro _ _ ⟨j,hj,rfl,rfl⟩)
  |(refine ak [0,4,17,18,19,30,31,32] [] ?_;(conv=>whnf);exact⟨rfl,_,[_],RI.succ (N:=((es.drop 0).take ((i:Int).toNat - 0)).length) (i:=j) (by omega) (oO hm _ _),rfl,rfl,rfl,by omega⟩)
  |(apply aM [0,17,18,19] [] [19] (RLn es) (es.length) [iV .i64 0];(conv=>whnf);exact⟨rfl,rfl,rfl,rfl⟩;exact rfl;exact rfl;exact⟨0,by omega,fun j e hj=>by omega,rfl,rfl⟩;rintro _ _ ⟨i,hi,hp,rfl,rfl⟩)
  |(refine ak [0,17,18,19] [] ?_;(conv=>whnf);exact⟨rfl,_,[_],RLn.next (by omega) (by omega) hp hs (hc (by omega)),rfl,rfl,rfl,by omega⟩))
 all_goals (conv=>whnf)
def N2 (sz:Nat) (p:Lz→Prop) (ts:List W):Prop:= ∃xs e,ts=[oL sz xs,oI e]∧(e=0→p xs)
theorem mT (es:Lz) (he:j7 es) (hm:es.length≤maxLen):Tg 165 [oL 2 es] (N2 2 (fun vs=>vs=ir es∧uQ es)):=by
 refine aJ ?_
 refine ah Tryz.func165 ?_
 repeat' (conv=>whnf
          first
  |(refine ca (fun h=>?_) (fun h=>?_))
  |(refine ai rfl (kR es he hm) ?_;rintro _ ⟨e,rfl,hc⟩)
  |(refine ai rfl (lF es (hc (by omega)).2.1 (hc (by omega)).1.2) ?_;rintro _ ⟨vs,rfl,rfl,hvl,hvs⟩)
  |exact dg rfl (bS rfl) (bS rfl) ⟨_,_,rfl,fun _=>⟨rfl,hc (by omega)⟩⟩
  |exact dg rfl (bR 2 rfl) (bS rfl) ⟨_,_,rfl,fun h0=>absurd h0 (by omega)⟩)
 all_goals (conv=>whnf)
end Go.aT.Cd
end
section
namespace Go.aT.Cd
open Go Go.Proofs
set_option maxRecDepth 100000
def aiK (e:List T):Prop:= ∃s,e=[.val (.string s)]∧s.size≤maxLen
abbrev YE (xs:Lz):Prop:= ∀e,e∈xs→aiK e
theorem nJ (xs:Lz) (s:ByteArray) (hx:YE xs) (hl:xs.length≤maxLen):Tg 202 [oL 1 xs,oS s] GI:=by
 refine ah Tryz.func202 ?_
 repeat' (conv=>whnf
          first
  |(refine au (fun h=>?_) (fun h=>?_))
  |(refine aF (fun h=>?_) (fun h=>?_))
  |(refine aq hx (by first|omega|exact bF (by first|omega|(simp (disch:=omega) only[aa];omega))|(simp (disch:=omega) only[aa];omega)) (by first|omega|exact bq (by omega)|(simp (disch:=omega) only[aa];omega)) ?_;rintro _ ⟨s2,rfl,bW⟩ hs)
  |exact gI rfl rfl
  |(apply aM [0,1,7,8] [] [8] (RI xs.length) (xs.length) [iV .i64 0];(conv=>whnf);exact⟨rfl,rfl,rfl,rfl⟩;exact rfl;exact rfl;exact RI.zero;rintro _ _ ⟨i,hi,rfl,rfl⟩)
  |(refine ak [0,1,7,8] [] ?_;(conv=>whnf);exact⟨rfl,_,[_],RI.succ (N:=xs.length) (i:=i) (by omega) hl,rfl,rfl,rfl,by omega⟩))
 all_goals (conv=>whnf)
theorem lm (xs:Lz) (s:ByteArray) (hx:YE xs) (hl:xs.length≤maxLen):Tg 178 [oL 1 xs,oS s] GB:=by
 refine ah Tryz.func178 ?_
 repeat' (conv=>whnf
          first
  |(refine ai rfl (nJ xs s hx hl) ?_;rintro _ ⟨n,rfl⟩)
  |exact gB rfl rfl)
 all_goals (conv=>whnf)
abbrev oCh (ss:Lz) (b:Int):W:= .agg [.t (.aB 1 ss), .t (tI b), .t iK]
theorem yV (ss:Lz) (b k:Int):Tg 180 [oCh ss b,oI k] GB:=by
 refine ah Tryz.func180 ?_
 repeat' (conv=>whnf
          first
  |(refine au (fun h=>?_) (fun h=>?_))
  |exact gB rfl rfl)
 all_goals (conv=>whnf)
theorem Dt (ss:Lz) (b:Int) (hx:YE ss) (hl:ss.length≤maxLen):Tg 157 [oCh ss b] GI:=by
 refine ah Tryz.func157 ?_
 repeat' (conv=>whnf
          first
  |(refine au (fun h=>?_) (fun h=>?_))
  |(refine aF (fun h=>?_) (fun h=>?_))
  |(refine gK (Nat.zero_le _) (by omega) ?_)
  |(refine aq hx (by first|omega|exact bF (by first|omega|(simp (disch:=omega) only[aa];omega))|(simp (disch:=omega) only[aa];omega)) (by first|omega|exact bq (by omega)|(simp (disch:=omega) only[aa];omega)) ?_;rintro _ ⟨s2,rfl,bW⟩ hs)
  |(refine And.intro (by omega) ?_)
  |(refine ai rfl (BO s2 bW) ?_;rintro _ ⟨b,rfl⟩)
  |(refine ai rfl (lm _ s2 (cE hx _ _) (oO hl _ _)) ?_;rintro _ ⟨b,rfl⟩)
  |(refine ai rfl (yV ss b _) ?_;rintro _ ⟨b,rfl⟩)
  |exact gI rfl rfl
  |(apply aM [1,82,83,84] [] [84] (RI 0) (0) [iV .i64 0];(conv=>whnf);exact⟨rfl,rfl,rfl,rfl⟩;exact rfl;exact rfl;exact RI.zero;rintro _ _ ⟨i,hi,rfl,rfl⟩)
  |(apply aM [1,67,68,69] [] [69] (RI ss.length) (ss.length) [iV .i64 0];(conv=>whnf);exact⟨rfl,rfl,rfl,rfl⟩;exact rfl;exact rfl;exact RI.zero;rintro _ _ ⟨i,hi,rfl,rfl⟩)
  |(refine ak [1,67,68,69] [] ?_;(conv=>whnf);exact⟨rfl,_,[_],RI.succ (N:=ss.length) (i:=i) (by omega) hl,rfl,rfl,rfl,by omega⟩)
  |(apply aM [1,37,38,39] [] [39] (RI 0) (0) [iV .i64 0];(conv=>whnf);exact⟨rfl,rfl,rfl,rfl⟩;exact rfl;exact rfl;exact RI.zero;rintro _ _ ⟨i,hi,rfl,rfl⟩)
  |(apply aM [1,26,27,28] [] [28] (RI ss.length) (ss.length) [iV .i64 0];(conv=>whnf);exact⟨rfl,rfl,rfl,rfl⟩;exact rfl;exact rfl;exact RI.zero;rintro _ _ ⟨i,hi,rfl,rfl⟩)
  |(refine ak [1,26,27,28] [] ?_;(conv=>whnf);exact⟨rfl,_,[_],RI.succ (N:=ss.length) (i:=i) (by omega) hl,rfl,rfl,rfl,by omega⟩))
 all_goals (conv=>whnf)
theorem AE (s:ByteArray) (hs:s.size≤maxLen):Tg 130 [oS s] GB:=by
 refine ah Tryz.func130 ?_
 repeat' (conv=>whnf
          first
  |(refine sE (rfl) (Dt [[.val (.string s)]] 0 (by intro e he;simp at he;exact⟨s,he,hs⟩) (by simp[maxLen])) ?_ ?_;(rintro _ ⟨n,rfl⟩;rfl);rintro _ ⟨n,rfl⟩)
  |exact gB rfl rfl)
 all_goals (conv=>whnf)
end Go.aT.Cd
end
section
namespace Go.aT.Cd
open Go Go.Proofs
set_option maxRecDepth 100000
set_option maxHeartbeats 2000000
theorem LW {s:ByteArray} {n:Int} {N B:Nat} {K:UInt8→Prop} (hN:s.size=N) (hQ:(List.range N).all (fun i=>match s[i]? with|some b=>Nat.blt i (2 ^ b.toNat)&&Nat.ble b.toNat B&& (Nat.beq i 0||Nat.ble (2 ^ (b.toNat - 1)) i&&Nat.ble 1 b.toNat)|none=>false)=true) (h0:0≤n) (h1:n < (N:Int))
 (hk: ∀b:UInt8,b.toNat≤B→n.toNat < 2 ^ b.toNat→(n.toNat=0∨(2 ^ (b.toNat - 1)≤n.toNat∧1≤b.toNat))→K b):0≤n∧ ∃b,s[n.toNat]? =some b∧K b:=by
 have hlt:n.toNat < s.size:=by omega
 have h2:=List.all_eq_true.1 hQ n.toNat (by simp;omega)
 have e:s[n.toNat]? =some s[n.toNat]:=by simp[hlt]
 rw[e]at h2
 simp only[Bool.and_eq_true,Bool.or_eq_true,Nat.blt_eq,Nat.ble_eq,Nat.beq_eq]at h2
 exact⟨h0,_,e,hk _ h2.1.2 h2.1.1 h2.2⟩
theorem t8 (x:Int):x.fdiv (2 ^ min (Int.toNat 8) IntKind.u64.bits)=x / 256:=sN x 8 (by omega)
theorem t16 (x:Int):x.fdiv (2 ^ min (Int.toNat 16) IntKind.u64.bits)=x / 65536:=sN x 16 (by omega)
theorem t32 (x:Int):x.fdiv (2 ^ min (Int.toNat 32) IntKind.u64.bits)=x / 4294967296:=sN x 32 (by omega)
theorem CJ {x y n D:Int} {k:Nat} {b:UInt8} (hD:(2:Int) ^ k=D) (h0:0≤x) (hk:k≤56) (hy:y=x / D) (zP:1≤y) (hy8:y < 256) (hb:b.toNat≤8) (hq:(IntKind.u8.wrap y).toNat < 2 ^ b.toNat) (hr:(IntKind.u8.wrap y).toNat=0∨(2 ^ (b.toNat - 1)≤(IntKind.u8.wrap y).toNat∧1≤b.toNat)) (hn:n=(k+b.toNat:Nat)):
 (1≤n∧n≤64)∧2 ^ (n.toNat - 1)≤x.toNat∧x.toNat < 2 ^ n.toNat:=by
 rw[u8_in (by omega) hy8]at hq hr
 obtain⟨kC,w7⟩:2 ^ (b.toNat - 1)≤y.toNat∧1≤b.toNat:=by
  rcases hr with h|h
  · omega
  · exact h
 have hDp:D=((2 ^ k:Nat):Int):=by rw[←hD];simp
 have hp:0 < 2 ^ k:=Nat.pow_pos (by omega)
 have hyn:y.toNat=x.toNat / 2 ^ k:=by
  obtain⟨z,rfl⟩: ∃z:Nat,x=(z:Int):=⟨x.toNat,by omega⟩
  rw[hy,hDp]
  have e:(z:Int) / ((2 ^ k:Nat):Int)=((z / 2 ^ k:Nat):Int):=rfl
  rw[e,Int.toNat_natCast,Int.toNat_natCast]
 have e1:n.toNat=k+b.toNat:=by omega
 have e2:n.toNat - 1=(b.toNat - 1)+k:=by omega
 refine⟨⟨by omega,by omega⟩,?_,?_⟩
 · rw[e2,Nat.pow_add]
   have h1:2 ^ (b.toNat - 1) * 2 ^ k≤y.toNat * 2 ^ k:=Nat.mul_le_mul_right _ kC
   have h2:y.toNat * 2 ^ k≤x.toNat:=by rw[hyn];exact Nat.div_mul_le_self _ _
   omega
 · rw[e1,Nat.add_comm,Nat.pow_add]
   rw[hyn]at hq
   exact(Nat.div_lt_iff_lt_mul hp).1 hq
theorem p8:(2:Int) ^ 8=256:=by decide
theorem p16:(2:Int) ^ 16=65536:=by decide
theorem p24:(2:Int) ^ 24=16777216:=by decide
theorem p32:(2:Int) ^ 32=4294967296:=by decide
theorem p40:(2:Int) ^ 40=1099511627776:=by decide
theorem p48:(2:Int) ^ 48=281474976710656:=by decide
theorem p56:(2:Int) ^ 56=72057594037927936:=by decide
theorem Ft (x:Int) (h0:0 < x) (h1:x < 18446744073709551616):Tg 118 [oU x] (kZ (fun n=>(1≤n∧n≤64)∧2 ^ (n.toNat - 1)≤x.toNat∧x.toNat < 2 ^ n.toNat)):=by
 refine ah Tryz.func118 ?_
 repeat' (conv=>whnf
          first
  |(refine au (fun h=>?_) (fun h=>?_))
  |(refine LW (N:=256) (B:=8) (by kernel_rfl) (by kernel_rfl) (Tz _).1 (Tz _).2 ?_;intro bb DY hq hr)
  |(refine And.intro (by omega) ?_)
  |(refine gi rfl rfl ?_;(try simp only[t8,t16,t32]at *);first|exact CJ (k:=0) (y:=x) (D:=1) (by decide) (by omega) (by omega) (by omega) (by omega) (by omega) DY hq hr (by simp (disch:=omega) only[aa];omega)|exact CJ p8 (by omega) (by omega) (by omega) (by omega) (by omega) DY hq hr (by simp (disch:=omega) only[aa];omega)|exact CJ p16 (by omega) (by omega) (by omega) (by omega) (by omega) DY hq hr (by simp (disch:=omega) only[aa];omega)|exact CJ p24 (by omega) (by omega) (by omega) (by omega) (by omega) DY hq hr (by simp (disch:=omega) only[aa];omega)|exact CJ p32 (by omega) (by omega) (by omega) (by omega) (by omega) DY hq hr (by simp (disch:=omega) only[aa];omega)|exact CJ p40 (by omega) (by omega) (by omega) (by omega) (by omega) DY hq hr (by simp (disch:=omega) only[aa];omega)|exact CJ p48 (by omega) (by omega) (by omega) (by omega) (by omega) DY hq hr (by simp (disch:=omega) only[aa];omega)|exact CJ p56 (by omega) (by omega) (by omega) (by omega) (by omega) DY hq hr (by simp (disch:=omega) only[aa];omega)))
 all_goals (conv=>whnf)
theorem WO {x n:Int} (hn:1≤n∧n≤64) (h1:2 ^ (n.toNat - 1)≤x.toNat) (h2:x.toNat < 2 ^ n.toNat):(0≤64 - n∧64 - n≤63)∧9223372036854775808≤x.toNat * 2 ^ (64 - n).toNat∧x.toNat * 2 ^ (64 - n).toNat < 18446744073709551616:=by
 refine⟨by omega,?_,?_⟩
 · have h:2 ^ (n.toNat - 1) * 2 ^ (64 - n).toNat≤x.toNat * 2 ^ (64 - n).toNat:=Nat.mul_le_mul_right _ h1
   rw[←Nat.pow_add,show n.toNat - 1+(64 - n).toNat=63 by omega]at h
   exact h
 · have h:x.toNat * 2 ^ (64 - n).toNat < 2 ^ n.toNat * 2 ^ (64 - n).toNat:=Nat.mul_lt_mul_of_pos_right h2 (Nat.pow_pos (by omega))
   rw[←Nat.pow_add,show n.toNat+(64 - n).toNat=64 by omega]at h
   exact h
theorem kT (x:Int) (h0:0 < x) (h1:x < 18446744073709551616):Tg 227 [oU x] (kZ (fun n=>(0≤n∧n≤63)∧9223372036854775808≤x.toNat * 2 ^ n.toNat∧x.toNat * 2 ^ n.toNat < 18446744073709551616)):=by
 refine ah Tryz.func227 ?_
 repeat' (conv=>whnf
          first
  |(refine ai rfl (Ft x h0 h1) ?_;rintro _ ⟨n,rfl,hn,s9,Zm⟩)
  |(refine gi rfl rfl ?_;rw[aa (by omega) (by omega)];exact WO hn s9 Zm))
 all_goals (conv=>whnf)
theorem K5 {x:Int} (h0:0≤x) (h1:x < 18446744073709551616):IntKind.u64.wrap ((BitVec.ofInt IntKind.u64.bits x&&& BitVec.ofInt IntKind.u64.bits 4294967295).toNat:Int)=x % 4294967296:=by
 have e: ∀x:Int,0≤x→x < 18446744073709551616→(BitVec.ofInt IntKind.u64.bits x).toNat=x.toNat:=by
  intro x h0 h1
  simp only[BitVec.toNat_ofInt,IntKind.bits]
  congr 1
  omega
 rw[BitVec.toNat_and,e _ h0 h1,e _ (by omega) (by omega)]
 have h:=Nat.and_two_pow_sub_one_eq_mod x.toNat 32
 rw[show(4294967295:Int).toNat=2 ^ 32 - 1 by decide,h,u64_in (by omega) (by omega)]
 omega
theorem Q2 {x y X0 X1 Y0 Y1 W0 Tt W1 W2 W3 HI:Int} (hx0:0≤x) (hx:x < 18446744073709551616) (hy0:0≤y) (hy:y < 18446744073709551616)
 (e1:X0=IntKind.u64.wrap ((BitVec.ofInt IntKind.u64.bits x&&& BitVec.ofInt IntKind.u64.bits 4294967295).toNat:Int)) (e2:X1=x.fdiv (2 ^ min (Int.toNat 32) IntKind.u64.bits)) (e3:Y0=IntKind.u64.wrap ((BitVec.ofInt IntKind.u64.bits y&&& BitVec.ofInt IntKind.u64.bits 4294967295).toNat:Int)) (e4:Y1=y.fdiv (2 ^ min (Int.toNat 32) IntKind.u64.bits))
 (e5:W0=IntKind.u64.wrap (X0 * Y0)) (e6:Tt=IntKind.u64.wrap (IntKind.u64.wrap (X1 * Y0)+W0.fdiv (2 ^ min (Int.toNat 32) IntKind.u64.bits))) (e7:W1=IntKind.u64.wrap ((BitVec.ofInt IntKind.u64.bits Tt&&& BitVec.ofInt IntKind.u64.bits 4294967295).toNat:Int)) (e8:W2=Tt.fdiv (2 ^ min (Int.toNat 32) IntKind.u64.bits))
 (e9:W3=IntKind.u64.wrap (W1+IntKind.u64.wrap (X0 * Y1))) (e10:HI=IntKind.u64.wrap (IntKind.u64.wrap (IntKind.u64.wrap (X1 * Y1)+W2)+W3.fdiv (2 ^ min (Int.toNat 32) IntKind.u64.bits))):0≤HI∧HI * 18446744073709551616≤x * y:=by
 rw[K5 hx0 hx]at e1
 rw[K5 hy0 hy]at e3
 rw[t32]at e2 e4 e6 e8 e10
 obtain⟨a0,a1⟩:=wS (q:=X0) (y:=Y0) (by omega) (by omega) (by omega) (by omega)
 obtain⟨b0,b1⟩:=wS (q:=X1) (y:=Y0) (by omega) (by omega) (by omega) (by omega)
 obtain⟨c0,c1⟩:=wS (q:=X0) (y:=Y1) (by omega) (by omega) (by omega) (by omega)
 obtain⟨d0,d1⟩:=wS (q:=X1) (y:=Y1) (by omega) (by omega) (by omega) (by omega)
 have OP:x * y=X1 * Y1 * 18446744073709551616+X1 * Y0 * 4294967296+X0 * Y1 * 4294967296+X0 * Y0:=by
  have EH:x=X1 * 4294967296+X0:=by omega
  have hyy:y=Y1 * 4294967296+Y0:=by omega
  rw[EH,hyy]
  grind
 rw[OP]
 clear OP e1 e2 e3 e4
 generalize X0 * Y0=p00 at *
 generalize X1 * Y0=p10 at *
 generalize X0 * Y1=p01 at *
 generalize X1 * Y1=p11 at *
 rw[u64_in a0 (by omega)]at e5
 rw[u64_in b0 (by omega),u64_in (by omega) (by omega)]at e6
 rw[K5 (by omega) (by omega)]at e7
 rw[u64_in c0 (by omega),u64_in (by omega) (by omega)]at e9
 rw[u64_in d0 (by omega),u64_in (n:=p11+W2) (by omega) (by omega),u64_in (by omega) (by omega)]at e10
 omega
theorem vc (x y:Int) (hx0:0≤x) (hx:x < 18446744073709551616) (hy0:0≤y) (hy:y < 18446744073709551616): ∃ts,Fn Tryz.prog 207 [oU x,oU y] [] (aL ts) []∧(aL ts).bL=true∧(fun ts=> ∃hi lo,ts=[oU hi,oU lo]∧(0≤hi∧hi * 18446744073709551616≤x * y)∧0≤lo∧lo < 18446744073709551616) ts:=by
 refine aJ ?_
 refine ah Tryz.func207 ?_
 repeat' (conv=>whnf
          first
  |(refine And.intro (by omega) ?_)
  |exact dg rfl (bS rfl) (bS rfl) ⟨_,_,rfl,Q2 hx0 hx hy0 hy rfl rfl rfl rfl rfl rfl rfl rfl rfl rfl,jO _,lZ _⟩)
 all_goals (conv=>whnf)
theorem AT {a b:Int} (ha0:0≤a) (ha:a < 18446744073709551616) (hb0:0 < b) (hb:b < 4294967296):0≤IntKind.u64.wrap (a - IntKind.u64.wrap (IntKind.u64.wrap (a.tdiv b) * b))∧IntKind.u64.wrap (a - IntKind.u64.wrap (IntKind.u64.wrap (a.tdiv b) * b)) < 4294967296:=by
 obtain⟨q0,q1⟩:=Jn (n:=a) (x:=b) ha0 (by omega)
 have e:=Int.tdiv_eq_ediv_of_nonneg (b:=b) ha0
 have h1:a / b * b≤a:=Int.ediv_mul_le _ (by omega)
 have h2:a - a / b * b < b:=by
  have:=Int.lt_ediv_add_one_mul_self a hb0
  rw[Int.add_mul,Int.one_mul]at this
  omega
 have h3:0≤a / b * b:=Int.mul_nonneg (Int.ediv_nonneg ha0 (by omega)) (by omega)
 rw[e]at q0 q1⊢
 rw[u64_in q0 (by omega),u64_in h3 (by omega),u64_in (by omega) (by omega)]
 omega
theorem VF {y s:Int} (hy0:0 < y) (hs:0≤s∧s≤63) (h1:9223372036854775808≤y.toNat * 2 ^ s.toNat) (h2:y.toNat * 2 ^ s.toNat < 18446744073709551616):
 0 < (IntKind.u64.wrap (y * 2 ^ (min (IntKind.u64.wrap s).toNat IntKind.u64.bits))).fdiv (2 ^ min (Int.toNat 32) IntKind.u64.bits)∧(IntKind.u64.wrap (y * 2 ^ (min (IntKind.u64.wrap s).toNat IntKind.u64.bits))).fdiv (2 ^ min (Int.toNat 32) IntKind.u64.bits) < 4294967296:=by
 rw[u64_in (n:=s) (by omega) (by omega),t32]
 have e:min s.toNat IntKind.u64.bits=s.toNat:=by simp only[IntKind.bits];omega
 rw[e]
 have e2:y * 2 ^ s.toNat=((y.toNat * 2 ^ s.toNat:Nat):Int):=by
  rw[Int.natCast_mul,Int.natCast_pow]
  congr 1
  omega
 rw[e2]
 generalize y.toNat * 2 ^ s.toNat=z at *
 rw[u64_in (by omega) (by omega)]
 omega
def RDv (m:Nat) (vs:List V):Prop:= ∃q r:Int,0≤r∧r < 4294967296∧m=4294967296 - r.toNat∧vs=[iV .u64 q,iV .u64 r]
theorem RDv.next {q r b:Int} (h0:0≤r) (h1:r < 4294967296) (hb0:0 < b) (hb:b < 4294967296) (h:¬IntKind.u64.wrap (r+b)≥4294967296):RDv (4294967296 - (r+b).toNat) [iV .u64 q,iV .u64 (IntKind.u64.wrap (r+b))]:=by
 rw[u64_in (by omega) (by omega)]at h⊢
 exact⟨q,r+b,by omega,by omega,rfl,rfl⟩
def RDw (m:Nat) (vs:List V):Prop:= ∃r q:Int,0≤r∧r < 4294967296∧m=4294967296 - r.toNat∧vs=[iV .u64 r,iV .u64 q]
theorem RDw.next {q r b:Int} (h0:0≤r) (h1:r < 4294967296) (hb0:0 < b) (hb:b < 4294967296) (h:¬IntKind.u64.wrap (r+b)≥4294967296):RDw (4294967296 - (r+b).toNat) [iV .u64 (IntKind.u64.wrap (r+b)),iV .u64 q]:=by
 rw[u64_in (by omega) (by omega)]at h⊢
 exact⟨r+b,q,by omega,by omega,rfl,rfl⟩
theorem aiI (y:Int) (h0:0 < y) (h1:y < 18446744073709551616):LR 227 [oU y] (kZ (fun s=>(0 < (IntKind.u64.wrap (y * 2 ^ (min (IntKind.u64.wrap s).toNat IntKind.u64.bits))).fdiv (2 ^ min (Int.toNat 32) IntKind.u64.bits)∧(IntKind.u64.wrap (y * 2 ^ (min (IntKind.u64.wrap s).toNat IntKind.u64.bits))).fdiv (2 ^ min (Int.toNat 32) IntKind.u64.bits) < 4294967296))):=by
 obtain⟨ts,a,b,n,c,hs,d,e⟩:=kT y h0 h1
 exact⟨ts,a,b,n,c,VF h0 hs d e⟩
theorem vh (hi lo y:Int) (hh0:0≤hi) (hh:hi < y) (F6:0≤lo) (hl:lo < 18446744073709551616) (hy:y < 18446744073709551616): ∃ts,Fn Tryz.prog 208 [oU hi,oU lo,oU y] [] (aL ts) []∧(aL ts).bL=true∧(fun ts=> ∃a b,ts=[oU a,oU b]) ts:=by
 refine aJ ?_
 refine ah Tryz.func208 ?_
 repeat' (conv=>whnf
          first
  |(refine au (fun h=>?_) (fun h=>?_))
  |(refine And.intro (jO _) ?_)
  |(refine And.intro (show(0:Int)≤32 by omega) ?_)
  |(refine And.intro (show y≠0 by omega) ?_)
  |(refine And.intro (Int.ne_of_gt hb0) ?_)
  |(refine And.intro (by kernel_rfl) ?_)
  |(refine ai rfl (aiI y (by omega) hy) ?_;rintro _ ⟨s,rfl,hb0,pn⟩)
  |exact dg rfl (bS rfl) (bS rfl) ⟨_,_,rfl⟩
  |(apply aM [2,8,9,10,14,15,16,17,18] [] [16,18] (RDw) (_) [_,_];(conv=>whnf);exact⟨rfl,rfl,rfl,rfl⟩;exact rfl;exact rfl;exact⟨_,_,(AT (jO _) (lZ _) hb0 pn).1,(AT (jO _) (lZ _) hb0 pn).2,rfl,rfl⟩;rintro _ _ ⟨r,q,td,kC,hmr,rfl⟩)
  |(refine ak [2,8,9,10,14,15,16,17,18] [] ?_;(conv=>whnf);exact⟨rfl,_,[_,_],RDw.next td kC hb0 pn h,rfl,rfl,rfl,by omega⟩)
  |(apply aM [2,8,9,10,11,13,14,15,16] [] [15,16] (RDv) (_) [_,_];(conv=>whnf);exact⟨rfl,rfl,rfl,rfl⟩;exact rfl;exact rfl;exact⟨_,_,(AT (jO _) (lZ _) hb0 pn).1,(AT (jO _) (lZ _) hb0 pn).2,rfl,rfl⟩;rintro _ _ ⟨q,r,td,kC,hmr,rfl⟩)
  |(refine ak [2,8,9,10,11,13,14,15,16] [] ?_;(conv=>whnf);exact⟨rfl,_,[_,_],RDv.next td kC hb0 pn h,rfl,rfl,rfl,by omega⟩)
  |(exfalso;omega))
 all_goals (conv=>whnf)
theorem Wl {f t a hi:Int} (hf:1≤f) (ha0:0≤a) (ha:a≤f) (ht0:0≤t) (ht:t≤1099511627776) (hh:hi * 18446744073709551616≤IntKind.u64.wrap a * IntKind.u64.wrap t) (J9:f≤1099511627776):hi < IntKind.u64.wrap f:=by
 rw[u64_in ha0 (by omega),u64_in ht0 (by omega)]at hh
 rw[u64_in (by omega) (by omega)]
 have h1:a * t≤f * t:=Int.mul_le_mul_of_nonneg_right ha ht0
 have h2:f * t≤f * 1099511627776:=Int.mul_le_mul_of_nonneg_left ht (by omega)
 omega
def GIX (ts:List W):Prop:= ∃n e,ts=[oI n,oI e]
theorem AO (f t:Int) (rv:Bool) (a:Int):Tg 186 [oI f,oI t,oB rv,oI a] GIX:=by
 refine aJ ?_
 refine ah Tryz.func186 ?_
 repeat' (conv=>whnf
          first
  |(refine au (fun h=>?_) (fun h=>?_))
  |(refine aF (fun h=>?_) (fun h=>?_))
  |(refine ai rfl (vc _ _ (jO _) (lZ _) (jO _) (lZ _)) ?_;rintro _ ⟨hi,lo,rfl,⟨hh0,hh⟩,F6,hl⟩)
  |(refine ai rfl (vh hi lo _ hh0 (Wl (by omega) (by omega) (by omega) (by omega) (by omega) hh (by omega)) F6 hl (lZ _)) ?_;rintro _ ⟨q,r,rfl⟩)
  |exact dg rfl (bS rfl) (bS rfl) ⟨_,_,rfl⟩)
 all_goals (conv=>whnf)
end Go.aT.Cd
end
section
namespace Go.aT.Cd
open Go Go.Proofs
set_option maxRecDepth 100000
set_option maxHeartbeats 2000000
theorem VJ {n f ty ctr t:Nat} {tm:TS} {hp:HS} {ts:List T} {K:V→HS→Prop} (h:find tm t=some (.w (.agg (ts.map .t)))) (hk:K (.w (.one (.lR f true ts))) hp):
 ∃v aG,j6 Tryz.prog n (.makeFunc (.func f) #[.tmp t] #[]) ty tm hp ctr v aG∧K v aG:=by
 refine⟨_,_,?_,hk⟩
 rintro⟨dst',op',ty',pos',after',guard'⟩ rfl rfl
 intro M A ρ a w hr
 have hv:=hr.tmps t _ h
 have hrun:(execOp a.eval ⟨dst', .makeFunc (.func f) #[.tmp t] #[],ty',pos',after',guard'⟩).run Tryz.prog w= .ok (.value (.func (.func f) #[a.eval (.tmp t)] #[])) w:=by
  simp[execOp,Instr.makeFunc]
 refine⟨_,_,A,ρ, .inl hrun,hr.sub (fun id bN=>by simp only[bu]at bN⊢;omega),⟨⟨_,rfl,?_⟩,rfl⟩,dj.refl _ _,cZ.refl _,bH.refl _ _⟩
 obtain⟨vs,h1,h2,h3⟩:=hv
 refine⟨vs,h1,by simpa using h2,fun k x y hx hy=>?_⟩
 have:=h3 k (.t x) y (by simp[hx]) hy
 exact⟨this.1,this.2⟩
theorem WT {hp:HS} {id sz len:Nat} {rows:List (List C)} {xs:Lz} (hf:find hp id=some (.row sz rows)) (hR:az rows xs) (hl:len=xs.length):bM (bY hp) [.one (.own id sz 0 len)]=some [.one (.t (.aB sz xs))]:=by
 have:=kE (hp:=hp) (i:=0) hf hR (by omega:0+len≤xs.length)
 simp only[bM,this]
 simp[hl]
theorem JB {k s B C:Int} (hk:0≤k) (MR:k≤C) (h1: -B≤s) (h2:s≤B) (hB:0≤B): -(C * B)≤k * s∧k * s≤C * B:=by
 have a1:k * s≤k * B:=Int.mul_le_mul_of_nonneg_left h2 hk
 have a2:k * B≤C * B:=Int.mul_le_mul_of_nonneg_right MR hB
 have a3:k * (-B)≤k * s:=Int.mul_le_mul_of_nonneg_left h1 hk
 rw[Int.mul_neg]at a3
 omega
theorem Hv {m s B C:Int} (hm1: -C≤m) (tf:m≤C) (h1: -B≤s) (h2:s≤B) (hB:0≤B): -(C * B)≤m * s∧m * s≤C * B:=by
 rcases Int.le_total 0 m with h|h
 · exact JB h tf h1 h2 hB
 · have:=JB (k:= -m) (s:=s) (B:=B) (C:=C) (by omega) (by omega) h1 h2 hB
   rw[Int.neg_mul]at this
   omega
def Shf (B:Int) (e:List T):Prop:= ∃a b,e=[tI a,tI b]∧(-B≤a∧a≤B)∧(-B≤b∧b≤B)
abbrev Wi (B:Int) (s:Sp):Prop:=(-B≤s.1∧s.1≤B)∧(-B≤s.2∧s.2≤B)
theorem By (cs:Lz) (m i:Int) (hc: ∀e,e∈cs→Shf 1000 e) (hl:0 < cs.length) (hm:cs.length≤16) (hi:0≤i) (hm1: -100≤m) (tf:m≤100):Tg 161 [.agg [.t (.aB 2 cs), .t (tI m)],oI i] (To (Wi 100000)):=by
 refine ah Tryz.func161 ?_
 repeat' (conv=>whnf
          first
  |(refine aq hc (bF hi) (bq (by omega)) ?_;rintro _ ⟨a,b,rfl,⟨ha1,ha2⟩,pn,nj⟩ hs)
  |(refine And.intro (show((cs.length:Nat):Int)≠0 by omega) ?_)
  |(refine And.intro (by kernel_rfl) ?_)
  |(have e1:=Hv hm1 tf ha1 ha2 (by omega);have e2:=Hv hm1 tf pn nj (by omega);exact ZF rfl rfl rfl (by simp) rfl ⟨by simp only;rw[bh (by omega) (by omega)];omega,by simp only;rw[bh (by omega) (by omega)];omega⟩))
 all_goals (conv=>whnf)
theorem OH {xs:Lz} {k:Nat} {a b:Int} (hL:eS xs) (hk:(k:Int) < (xs.length:Int)) (ha: -100000≤a∧a≤100000) (hb: -100000≤b∧b≤100000): -1000000000000000≤IntKind.i64.wrap (IntKind.i64.wrap (IntKind.i64.wrap (IntKind.i64.wrap ((xs.length:Int) - 1) - (k:Int)) * a)+IntKind.i64.wrap ((k:Int) * b)):=by
 have h1:=hL.1
 have h2:=hL.2.1
 rw[bh (n:=(xs.length:Int) - 1) (by omega) (by omega),bh (n:=(xs.length:Int) - 1 - (k:Int)) (by omega) (by omega)]
 have e1:=JB (k:=(xs.length:Int) - 1 - (k:Int)) (s:=a) (C:=40) (by omega) (by omega) ha.1 ha.2 (by omega)
 have e2:=JB (k:=(k:Int)) (s:=b) (C:=40) (by omega) (by omega) hb.1 hb.2 (by omega)
 rw[bh (n:=((xs.length:Int) - 1 - (k:Int)) * a) (by omega) (by omega),bh (n:=(k:Int) * b) (by omega) (by omega),bh (by omega) (by omega)]
 omega
theorem AN {xs:Lz} (hL:eS xs):0 < IntKind.i64.wrap ((xs.length:Int) - 1)∧IntKind.i64.wrap ((xs.length:Int) - 1)≤1000000000000:=by
 have h1:=hL.1
 have h2:=hL.2.1
 rw[bh (by omega) (by omega)]
 omega
theorem C8 (xs:Lz) (a b:Sp) (hL:eS xs) (ha:Wi 100000 a) (hb:Wi 100000 b):Tg 162 [oL 2 xs,eo a,eo b] (GL 2 (fun ys=>ys.length=xs.length∧bG ys)):=by
 have hx:=hL.wo
 have hl:=hL.2.1
 refine ah Tryz.func162 ?_
 repeat' (conv=>whnf
          first
  |(refine au (fun h=>?_) (fun h=>?_))
  |(refine And.intro ⟨by omega,by omega,by omega,by omega⟩ ?_)
  |(refine And.intro ⟨by omega,by omega⟩ ?_)
  |(refine aq hx (by first|omega|exact bF (by first|omega|(simp (disch:=omega) only[aa];omega))|(simp (disch:=omega) only[aa];omega)) (by first|omega|exact bq (by omega)|(simp (disch:=omega) only[aa];omega)) ?_;rintro _ ⟨c,d,rfl⟩ hs)
  |(refine And.intro (by kernel_rfl) ?_)
  |(refine Fw hc (by omega) ?_;rintro _ ⟨c,d,rfl⟩ hs)
  |(refine aC rfl (pS _ _ (OH hL (by omega) ha.1 hb.1) (AN hL).1 (AN hL).2) ?_;rintro _ ⟨n,rfl⟩)
  |(refine aC rfl (pS _ _ (OH hL (by omega) ha.2 hb.2) (AN hL).1 (AN hL).2) ?_;rintro _ ⟨n,rfl⟩)
  |exact gL rfl rfl rfl (by omega) hc (fun ys h1 h2=>⟨by omega,h2⟩)
  |(apply bX [4,5,7,8,17,18,19] [] [19] (fun m vs hq=> ∃ (i:Nat) (rows:List (List C)),i≤xs.length∧m=xs.length - i∧vs=[iV .i64 (i:Int)]∧hq=[(4, .row 2 [[.t (tI a.1), .t (tI a.2)]]),(8, .row 2 [[.t (tI b.1), .t (tI b.2)]]),(12, .row 2 rows)]∧rows.length=xs.length∧lc NZ rows) (xs.length) [iV .i64 0];(conv=>whnf);exact⟨rfl,rfl,rfl,rfl⟩;exact rfl;exact rfl;exact⟨0,_,by omega,rfl,rfl,rfl,by simp,(lc.replicate (e:=[tI 0,tI 0]) ⟨0,0,rfl⟩).av _⟩;rintro _ _ _ ⟨i,rows,hi,rfl,rfl,rfl,hr,hc⟩)
  |(refine ak [4,5,7,8,17,18,19] [] ?_;(conv=>whnf);exact⟨rfl,_,[_],⟨i+1,_,by omega,rfl,by rw[aa (n:=(i:Int)+1) (by omega) (by omega)];rfl,rfl,by simp[hr],(lc.set hc (e:=[tI _,tI _]) ⟨_,_,rfl⟩).av _⟩,rfl,rfl,by omega⟩))
 all_goals (conv=>whnf)
end Go.aT.Cd
end
section
namespace Go.aT.Cd
open Go Go.Proofs
set_option maxRecDepth 100000
set_option maxHeartbeats 800000
abbrev Ws (nm:T) (es:Lz) (g:T) (ns cs ws:Lz) (mt:T):W:= .agg [.t nm, .t (.aB 2 es), .t g, .t (.aB 2 ns), .t (.aB 2 cs), .t (.aB 1 ws), .t mt]
theorem FB {n B:Int} {b:Bool} (hB:0≤B∧B≤1000000) (hw:b=true↔(IntKind.i64.wrap (0 - B)≤n∧n≤B)) (h:(!b)=false): -B≤n∧n≤B:=by
 have:b=true:=by simpa using h
 have:=hw.1 this
 rw[bh (by omega) (by omega)]at this
 omega
def NV (cs:Lz) (i:Nat):Prop:= ∀j e,j < i→cs[j]? =some e→Shf 1000 e
theorem NV.all {cs:Lz} {i:Nat} (h:NV cs i) (hi:cs.length≤i): ∀e,e∈cs→Shf 1000 e:=by
 intro e he
 obtain⟨j,hj,rfl⟩:=List.getElem_of_mem he
 exact h j _ (by omega) (by simp[hj])
def NI (cs:Lz) (m:Nat) (vs:List V):Prop:= ∃i:Nat,i≤cs.length∧NV cs i∧m=cs.length - i∧vs=[iV .i64 (i:Int)]
theorem NI.next {cs:Lz} {i:Nat} {a b:Int} (hi:(i:Int) < (cs.length:Int)) (hl:cs.length≤maxLen) (h:NV cs i) (hs:cs[((i:Int)).toNat]? =some [tI a,tI b]) (ha: -1000≤a∧a≤1000) (hb: -1000≤b∧b≤1000):NI cs (cs.length - (i+1)) [iV .i64 (IntKind.i64.wrap ((i:Int)+1))]:=by
 refine⟨i+1,by omega,fun j e hj he=>?_,rfl,by simp only[maxLen]at hl;rw[bh (by omega) (by omega)];rfl⟩
 by_cases fT:j=i
 · subst fT
   have hs':cs[j]? =some [tI a,tI b]:=by simpa using hs
   rw[hs']at he
   exact⟨a,b,(Option.some.inj he).symm,ha,hb⟩
 · exact h j e (by omega) he
def PE (e:List T):Prop:= ∃s xs,e=[.val (.string s), .aB 2 xs]∧s.size≤maxLen∧eS xs
theorem Wj {es:Lz} (he:j7 es) (hO: ∀e,e∈es→DK e): ∀e,e∈es→PE e:=by
 intro e h
 obtain⟨s,xs,h1,h2,_⟩:=he e h
 obtain⟨s',xs',IG,R9⟩:=hO e h
 rw[h1]at IG
 simp only[List.cons.injEq,T.val.injEq,Value.string.injEq,T.aB.injEq,true_and,and_true]at IG
 obtain⟨rfl,rfl⟩:=IG
 exact⟨s,xs,h1,h2,R9⟩
def RGr (es:Lz) (m:Nat) (ws:List V) (xss:List (Lz)):Prop:= ∃ (i:Nat) (zs:Lz),i≤es.length∧m=es.length - i∧ws=[bD 4 2 zs.length,iV .i64 (i:Int)]∧xss=[zs]∧zs.length=i∧j7 zs
theorem RGr.next {es zs:Lz} {i k:Nat} {s:ByteArray} {xs ys:Lz} (hi:(i:Int) < (es.length:Int)) (he:es.length≤16) (hz:zs.length=i) (hE:j7 zs) (hs:s.size≤maxLen) (hL:eS xs) (hy:ys.length=xs.length) (hys:bG ys) (hk:k=zs.length+1):RGr es (es.length - (i+1)) [bD 4 2 k,iV .i64 (IntKind.i64.wrap ((i:Int)+1))] [zs++[[.val (.string s), .aB 2 ys]]]:=by
 refine⟨i+1,_,by omega,rfl,by rw[bh (by omega) (by omega),hk];simp,rfl,by simp[hz],?_⟩
 intro e he'
 simp only[List.mem_append,List.mem_singleton]at he'
 rcases he' with he'|rfl
 · exact hE e he'
 · exact⟨s,ys,rfl,hs,hys,by have:=hL.2.1;simp only[maxLen];omega⟩
theorem Gz {zs:Lz}:(zs.drop 0).take zs.length=zs:=by simp
theorem mE (nm:T) (es:Lz) (g:T) (ns cs ws:Lz) (mt:T) (m:Int) (he:j7 es) (hm:es.length≤maxLen) (hc:bG cs) (eF:cs.length≤maxLen):Tg 132 [Ws nm es g ns cs ws mt,oI m] (N2 2 (fun gs=>(uQ gs∧j7 gs∧gs.length=es.length)∧uQ es)):=by
 refine aJ ?_
 refine ah Tryz.func132 ?_
 repeat' (conv=>whnf
          first
  |(refine au (fun h=>?_) (fun h=>?_))
  |(refine ca (fun h=>?_) (fun h=>?_))
  |(refine aF (fun h=>?_) (fun h=>?_))
  |(refine aq hc (by omega) (by omega) ?_;rintro _ ⟨a,b,rfl⟩ hs)
  |(refine aq (Wj he (hO (by omega)).2.1) (by omega) (by omega) ?_;rintro _ ⟨s,xs,rfl,hsz,hL⟩ hse)
  |(refine And.intro ⟨by simp[tr],by have:=(hO (by omega)).1.2;simp[tr,aW];omega,by have:=(hO (by omega)).1.2;simp[tr,maxLen];omega⟩ ?_)
  |(refine And.intro (by kernel_rfl) ?_)
  |(refine ai rfl (Bx _ _) ?_;rintro _ ⟨wb,rfl,hw⟩)
  |(refine ai rfl (kR es he hm) ?_;rintro _ ⟨e,rfl,hO⟩)
  |(refine aC rfl (By cs m _ (hp.all (by omega)) (by omega) (by have:=(hO (by omega)).1.2;omega) (by first|omega|(have:=(hO (by omega)).1.2;rw[bh (by omega) (by omega)];omega)) (FB (B:=100) (by omega) hw (by assumption)).1 (FB (B:=100) (by omega) hw (by assumption)).2) ?_;rintro _ ⟨x,y,rfl,Zo⟩)
  |(refine VJ (ts:=[.aB 2 cs,tI m]) rfl ?_)
  |(refine aC rfl (C8 xs (_,_) (_,_) hL (by assumption) (by assumption)) ?_;rintro _ ⟨ys,rfl,hy,hys⟩)
  |(refine sE (WT (xs:=zs) rfl rfl rfl) (kR zs hE (by have:=(hO (by omega)).1.2;simp only[maxLen];omega)) ?_ ?_;(rintro _ ⟨e2,rfl,hO2⟩;rfl);rintro _ ⟨e2,rfl,hO2⟩)
  |exact dg rfl (bR 2 rfl) (bS rfl) ⟨_,_,rfl,fun h0=>absurd h0 (by omega)⟩
  |exact dg rfl (fz rfl rfl (xs:=zs) rfl (by omega)) (bS rfl) ⟨_,_,rfl,fun _=>by rw[Gz];exact⟨⟨hO2 (by omega),hE,by omega⟩,hO (by omega)⟩⟩
  |(apply dQ [9,10,54,55,56] [] [10,56] [(4,2)] (RGr es) (es.length) [bD 4 2 0,iV .i64 0] (dK.jq 10 2 rfl);(conv=>whnf);exact⟨rfl,rfl,rfl,rfl⟩;exact rfl;exact rfl;exact .cons (az.av az.nil _) .nil;exact⟨0,[],by omega,rfl,rfl,rfl,rfl,fun e he=>by simp at he⟩;rintro _ _ _ ⟨i2,zs,hi2,rfl,rfl,rfl,hz,hE⟩)
  |(refine ak [9,10,54,55,56] [] ?_;(conv=>whnf);exact⟨rfl,_,[_,_],_, .cons (az.av (az.snoc (xs:=zs) rfl [.val (.string s), .aB 2 ys]) _) .nil,RGr.next (by omega) (hO (by omega)).1.2 hz hE hsz hL hy hys (by simp[tr]),rfl,rfl,by omega⟩)
  |(apply aM [1,2,25,26,27] [] [27] (NI cs) (cs.length) [iV .i64 0];(conv=>whnf);exact⟨rfl,rfl,rfl,rfl⟩;exact rfl;exact rfl;exact⟨0,by omega,fun j e hj=>by omega,rfl,rfl⟩;rintro _ _ ⟨i,hi,hp,rfl,rfl⟩)
  |(refine ak [1,2,25,26,27] [] ?_;(conv=>whnf);exact⟨rfl,_,[_],NI.next (by omega) eF hp hs (FB (by omega) (by assumption) (by assumption)) (FB (by omega) (by assumption) (by assumption)),rfl,rfl,rfl,by omega⟩))
 all_goals (conv=>whnf)
end Go.aT.Cd
end
section
namespace Go.aT.Cd
open Go Go.Proofs
set_option maxRecDepth 100000
set_option maxHeartbeats 1000000
abbrev Is (xs:Lz):Prop:= ∀e,e∈xs→IsI e
theorem Is.snoc {xs:Lz} (h:Is xs) (n:Int):Is (xs++[[tI n]]):=by
 intro e he
 simp only[List.mem_append,List.mem_singleton]at he
 rcases he with he|rfl
 · exact h e he
 · exact⟨n,rfl⟩
abbrev pcT (nm:T) (es:Lz) (g:T) (ns cs ws:Lz) (mt:T):List T:=[nm, .aB 2 es,g, .aB 2 ns, .aB 2 cs, .aB 1 ws,mt]
def Z8 (pc:List T) (N:Nat) (m:Nat) (ws:List V) (xss:List (Lz)):Prop:= ∃ (i:Nat) (zs:Lz),i≤N∧m=N - i∧ws=[bD 8 1 zs.length,iV .i64 (i:Int)]∧xss=[[pc],zs]∧zs.length=i∧Is zs
theorem Z8.next {pc:List T} {N i k:Nat} {zs:Lz} {n:Int} (hi:(i:Int) < (N:Int)) (hN:N≤100000) (hz:zs.length=i) (hI:Is zs) (hk:k=zs.length+1):Z8 pc N (N - (i+1)) [bD 8 1 k,iV .i64 (IntKind.i64.wrap ((i:Int)+1))] [[pc],zs++[[tI n]]]:=
 ⟨i+1,_,by omega,rfl,by rw[bh (by omega) (by omega),hk];simp,rfl,by simp[hz],hI.snoc n⟩
def GPl (ts:List W):Prop:= ∃xs ys e,ts=[oL 1 xs,oL 2 ys,oI e]
theorem A9 (nm:T) (es:Lz) (g:T) (ns cs ws:Lz) (mt:T) (m:Int) (he:j7 es) (hm:es.length≤maxLen) (hn:bG ns) (hc:bG cs) (eF:cs.length≤maxLen):Tg 163 [Ws nm es g ns cs ws mt,oI m] GPl:=by
 refine aJ ?_
 refine ah Tryz.func163 ?_
 repeat' (conv=>whnf
          first
  |(refine au (fun h=>?_) (fun h=>?_))
  |(refine ca (fun h=>?_) (fun h=>?_))
  |(refine aq hn (by omega) (by omega) ?_;rintro _ ⟨a,b,rfl⟩ hs)
  |(refine aq he (by omega) (by omega) ?_;rintro _ ⟨s1,xs1,rfl,w6,hp1,MQ⟩ hs1)
  |(refine aq (hG (by omega)).1.2.1 (by omega) (by have:=(hG (by omega)).1.2.2;omega) ?_;rintro _ ⟨s2,xs2,rfl,EG,hp2,rI⟩ bW)
  |(refine And.intro ⟨by simp[tr],by simp[tr,aW];omega,by simp[tr,maxLen];omega⟩ ?_)
  |(refine ai rfl (mE nm es g ns cs ws mt m he hm hc eF) ?_;rintro _ ⟨gs,e,rfl,hG⟩)
  |(refine ai rfl (mQ xs1 hp1) ?_;rintro _ ⟨n1,e1,rfl,_⟩)
  |(refine ai rfl (mQ xs2 hp2) ?_;rintro _ ⟨n2,e2,rfl,_⟩)
  |(refine ai rfl (AO _ _ _ _) ?_;rintro _ ⟨n3,e3,rfl⟩)
  |exact H6 rfl (bR 1 rfl) (bR 2 rfl) (bS rfl) ⟨_,_,_,rfl⟩
  |exact H6 rfl (fz rfl rfl (xs:=zs) rfl (by omega)) (bS rfl) (bS rfl) ⟨_,_,_,rfl⟩
  |(apply dQ [2,7,9,30,31,32] [] [9,32] [(4,7),(8,1)] (Z8 (pcT nm es g ns cs ws mt) ns.length) (ns.length) [bD 8 1 0,iV .i64 0] (dK.jq 9 1 rfl);(conv=>whnf);exact⟨rfl,rfl,rfl,rfl⟩;exact rfl;exact rfl;exact .cons (az.av (xs:=[pcT nm es g ns cs ws mt]) rfl _) (.cons (az.av az.nil _) .nil);exact⟨0,[],by omega,rfl,rfl,rfl,rfl,fun e he=>by simp at he⟩;rintro _ _ _ ⟨i,zs,hi,rfl,rfl,rfl,hz,hI⟩)
  |(refine ak [2,7,9,30,31,32] [] ?_;(conv=>whnf);exact⟨rfl,_,[_,_],_, .cons (az.av (xs:=[pcT nm es g ns cs ws mt]) rfl _) (.cons (az.av (az.snoc (xs:=zs) rfl [tI _]) _) .nil),Z8.next (by omega) (by omega) hz hI (by simp[tr]),rfl,rfl,by omega⟩))
 all_goals (conv=>whnf)
theorem Ba (nm:T) (es:Lz) (g:T) (ns cs ws:Lz) (mt:T) (m:Int) (he:j7 es) (hm:es.length≤maxLen) (hn:bG ns) (hc:bG cs) (eF:cs.length≤maxLen): ∃ts,Fn Tryz.prog 133 [Ws nm es g ns cs ws mt,oI m] [] (aL ts) []∧(aL ts).bL=true∧(fun ts=> ∃xs e,ts=[oL 1 xs,oI e]) ts:=by
 refine aJ ?_
 refine ah Tryz.func133 ?_
 repeat' (conv=>whnf
          first
  |(refine ai rfl (A9 nm es g ns cs ws mt m he hm hn hc eF) ?_;rintro _ ⟨xs,ys,e,rfl⟩)
  |exact dg rfl (bS rfl) (bS rfl) ⟨_,_,rfl⟩)
 all_goals (conv=>whnf)
def N0 (e:List T):Prop:= ∃nm es g ns cs ws mt,e=[.val (.string nm), .aB 2 es,tI g, .aB 2 ns, .aB 2 cs, .aB 1 ws,tB mt]∧nm.size≤maxLen∧(j7 es∧es.length≤maxLen)∧(bG ns∧ns.length≤maxLen)∧(bG cs∧cs.length≤maxLen)∧Is ws∧ws.length≤maxLen
theorem sK (ps:Lz) (hp: ∀e,e∈ps→N0 e) (jo:ps.length≤maxLen) (nm:ByteArray) (es:Lz) (g:Int) (ns cs ws:Lz) (mt:Bool) (hnm:nm.size≤maxLen) (he:j7 es) (hm:es.length≤maxLen) (hn:bG ns) (hc:bG cs) (eF:cs.length≤maxLen) (hw:Is ws) (yg:ws.length≤maxLen):Tg 98 [oL 7 ps,Ws (.val (.string nm)) es (tI g) ns cs ws (tB mt)] GI:=by
 refine ah Tryz.func98 ?_
 repeat' (conv=>whnf
          first
  |(refine au (fun h=>?_) (fun h=>?_))
  |(refine ca (fun h=>?_) (fun h=>?_))
  |(refine aF (fun h=>?_) (fun h=>?_))
  |(refine aq hp (by first|omega|exact bF (by first|omega|(simp (disch:=omega) only[aa];omega))|(simp (disch:=omega) only[aa];omega)) (by first|omega|exact bq (by omega)|(simp (disch:=omega) only[aa];omega)) ?_;rintro _ ⟨nm2,Yc,g2,ns2,cs2,ws2,mt2,rfl,axE,_⟩ hs)
  |(refine aq hw (by first|omega|exact bF (by first|omega|(simp (disch:=omega) only[aa];omega))|(simp (disch:=omega) only[aa];omega)) (by first|omega|exact bq (by omega)|(simp (disch:=omega) only[aa];omega)) ?_;rintro _ ⟨a,rfl⟩ hs)
  |(refine ai rfl (qW nm hnm) ?_;rintro _ ⟨b,rfl⟩)
  |(refine ai rfl (mE (.val (.string nm)) es (tI g) ns cs ws (tB mt) _ he hm hc eF) ?_;rintro _ ⟨gs,e,rfl,_⟩)
  |(refine ai rfl (Ba (.val (.string nm)) es (tI g) ns cs ws (tB mt) _ he hm hn hc eF) ?_;rintro _ ⟨xs,e,rfl⟩)
  |exact gI rfl rfl
  |(apply aM [66,67,68] [] [68] (RI ws.length) (ws.length) [iV .i64 0];(conv=>whnf);exact⟨rfl,rfl,rfl,rfl⟩;exact rfl;exact rfl;exact RI.zero;rintro _ _ ⟨i,hi,rfl,rfl⟩)
  |(refine ak [66,67,68] [] ?_;(conv=>whnf);exact⟨rfl,_,[_],RI.succ (N:=ws.length) (i:=i) (by omega) yg,rfl,rfl,rfl,by omega⟩)
  |(apply aM [3,30,31,32] [] [32] (RI ps.length) (ps.length) [iV .i64 0];(conv=>whnf);exact⟨rfl,rfl,rfl,rfl⟩;exact rfl;exact rfl;exact RI.zero;rintro _ _ ⟨i,hi,rfl,rfl⟩)
  |(refine ak [3,30,31,32] [] ?_;(conv=>whnf);exact⟨rfl,_,[_],RI.succ (N:=ps.length) (i:=i) (by omega) jo,rfl,rfl,rfl,by omega⟩))
 all_goals (conv=>whnf)
end Go.aT.Cd
end
section
namespace Go.aT.Cd
open Go Ieee
def uR (K:Nat) (w:Nat):Prop:=w < K * 4503599627370496
theorem SB (way:Toward) (neg:Bool) (n drop:Nat):Toward.cut way neg n drop≤n / (1 <<< min drop (n.log2+2))+1:=by
 unfold Toward.cut
 simp only
 have: ∀b:Bool,b.toNat≤1:=fun b=>by cases b<;>simp
 exact Nat.add_le_add_left (this _) _
theorem log2_lt {n k:Nat} (h:n < 2 ^ k) (hk:0 < k):n.log2 < k:=by
 by_cases h0:n=0
 · subst h0;simpa using hk
 · exact(Nat.log2_lt h0).2 h
theorem we {mag:Nat} {place:Int} {L:Int} {K:Nat} (hm:mag < 2 ^ 60) (hp: -1000≤place) (hL:place+mag.log2 - 52≤L) (xh:L≤900) (hL1: -1074≤L) (hK:((L+1074).toNat+3)≤K):uR K (Ieee.double.write (.number false mag place)):=by
 unfold uR Format.write Format.nearest
 simp only
 split
 · simp only[Format.word,Bool.false_eq_true,if_false]
   have:1 * 4503599627370496≤K * 4503599627370496:=Nat.mul_le_mul_right _ (by omega)
   omega
 · rename_i h0
   have hfb:(Ieee.double.fractionBits:Int)=52:=rfl
   have hlp:Ieee.double.leastPlace= -1074:=by decide
   have RZ:Ieee.double.binade=4503599627370496:=by decide
   simp only[Format.word,Bool.false_eq_true,if_false,hfb,hlp,RZ]
   generalize pR:max (place+(mag.log2:Int) - 52) (-1074)=last
   have MQ:last≤L:=by omega
   have rI: -1074≤last:=by omega
   have afT:2 ^ mag.log2≤mag:=Nat.log2_self_le h0
   have OQ:mag < 2 ^ (mag.log2+1):=Nat.lt_log2_self
   have XE:Toward.even.cut false (mag <<< (place - last).toNat) (last - place).toNat≤9007199254740992:=by
    refine Nat.le_trans (SB _ _ _ _) ?_
    rcases Int.le_total last place with hle|hle
    ·
     have e0:(last - place).toNat=0:=by omega
     rw[e0,Nat.zero_min,Nat.shiftLeft_eq,Nat.shiftLeft_eq,Nat.pow_zero,Nat.mul_one,Nat.div_one]
     have hsh:mag.log2+(place - last).toNat≤52:=by omega
     have h1:mag * 2 ^ (place - last).toNat < 2 ^ (mag.log2+1) * 2 ^ (place - last).toNat:=Nat.mul_lt_mul_of_pos_right OQ (Nat.pow_pos (by omega))
     rw[←Nat.pow_add]at h1
     have h2:2 ^ (mag.log2+1+(place - last).toNat)≤2 ^ 53:=Nat.pow_le_pow_right (by omega) (by omega)
     have h3:(2:Nat) ^ 53=9007199254740992:=by decide
     omega
    · have e0:(place - last).toNat=0:=by omega
      rw[e0,Nat.shiftLeft_eq,Nat.pow_zero,Nat.mul_one,Nat.shiftLeft_eq,Nat.one_mul]
      have h53:(2:Nat) ^ 53=9007199254740992:=by decide
      have apR:(last - place).toNat=mag.log2 - 52∨last= -1074:=by omega
      have hmn:mag / 2 ^ min (last - place).toNat (mag.log2+2) < 9007199254740992:=by
       rw[←h53]
       rw[Nat.div_lt_iff_lt_mul (Nat.pow_pos (by omega)), ←Nat.pow_add]
       refine Nat.lt_of_lt_of_le OQ (Nat.pow_le_pow_right (by omega) ?_)
       omega
      omega
   have hmin:min ((last - -1074).toNat * 4503599627370496+Toward.even.cut false (mag <<< (place - last).toNat) (last - place).toNat) Ieee.double.infRung≤(last - -1074).toNat * 4503599627370496+9007199254740992:=Nat.le_trans (Nat.min_le_left _ _) (Nat.add_le_add_left XE _)
   have hqq:(last - -1074).toNat+3≤K:=by omega
   generalize (last - -1074).toNat=q at hmin hqq⊢
   have hq:q+3≤K:=hqq
   refine Nat.lt_of_le_of_lt hmin (Nat.lt_of_lt_of_le ?_ (Nat.mul_le_mul_right 4503599627370496 hq))
   rw[Nat.add_mul]
   exact Nat.add_lt_add_left (by decide) _
theorem zy {K w:Nat} (h:uR K w) (hK:K≤1500): ∃m i,Ieee.double.read w= .number false m i∧m < 9007199254740992∧ -1074≤i∧i≤max ((K:Int) - 2 - 1074) (-1074):=by
 unfold uR at h
 have hsw:Ieee.double.signWeight=9223372036854775808:=by decide
 have RZ:Ieee.double.binade=4503599627370496:=by decide
 have hin:Ieee.double.infRung=9218868437227405312:=by decide
 have hlp:Ieee.double.leastPlace= -1074:=by decide
 have hlt:w < 1500 * 4503599627370496:=Nat.lt_of_lt_of_le h (Nat.mul_le_mul_right _ hK)
 unfold Format.read
 simp only[hsw,RZ,hin,hlp]
 have e1:w / 9223372036854775808 % 2=0:=by omega
 have e2:w % 9223372036854775808=w:=Nat.mod_eq_of_lt (by omega)
 rw[e1,e2]
 simp only[show((0:Nat)==1)=false by decide]
 split
 · exact⟨w, -1074,rfl,by omega,by omega,by omega⟩
 · rename_i hb
   rw[if_pos (show w < 9218868437227405312 by omega)]
   refine⟨_,_,rfl,by omega,by omega,?_⟩
   have:w / 4503599627370496 < K:=by
    rw[Nat.div_lt_iff_lt_mul (by omega)];exact h
   omega
theorem nQ {n:Nat}: ∀ (todo root:Nat),root * root≤n→Datum.rootFrom n todo root * Datum.rootFrom n todo root≤n
 |0,root,h=>h
 |todo+1,root,h=>by
  simp only[Datum.rootFrom]
  split
  · rename_i hl;exact nQ todo _ hl
  · exact nQ todo _ h
theorem G0 {n:Nat} (hn:n < 2 ^ 53): ∃r,Ieee.double.sqrt (Ieee.double.write (.number false n 0))=some r∧uR 1053 r:=by
 have afT:n.log2 < 53:=log2_lt hn (by omega)
 have h1:uR 1077 (Ieee.double.write (.number false n 0)):=we (L:=0) (by
  have:(2:Nat) ^ 53≤2 ^ 60:=Nat.pow_le_pow_right (by omega) (by omega)
  omega) (by omega) (by omega) (by omega) (by omega) (by decide)
 obtain⟨m,i,e,hm,IE,hi2⟩:=zy h1 (by omega)
 unfold Format.sqrt
 rw[e]
 unfold Datum.root
 simp only
 have hfb:Ieee.double.fractionBits+2=54:=rfl
 simp only[hfb]
 by_cases Zv:m=0
 · subst Zv
   simp only[if_true,Option.map_some]
   refine⟨_,rfl,?_⟩
   unfold uR Format.write Format.nearest
   simp[Format.word]
 · simp only[Zv,if_false,Bool.false_eq_true,Option.map_some]
   refine⟨_,rfl,?_⟩
   have hml:m.log2 < 53:=log2_lt (by rw[show(2:Nat) ^ 53=9007199254740992 by decide];exact hm) (by omega)
   have tf:m < 2 ^ (m.log2+1):=Nat.lt_log2_self
   have Xz:((i - ((2 * 54 - m.log2:Nat):Int)) % 2).toNat≤1:=by omega
   generalize apF:2 * 54 - m.log2+((i - ((2 * 54 - m.log2:Nat):Int)) % 2).toNat=more
   have afQ:56≤more:=by omega
   have afP:more+m.log2≤109:=by omega
   generalize hN:m <<< more=N
   have ayP:N < 2 ^ 110:=by
    rw[←hN,Nat.shiftLeft_eq]
    have:m * 2 ^ more < 2 ^ (m.log2+1) * 2 ^ more:=Nat.mul_lt_mul_of_pos_right tf (Nat.pow_pos (by omega))
    rw[←Nat.pow_add]at this
    exact Nat.lt_of_lt_of_le this (Nat.pow_le_pow_right (by omega) (by omega))
   have hsq:=nQ (n:=N) (N.log2 / 2+1) 0 (by simp)
   generalize Datum.rootFrom N (N.log2 / 2+1) 0=whole at hsq
   have hw:whole < 2 ^ 55:=by
    apply Nat.lt_of_not_le
    intro hge
    have h2:2 ^ 55 * 2 ^ 55≤whole * whole:=Nat.mul_le_mul hge hge
    rw[←Nat.pow_add]at h2
    omega
   have hb: ∀b:Bool,b.toNat≤1:=fun b=>by cases b<;>simp
   have pn:=hb (whole * whole !=N)
   generalize (whole * whole !=N).toNat=bb at pn
   have h55:(2:Nat) ^ 55=36028797018963968:=by decide
   have h60:(2:Nat) ^ 60=1152921504606846976:=by decide
   have hlm:(2 * whole+bb).log2 < 57:=log2_lt (by rw[show(2:Nat) ^ 57=144115188075855872 by decide];omega) (by omega)
   exact we (L:= -24) (by omega) (by omega) (by omega) (by omega) (by omega) (by decide)
theorem JO {w:Nat} (h:uR 1053 w): ∃r:Int,(Ieee.double.read w).toInt .zero=some r∧0≤r∧r≤1073741824:=by
 obtain⟨m,i,e,hm,IE,hi2⟩:=zy h (by omega)
 rw[e]
 unfold Datum.toInt Datum.integral
 simp only
 have e0:i.toNat=0:=by omega
 rw[e0,Nat.shiftLeft_eq,Nat.pow_zero,Nat.mul_one]
 refine⟨_,rfl,?_,?_⟩
 · simp only[signed,Bool.false_eq_true,if_false]
   exact Int.natCast_nonneg _
 · simp only[signed,Bool.false_eq_true,if_false,Toward.cut,Bool.toNat_false,Nat.add_zero,Nat.shiftLeft_eq,Nat.pow_zero,Nat.mul_one,Nat.one_mul]
   by_cases Zv:m=0
   · subst Zv;simp
   · have hml:m.log2 < 53:=log2_lt (by rw[show(2:Nat) ^ 53=9007199254740992 by decide];exact hm) (by omega)
     have tf:m < 2 ^ (m.log2+1):=Nat.lt_log2_self
     have hq:m / 2 ^ min (-i).toNat (m.log2+2) < 1073741824:=by
      rw[show(1073741824:Nat)=2 ^ 30 by decide,Nat.div_lt_iff_lt_mul (Nat.pow_pos (by omega)), ←Nat.pow_add]
      exact Nat.lt_of_lt_of_le tf (Nat.pow_le_pow_right (by omega) (by omega))
     generalize m / 2 ^ min (-i).toNat (m.log2+2)=q at hq
     omega
end Go.aT.Cd
end
section
namespace Go.aT.Cd
open Go Go.Proofs
set_option maxRecDepth 100000
set_option maxHeartbeats 1000000
theorem run_pure {n ctr:Nat} {ty:TypeId} {op:Op} {tm:TS} {hp:HS} {v:V} (h: ∀o:Oper,o.op=op→o.type=ty→aY Tryz.prog (St.get ⟨n,tm,hp⟩) o=some v):j6 Tryz.prog n op ty tm hp ctr v hp:=by
 intro o h1 h2 M A ρ a w hr
 exact iE (st:=⟨n,tm,hp⟩) (h o h1 h2) hr (fun id bN=>by simp only[bu]at *;omega)
theorem uI:Tryz.prog.underlying 3=some (.int .i64):=by kernel_rfl
theorem uF:Tryz.prog.underlying 344=some (.float .f64):=by kernel_rfl
abbrev oF (x:Nat):W:= .one (.t (.val (.float .f64 x)))
theorem VH {n ctr t:Nat} {ty:TypeId} {k:Int} {tm:TS} {hp:HS} {K:V→HS→Prop} (h:find tm t=some (iV .i64 k)) (hk:K (.w (oF (FloatKind.f64.nearest k))) hp):
 ∃v aG,j6 Tryz.prog n (.convert 3 344 (.tmp t)) ty tm hp ctr v aG∧K v aG:=by
 refine⟨_,_,run_pure ?_,hk⟩
 rintro⟨dst',op',ty',pos',after',guard'⟩ rfl rfl
 have hg:St.get ⟨n,tm,hp⟩ (.tmp t)=iV .i64 k:=by simp[St.get,h]
 simp[aY,fL,Op.operands,hg,V.val?,W.val?,C.val?,execOp,convert,aI,aO uI,aO uF,Conv.intToFloat,aD,V.ofValue]
theorem VI {n ctr t x:Nat} {ty:TypeId} {r:Int} {tm:TS} {hp:HS} {K:V→HS→Prop} (h:find tm t=some (.w (oF x))) (hr:(FloatKind.f64.decode x).toInt .zero=some r) (h0:0≤r) (h1:r≤4294967296) (hk:K (iV .i64 r) hp):
 ∃v aG,j6 Tryz.prog n (.convert 344 3 (.tmp t)) ty tm hp ctr v aG∧K v aG:=by
 refine⟨_,_,run_pure ?_,hk⟩
 rintro⟨dst',op',ty',pos',after',guard'⟩ rfl rfl
 have hg:St.get ⟨n,tm,hp⟩ (.tmp t)= .w (oF x):=by simp[St.get,h]
 have hmin:IntKind.i64.min≤r∧r≤IntKind.i64.max:=by
  have e1:IntKind.i64.min= -9223372036854775808:=by decide
  have e2:IntKind.i64.max=9223372036854775807:=by decide
  omega
 have hle:r≤9223372036854775807:=by omega
 simp[aY,fL,Op.operands,hg,V.val?,W.val?,C.val?,execOp,convert,aI,aO uI,aO uF,Conv.floatToInt,hr,hmin,if_pos hle,aD,V.ofValue]
theorem E0:Extern.findNext Tryz.f228=none∧(Tryz.f228.name== "runtime.NumGoroutine")=false∧Tryz.f228.body.isNone=true:=⟨by kernel_rfl,by kernel_rfl,by kernel_rfl⟩
theorem Na:Extern.find Tryz.f228=some Go.Extern.MathSqrt.sqrt:=by kernel_rfl
theorem Mt {x r:Nat} (hr:FloatKind.f64.format.sqrt x=some r):aH Tryz.prog (callFunc 228 #[.float .f64 x])=some (.value (.float .f64 r)):=by
 have h1:Tryz.prog.funcs[228]? =some Tryz.f228:=Tryz.func228
 have hs:Go.Extern.MathSqrt.sqrt #[.float .f64 x]=pure (.float .f64 r):=by
  change (match FloatKind.f64.format.sqrt x with
   |some r=>(pure (.float .f64 r):Sem Value)
   |none=>do pure (.float .f64 (←choose (.nanBits .f64 x x))))=_
  rw[hr]
 have hn:¬Tryz.f228.name= "runtime.NumGoroutine" :=by simpa using E0.2.1
 have hb:Tryz.f228.body=none:=by simpa using E0.2.2
 simp[callFunc,aI,program,aH,h1,E0.1,Na,hs,aD,hn,hb,cW,mark]
theorem P3 {n ctr t x r:Nat} {ty:TypeId} {tm:TS} {hp:HS} {K:V→HS→Prop} (h:find tm t=some (.w (oF x))) (hr:FloatKind.f64.format.sqrt x=some r) (hk:K (.w (oF r)) hp):
 ∃v aG,j6 Tryz.prog n (.call ⟨.value (.func 228), #[.tmp t], #[344]⟩) ty tm hp ctr v aG∧K v aG:=by
 refine⟨_,_,run_pure ?_,hk⟩
 rintro⟨dst',op',ty',pos',after',guard'⟩ rfl rfl
 have hg:St.get ⟨n,tm,hp⟩ (.tmp t)= .w (oF x):=by simp[St.get,h]
 have hf:St.get ⟨n,tm,hp⟩ (.func 228)= .w (.one (.t (.val (.func (.func 228) #[] #[])))):=rfl
 have hp1:=Mt hr
 simp[aY,fL,Op.operands,Call.operands,hg,hf,V.val?,W.val?,C.val?,execOp,resolve,invoke,Deferred.ofValue,aI,aD,hp1,V.ofValue]
end Go.aT.Cd
end
