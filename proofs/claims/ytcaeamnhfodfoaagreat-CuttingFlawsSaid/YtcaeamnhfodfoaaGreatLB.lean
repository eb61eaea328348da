import Derived.Test.YtcaeamnhfodfoaaGreatLA
import Derived.Laws.Strings
import Derived.Test.YtcaeamnhfodfoaaGreatProg
set_option linter.all false
section
namespace Go.aU
open Go
variable {P:Program} {M A:Nat→Prop} {ρ:Env} {F:Nat→Prop} {a:Act} {w:World}
def tZ (ids:List Nat) (src h:HS):HS:=
 ids.foldl (fun h id=>match find src id with|some b=>(id,b)::del h id|none=>del h id) h
theorem gk (src:HS) (id:Nat): ∀ (ids:List Nat) (h:HS),find (tZ ids src h) id=if id∈ids then find src id else find h id
 | [],h=>by simp[tZ]
 |k::r,h=>by
  have ih:=gk src id r (match find src k with|some b=>(k,b)::del h k|none=>del h k)
  simp only[tZ,List.foldl_cons]at ih⊢
  rw[ih]
  by_cases hr:id∈r
  · simp[hr]
  · simp only[hr,if_false,List.mem_cons,or_false]
    by_cases hk:id=k
    · subst hk
      simp only[if_true]
      cases hs:find src id with
      |none=>simp[ey]
      |some b=>simp[av]
    · simp only[hk,if_false]
      have hk':¬k=id:=fun e=>hk e.symm
      cases hs:find src k with
      |none=>simp[ey,hk]
      |some b=>simp[av,ey,hk,hk']
section
variable (dst:Nat→Option Nat) (v:Nat→V) (wr:Nat→List Nat) (hpT:Nat→HS) (sH:TS) (oZ:HS)
def nx (L:Nat→Bool):Nat→TS
 |0=>sH
 |i+1=>if L i then eJ (nx L i) (dst i) (v i)else nx L i
def nE (L:Nat→Bool):Nat→HS
 |0=>oZ
 |i+1=>if L i then tZ (wr i) (hpT (i+1)) (nE L i)else nE L i
theorem gl (tm:TS) (d:Option Nat) (u:V) (t:Nat):find (eJ tm d u) t=if d=some t then some u else find tm t:=by
 cases d with
 |none=>simp[eJ]
 |some d=>simp only[eJ,av,Option.some.injEq]
theorem mq (L1 L2:Nat→Bool) (t:Nat): ∀k,(∀i,i < k→dst i=some t→L1 i=L2 i)→find (nx dst v sH L1 k) t=find (nx dst v sH L2 k) t
 |0,_=>rfl
 |k+1,h=>by
  have ih:=mq L1 L2 t k (fun i hi=>h i (by omega))
  simp only[nx]
  by_cases hd:dst k=some t
  · rw[h k (by omega) hd]
    split
    · simp only[gl,hd,if_true]
    · exact ih
  · have e: ∀ (L:Nat→Bool),find (if L k then eJ (nx dst v sH L k) (dst k) (v k)else nx dst v sH L k) t=find (nx dst v sH L k) t:=by
     intro L
     split
     · simp only[gl,hd,if_false]
     · rfl
    rw[e L1,e L2,ih]
theorem yd (L:Nat→Bool) (t i:Nat) (hd:dst i=some t) (hL:L i=true): ∀k,i < k→(∀j,i < j→j < k→dst j=some t→L j=false)→find (nx dst v sH L k) t=some (v i)
 |0,h,_=>by omega
 |k+1,h,hj=>by
  simp only[nx]
  by_cases e:i=k
  · subst e
    simp only[hL,if_true,gl,hd]
  · have ih:=yd L t i hd hL k (by omega) (fun j h1 h2=>hj j h1 (by omega))
    by_cases hk:dst k=some t
    · rw[hj k (by omega) (by omega) hk]
      exact ih
    · split
      · simp only[gl,hk,if_false];exact ih
      · exact ih
theorem mL (L1 L2:Nat→Bool) (id:Nat): ∀k,(∀i,i < k→id∈wr i→L1 i=L2 i)→find (nE wr hpT oZ L1 k) id=find (nE wr hpT oZ L2 k) id
 |0,_=>rfl
 |k+1,h=>by
  have ih:=mL L1 L2 id k (fun i hi=>h i (by omega))
  simp only[nE]
  by_cases hd:id∈wr k
  · rw[h k (by omega) hd]
    split
    · simp only[gk,hd,if_true]
    · exact ih
  · have e: ∀ (L:Nat→Bool),find (if L k then tZ (wr k) (hpT (k+1)) (nE wr hpT oZ L k)else nE wr hpT oZ L k) id=find (nE wr hpT oZ L k) id:=by
     intro L
     split
     · simp only[gk,hd,if_false]
     · rfl
    rw[e L1,e L2,ih]
theorem yS (L:Nat→Bool) (id i:Nat) (hd:id∈wr i) (hL:L i=true): ∀k,i < k→(∀j,i < j→j < k→id∈wr j→L j=false)→find (nE wr hpT oZ L k) id=find (hpT (i+1)) id
 |0,h,_=>by omega
 |k+1,h,hj=>by
  simp only[nE]
  by_cases e:i=k
  · subst e
    simp only[hL,if_true,gk,hd]
  · have ih:=yS L id i hd hL k (by omega) (fun j h1 h2=>hj j h1 (by omega))
    by_cases hk:id∈wr k
    · rw[hj k (by omega) (by omega) hk]
      exact ih
    · split
      · simp only[gk,hk,if_false];exact ih
      · exact ih
theorem o6 (tmT:Nat→TS) (N:Nat) (h0:tmT 0=sH) (hs: ∀i,i < N→ ∀t,find (tmT (i+1)) t=find (eJ (tmT i) (dst i) (v i)) t) (L:Nat→Bool) (t:Nat): ∀k,k≤N→(∀i,i < k→L i=true)→find (nx dst v sH L k) t=find (tmT k) t
 |0,_,_=>by rw[h0];rfl
 |k+1,hk,hL=>by
  simp only[nx,hL k (by omega),if_true]
  rw[hs k (by omega) t,gl,gl,o6 tmT N h0 hs L t k (by omega) (fun i hi=>hL i (by omega))]
theorem pM (N:Nat) (h0:hpT 0=oZ) (hs: ∀i,i < N→ ∀id,¬id∈wr i→find (hpT (i+1)) id=find (hpT i) id) (L:Nat→Bool) (id:Nat): ∀k,k≤N→(∀i,i < k→L i=true)→find (nE wr hpT oZ L k) id=find (hpT k) id
 |0,_,_=>by rw[h0];rfl
 |k+1,hk,hL=>by
  simp only[nE,hL k (by omega),if_true,gk]
  split
  · rfl
  · rename_i hn
    rw[pM N h0 hs L id k (by omega) (fun i hi=>hL i (by omega)),hs k (by omega) id hn]
theorem tQ (i:Nat) (t:Nat): ∀k,i≤k→find (nx dst v sH (fun j=>decide (j < i)) k) t=find (nx dst v sH (fun j=>decide (j < i)) i) t
 |0,h=>by have:i=0:=by omega
          subst this;rfl
 |k+1,h=>by
  by_cases e:i=k+1
  · subst e;rfl
  · have ih:=tQ i t k (by omega)
    have hn:decide (k < i)=false:=by simp;omega
    simp only[nx]
    rw[if_neg (by simp;omega)]
    exact ih
theorem uP (i:Nat) (id:Nat): ∀k,i≤k→find (nE wr hpT oZ (fun j=>decide (j < i)) k) id=find (nE wr hpT oZ (fun j=>decide (j < i)) i) id
 |0,h=>by have:i=0:=by omega
          subst this;rfl
 |k+1,h=>by
  by_cases e:i=k+1
  · subst e;rfl
  · have ih:=uP i id k (by omega)
    simp only[nE]
    rw[if_neg (by simp;omega)]
    exact ih
end
theorem fm.sound {ops:Array Oper} {o:Oper} {i n nid:Nat} {tm:TS} {hp aH:HS} {v:V} {Q:Exit→Act→World→Prop} {K':Act→World→Prop} (hi:ops[i]? =some o)
 (h:fm P ops o n tm hp nid v aH) (hr:Rel M A ρ F ⟨n,tm,hp⟩ a w) (hF: ∀k,nid≤k→k < nid+4→F k)
 (hk: ∀a' w' A' ρ',Rel M A' ρ' (Sub F nid) ⟨n,eJ tm o.dst v,aH⟩ a' w'→df M w w'→cW ρ ρ'→bJ A A' w→K' a' w'):wpOp P ops Q i K' a w:=by
 obtain⟨hd,h⟩:=h
 have yY:=jz hd
 unfold wpOp
 simp only[hi]
 have fin: ∀ {a2:Act} {w2:World} {A2:Nat→Prop} {ρ2:Env} {x:Value} {hp2:HS},Rel M A2 ρ2 (Sub F nid) ⟨n,tm,hp2⟩ a2 w2→RV w2 A2 ρ2 v x→Rel M A2 ρ2 (Sub F nid) ⟨n,eJ tm o.dst v,hp2⟩ (a2.put o.dst x) w2:=by
  intro a2 w2 A2 ρ2 x hp2 r1 r2
  have:=r1.put (dst:=o.dst) r2 yY
  rw[kB]at this
  exact this
 split at h
 · exact h.elim
 · rename_i hg
   have:=cZ hr hg
   simp only[this,Bool.false_eq_true,if_false]
   obtain⟨rfl,rfl⟩:=h
   exact hk _ _ A ρ (fin (hr.sub fun id h=>h.1) qn) (df.refl _ _) (cW.refl _) (bJ.refl _ _)
 · rename_i hg
   have:=cZ hr hg
   simp only[this,if_true]
   refine .inl ?_
   split at h
   · rename_i g us hc
     obtain⟨he,hct⟩:=h
     obtain⟨xs,hx,hxs⟩:=lM (P:=P) hr hc he
     simp only[Oper.wp,hx,Oper.upon]
     refine(ej.sound hr hF hct hxs).mono ?_
     rintro e w' ⟨x,A',ρ',rfl,r1,r2,r3,r4,r5⟩
     exact hk _ _ A' ρ' (fin r1 r2) r3 r4 r5
   · obtain⟨x,w',A',ρ',hrun,r1,r2,r3,r4,r5⟩:=lG h hr (hF nid (Nat.le_refl _) (by omega))
     rcases hrun with hrun|⟨hrun,rfl⟩
     · simp only[Oper.wp,hrun,Oper.upon]
       exact hk _ _ A' ρ' (fin r1 r2) r3 r4 r5
     · simp only[Oper.wp,hrun,Oper.upon]
       exact hk _ _ A' ρ' (fin r1 r2) r3 r4 r5
def bg (o:Oper):List Nat:=(o.after.toList.filter (Region.binds .any)).map (·.on)
def ko:List (List Nat)→List Nat→List Nat
 | [],acc=>acc
 |es::r,acc=>ko r (acc++[es.foldl (fun s e=>s|||2 ^ e|||acc.getD e 0) 0])
theorem Bh: ∀ (r:List (List Nat)) (acc:List Nat), ∃tail,ko r acc=acc++tail∧tail.length=r.length
 | [],acc=>⟨[],by simp[ko]⟩
 |es::r,acc=>by
  obtain⟨tail,h1,h2⟩:=Bh r (acc++[es.foldl (fun s e=>s|||2 ^ e|||acc.getD e 0) 0])
  exact⟨_::tail,by simp only[ko];rw[h1,List.append_assoc];rfl,by simp[h2]⟩
theorem Bj: ∀ (r:List (List Nat)) (acc:List Nat) (k:Nat) (es:List Nat),r[k]? =some es→(∀e,e∈es→e < acc.length+k)→
 (ko r acc).getD (acc.length+k) 0=es.foldl (fun s e=>s|||2 ^ e|||(ko r acc).getD e 0) 0
 | [],acc,k,es,h,_=>by simp at h
 |G7::r,acc,0,es,h,he=>by
  simp only[List.getElem?_cons_zero,Option.some.injEq]at h
  subst h
  simp only[ko,Nat.add_zero]
  obtain⟨tail,h1,_⟩:=Bh r (acc++[G7.foldl (fun s e=>s|||2 ^ e|||acc.getD e 0) 0])
  rw[h1]
  have e1: ∀e,e∈G7→(acc++[G7.foldl (fun s e=>s|||2 ^ e|||acc.getD e 0) 0]++tail).getD e 0=acc.getD e 0:=by
   intro e hm
   have:=he e hm
   simp only[List.getD_eq_getElem?_getD,List.append_assoc]
   rw[List.getElem?_append_left (by omega)]
  have e2:(acc++[G7.foldl (fun s e=>s|||2 ^ e|||acc.getD e 0) 0]++tail).getD acc.length 0=G7.foldl (fun s e=>s|||2 ^ e|||acc.getD e 0) 0:=by
   simp[List.getD_eq_getElem?_getD]
  rw[e2]
  have gen: ∀ (l:List Nat) (s:Nat),(∀e,e∈l→e∈G7)→l.foldl (fun s e=>s|||2 ^ e|||acc.getD e 0) s=l.foldl (fun s e=>s|||2 ^ e|||(acc++[G7.foldl (fun s e=>s|||2 ^ e|||acc.getD e 0) 0]++tail).getD e 0) s:=by
   intro l
   induction l with
   |nil=>intro s _;rfl
   |cons x l ih=>
    intro s hs
    simp only[List.foldl_cons]
    rw[e1 x (hs x (by simp)),ih _ (fun e h=>hs e (by simp[h]))]
  exact gen G7 0 (fun _ h=>h)
 |G7::r,acc,k+1,es,h,he=>by
  have:=Bj r (acc++[G7.foldl (fun s e=>s|||2 ^ e|||acc.getD e 0) 0]) k es (by simpa using h) (fun e hm=>by have:=he e hm;simp;omega)
  simp only[ko]
  rw[show acc.length+(k+1)=(acc++[G7.foldl (fun s e=>s|||2 ^ e|||acc.getD e 0) 0]).length+k by simp;omega]
  exact this
theorem nP (g:Nat→Nat) (j:Nat): ∀ (l:List Nat) (s:Nat),(l.foldl (fun s e=>s|||2 ^ e|||g e) s).testBit j=true→s.testBit j=true∨ ∃e,e∈l∧(j=e∨(g e).testBit j=true)
 | [],s,h=> .inl h
 |e::r,s,h=>by
  simp only[List.foldl_cons]at h
  rcases nP g j r _ h with h|⟨e',h1,h2⟩
  · simp only[Nat.testBit_or,Bool.or_eq_true,Nat.testBit_two_pow,decide_eq_true_eq]at h
    rcases h with(h|h)|h
    · exact .inl h
    · exact .inr ⟨e,by simp, .inl h.symm⟩
    · exact .inr ⟨e,by simp, .inr h⟩
  · exact .inr ⟨e',by simp[h1],h2⟩
theorem oV {Es:List (List Nat)} (hE: ∀ (i:Nat) (es:List Nat),Es[i]? =some es→ ∀e,e∈es→e < i) {L:Nat→Bool}: ∀ (i:Nat),i < Es.length→
 (∀ (k:Nat) (es:List Nat),k < i→L k=true→Es[k]? =some es→ ∀e,e∈es→L e=true)→(∀ (es:List Nat),Es[i]? =some es→ ∀e,e∈es→L e=true)→ ∀j,((ko Es []).getD i 0).testBit j=true→L j=true∧j < i:=by
 intro i
 induction i using Nat.strongRecOn with
 |_ i ih=>
  intro hi dK hE' j hb
  obtain⟨es,jF⟩: ∃es,Es[i]? =some es:=⟨Es[i],by simp[hi]⟩
  have:=Bj Es [] i es jF (fun e he=>by simpa using hE i es jF e he)
  simp only[List.length_nil,Nat.zero_add]at this
  rw[this]at hb
  rcases nP _ j es 0 hb with h|⟨e,he,h⟩
  · simp at h
  · have hlt:=hE i es jF e he
    have hLe:=hE' es jF e he
    rcases h with rfl|h
    · exact⟨hLe,hlt⟩
    · obtain⟨h1,h2⟩:=ih e hlt (by omega) (fun k es' hk=>dK k es' (by omega)) (fun es' apD e' he'=>dK e es' hlt hLe apD e' he') j h
      exact⟨h1,by omega⟩
def Cm (l r:List Nat):Bool:=l.all fun x=> !r.contains x
theorem cM {l r:List Nat} (h:Cm l r=true) {x:Nat} (hx:x∈l) (hy:x∈r):False:=by
 have:=List.all_eq_true.1 h x hx
 simp only[Bool.not_eq_true',List.contains_eq_mem]at this
 simp[hy]at this
structure gV where
 dst:Option Nat
 nm:List Nat
 rd:List Nat
 wr:List Nat
def gV.apart (f g:gV):Bool:=
 Cm f.dst.toList g.nm&&Cm g.dst.toList f.nm&&Cm f.dst.toList g.dst.toList&&Cm f.wr g.rd&&Cm g.wr f.rd&&Cm f.wr g.wr
def vz (Es:List (List Nat)) (fs:List gV):Bool:=
 let bits:=ko Es []
 (List.range fs.length).all fun j=>match fs[j]? with
   |some g=>(List.range j).all fun i=>match fs[i]? with
    |some f=>(bits.getD j 0).testBit i||f.apart g
    |none=>true
   |none=>true
theorem sr {Es:List (List Nat)} {fs:List gV} (h:vz Es fs=true) {i j:Nat} {f g:gV} (hij:i < j) (hf:fs[i]? =some f) (hg:fs[j]? =some g):
 ((ko Es []).getD j 0).testBit i=true∨f.apart g=true:=by
 unfold vz at h
 have hj:j < fs.length:=(List.getElem?_eq_some_iff.1 hg).1
 have:=List.all_eq_true.1 h j (List.mem_range.2 hj)
 simp only[hg]at this
 have:=List.all_eq_true.1 this i (List.mem_range.2 hij)
 simp only[hf,Bool.or_eq_true]at this
 exact this
theorem exists_least {p:Nat→Bool}: ∀ {N:Nat},(∃i,i < N∧p i=false)→ ∃i,i < N∧p i=false∧ ∀j,j < i→p j=true
 |0,⟨i,h,_⟩=>by omega
 |N+1,⟨i,h,hp⟩=>by
  by_cases hq: ∃i,i < N∧p i=false
  · obtain⟨k,h1,h2,h3⟩:=exists_least hq
    exact⟨k,by omega,h2,h3⟩
  · have hi:i=N:=by
     rcases Nat.lt_or_ge i N with hl|hl
     · exact absurd ⟨i,hl,hp⟩ hq
     · omega
    subst hi
    refine⟨i,by omega,hp,fun j hj=>?_⟩
    cases hpj:p j with
    |true=>rfl
    |false=>exact absurd ⟨j,hj,hpj⟩ hq
def mW (L:Nat→Bool):Nat→Nat
 |0=>0
 |k+1=>mW L k+if L k then 0 else 1
theorem rf {L:Nat→Bool}: ∀ {k:Nat},mW L k=0→ ∀i,i < k→L i=true
 |0,_,i,hi=>by omega
 |k+1,h,i,hi=>by
  simp only[mW]at h
  by_cases e:i=k
  · subst e
    cases hL:L i with
    |true=>rfl
    |false=>simp[hL]at h
  · exact rf (k:=k) (by omega) i (by omega)
theorem vG {L L':Nat→Bool} {i:Nat} (hi:L i=false) (hi':L' i=true) (hne: ∀j,j≠i→L' j=L j): ∀ {k:Nat},i < k→mW L' k+1=mW L k
 |0,h=>by omega
 |k+1,h=>by
  simp only[mW]
  by_cases e:i=k
  · subst e
    have same: ∀ {m:Nat},m≤i→mW L' m=mW L m:=by
     intro m
     induction m with
     |zero=>intro _;rfl
     |succ m ih=>intro hm;simp only[mW];rw[ih (by omega),hne m (by omega)]
    rw[same (Nat.le_refl _),hi,hi']
    simp
  · have:=vG hi hi' hne (k:=k) (by omega)
    rw[hne k (fun e'=>e e'.symm)]
    omega
def DL (M A:Nat→Prop) (ρ:Env) (w:World) (Q:St→Nat→Prop) (a':Act) (w':World):Prop:=
 ∃st' bE A' ρ',Q st' bE∧Rel M A' ρ' (bC bE) st' a' w'∧df M w w'∧cW ρ ρ'∧bJ A A' w
theorem DL.Kf {Q:St→Nat→Prop} {a':Act} {w':World} (h:DL M A ρ w Q a' w'):Post M A ρ w Q a' w':=by
 obtain⟨st',c',A',ρ',h1,h2,h3,h4,h5⟩:=h
 exact⟨st',c',A',ρ',h1,h2,h3,h4.Kf,h5.m⟩
theorem A5 {ops:Array Oper} {n base:Nat} {tmT:Nat→TS} {hpT:Nat→HS} {v:Nat→V} {fs:List gV} {id:Nat} {Q:Exit→Act→World→Prop}
 (hfo:P.follows .mixedOrders=true)
 (hstep: ∀i o,ops[i]? =some o→fm P ops o n (tmT i) (hpT i) (base+4 * i) (v i) (hpT (i+1))∧(∀t,find (tmT (i+1)) t=find (eJ (tmT i) o.dst (v i)) t)∧
   ∃f,fs[i]? =some f∧f.dst=o.dst∧(∀t,t∈names ops o→t∈f.nm)∧(∀k,k∈iU (St.get ⟨n,tmT i,hpT i⟩) o→k∈f.rd)∧(∀k,k∈tt (St.get ⟨n,tmT i,hpT i⟩) (base+4 * i) o→k∈f.wr))
 (hE: ∀i o,ops[i]? =some o→ ∀e,e∈bg o→e < i)
 (hok:vz (ops.toList.map bg) fs=true)
 (cH:Rel M A ρ (bC base) ⟨n,tmT 0,hpT 0⟩ a w)
 (hQ: ∀a' w',DL M A ρ w (fun st c=>st=⟨n,tmT ops.size,hpT ops.size⟩∧c=base+4 * ops.size) a' w'→Q .normal a' w'):(Code.region id ops true).wp P Q a w:=by
 refine wp_region_any hfo ?_
 let N:=ops.size
 let dst:Nat→Option Nat:=fun i=>(ops[i]?).bind (·.dst)
 let wr:Nat→List Nat:=fun i=>((ops[i]?).map fun o=>tt (St.get ⟨n,tmT i,hpT i⟩) (base+4 * i) o).getD []
 have hop: ∀i,i < N→ ∃o,ops[i]? =some o:=fun i hi=>⟨ops[i],by simp[show i < ops.size from hi]⟩
 have uU: ∀i o,ops[i]? =some o→dst i=o.dst:=fun i o h=>by simp only[dst,h,Option.bind_some]
 have hwr: ∀i o,ops[i]? =some o→wr i=tt (St.get ⟨n,tmT i,hpT i⟩) (base+4 * i) o:=by
  intro i o h
  simp only[wr,h,Option.map_some,Option.getD_some]
 have uQ: ∀i,i < N→ ∀k,¬k∈wr i→find (hpT (i+1)) k=find (hpT i) k:=by
  intro i hi k hk
  obtain⟨o,ho⟩:=hop i hi
  obtain⟨h1,_⟩:=hstep i o ho
  obtain⟨_,_,h3⟩:=h1.loc (tm2:=tmT i) (hp2:=hpT i) (fun _ _=>rfl) (fun _ _=>rfl) (fun _ _=>rfl)
  rw[hwr i o ho]at hk
  exact(h3.2 k hk).1
 have Gl: ∀i,i < N→ ∀t,find (tmT (i+1)) t=find (eJ (tmT i) (dst i) (v i)) t:=by
  intro i hi t
  obtain⟨o,ho⟩:=hop i hi
  rw[(hstep i o ho).2.1 t,uU i o ho]
 have Ti: ∀ (i:Nat) (es:List Nat),(ops.toList.map bg)[i]? =some es→ ∀e,e∈es→e < i:=by
  intro i es h e he
  simp only[List.getElem?_map,Array.getElem?_toList,Option.map_eq_some_iff]at h
  obtain⟨o,ho,rfl⟩:=h
  exact hE i o ho e he
 let dc:Array Bool→Nat→Bool:=fun listed i=>listed.getD i false
 let Fr:(Nat→Bool)→Nat→Prop:=fun L k=>base+4 * N≤k∨ ∃j,j < N∧L j=false∧base+4 * j≤k∧k < base+4 * j+4
 have iB: ∀ {L:Nat→Bool} {i:Nat},i < N→(∀k o,ops[k]? =some o→L k=true→ ∀e,e∈bg o→L e=true)→(∀o,ops[i]? =some o→ ∀e,e∈bg o→L e=true)→
  ∀j,((ko (ops.toList.map bg) []).getD i 0).testBit j=true→L j=true:=by
  intro L i hi dK Ic j hb
  refine(oV Ti i (by simpa using hi) (fun k es _ EH jF e he=>?_) (fun es jF e he=>?_) j hb).1
  · simp only[List.getElem?_map,Array.getElem?_toList,Option.map_eq_some_iff]at jF
    obtain⟨o,ho,rfl⟩:=jF
    exact dK k o ho EH e he
  · simp only[List.getElem?_map,Array.getElem?_toList,Option.map_eq_some_iff]at jF
    obtain⟨o,ho,rfl⟩:=jF
    exact Ic o ho e he
 have hNs:N=ops.size:=rfl
 have finish: ∀ (L:Nat→Bool) (a':Act) (w':World) (A':Nat→Prop) (ρ':Env),(∀i,i < N→L i=true)→
  Rel M A' ρ' (Fr L) ⟨n,nx dst v (tmT 0) L N,nE wr hpT (hpT 0) L N⟩ a' w'→df M w w'→cW ρ ρ'→bJ A A' w→Q .normal a' w':=by
  intro L a' w' A' ρ' hall hr dJ cI hg
  refine hQ _ _ ⟨⟨n,tmT ops.size,hpT ops.size⟩,base+4 * ops.size,A',ρ',⟨rfl,rfl⟩,?_,dJ,cI,hg⟩
  have h1:Rel M A' ρ' (Fr L) ⟨n,tmT ops.size,hpT ops.size⟩ a' w':=hr.forget rfl (fun t u hu=>by
   rw[show find (⟨n,nx dst v (tmT 0) L N,nE wr hpT (hpT 0) L N⟩:St).tmps t=find (tmT N) t from o6 dst v (tmT 0) tmT N rfl Gl L t N (Nat.le_refl _) hall];exact hu) (fun k b hb=>by
   rw[show find (⟨n,nx dst v (tmT 0) L N,nE wr hpT (hpT 0) L N⟩:St).heap k=find (hpT N) k from pM wr hpT (hpT 0) N rfl uQ L k N (Nat.le_refl _) hall];exact hb)
  exact h1.sub (fun k hk=> .inl hk)
 have main: ∀ (fuel:Nat) (listed:Array Bool) (a':Act) (w':World) (A':Nat→Prop) (ρ':Env),listed.size=N→mW (dc listed) N≤fuel→
  (∀k o,ops[k]? =some o→dc listed k=true→ ∀e,e∈bg o→dc listed e=true)→
  Rel M A' ρ' (Fr (dc listed)) ⟨n,nx dst v (tmT 0) (dc listed) N,nE wr hpT (hpT 0) (dc listed) N⟩ a' w'→df M w w'→cW ρ ρ'→bJ A A' w→
  wpAny P .any ops Q fuel listed a' w':=by
  intro fuel
  induction fuel with
  |zero=>
   intro listed a' w' A' ρ' hsz EF dK hr dJ cI hg
   have hall:=rf (Nat.le_zero.1 EF)
   refine⟨?_,finish _ a' w' A' ρ' hall hr dJ cI hg⟩
   apply List.eq_nil_iff_forall_not_mem.2
   intro i hi
   rw[mem_ready]at hi
   obtain⟨h0,o,ho,_⟩:=hi
   have hlt:i < N:=(Array.getElem?_eq_some_iff.1 ho).1
   have:=hall i hlt
   simp only[dc,Array.getD_eq_getD_getElem?]at this h0
   have jH:i < listed.size:=by omega
   simp[jH]at this h0
   simp[this]at h0
  |succ fuel ih=>
   intro listed a' w' A' ρ' hsz EF dK hr dJ cI hg
   refine⟨fun AH=>?_,fun i hi=>?_⟩
   · by_cases hex: ∃i,i < N∧dc listed i=false
     · exfalso
       obtain⟨i,hi,hL,B5⟩:=exists_least hex
       obtain⟨o,ho⟩:=hop i hi
       have:i∈Region.ready .any ops listed:=by
        rw[mem_ready]
        refine⟨?_,o,ho,fun e he hb=>?_⟩
        · simp only[dc,Array.getD_eq_getD_getElem?]at hL⊢
          have jH:i < listed.size:=by omega
          simpa[jH]using hL
        · have hm:e.on∈bg o:=by simp only[bg,List.mem_map,List.mem_filter];exact⟨e,⟨by simpa using he,hb⟩,rfl⟩
          exact B5 _ (hE i o ho _ hm)
       rw[AH]at this
       simp at this
     · exact finish _ a' w' A' ρ' (fun i hi=>by cases h:dc listed i with|true=>rfl|false=>exact absurd ⟨i,hi,h⟩ hex) hr dJ cI hg
   · rw[mem_ready]at hi
     obtain⟨h0,o,ho,uT⟩:=hi
     have yV:i < N:=(Array.getElem?_eq_some_iff.1 ho).1
     have EI:dc listed i=false:=by
      simp only[dc,Array.getD_eq_getD_getElem?]at h0⊢
      have jH:i < listed.size:=by omega
      simpa[jH]using h0
     have Ic: ∀e,e∈bg o→dc listed e=true:=by
      intro e he
      simp only[bg,List.mem_map,List.mem_filter]at he
      obtain⟨ed,⟨h1,h2⟩,rfl⟩:=he
      exact uT ed (by simpa using h1) h2
     obtain⟨hst,anF,f,hf,fd,fn,fr,fw⟩:=hstep i o ho
     have order: ∀j oj g,j≠i→ops[j]? =some oj→fs[j]? =some g→(f.apart g=true∨g.apart f=true)∨(j < i∧dc listed j=true)∨(i < j∧dc listed j=false):=by
      intro j oj g fo oO jk
      have hjN:j < N:=(Array.getElem?_eq_some_iff.1 oO).1
      rcases Nat.lt_or_gt_of_ne fo with hlt|hgt
      · rcases sr hok hlt jk hf with hb|hb
        · exact .inr (.inl ⟨hlt,iB yV dK (fun o' vY=>by rw[ho]at vY;simp only[Option.some.injEq]at vY;subst vY;exact Ic) j hb⟩)
        · exact .inl (.inr hb)
      · rcases sr hok hgt hf jk with hb|hb
        · refine .inr (.inr ⟨hgt,?_⟩)
          cases hLj:dc listed j with
          |false=>rfl
          |true=>
           have:=iB hjN dK (fun o' vY=>dK j o' vY hLj) i hb
           rw[EI]at this
           simp at this
        · exact .inl (.inl hb)
     have vf: ∀j,j < N→ ∃oj g,ops[j]? =some oj∧fs[j]? =some g∧g.dst=dst j∧ ∀k,k∈wr j→k∈g.wr:=by
      intro j hj
      obtain⟨oj,oO⟩:=hop j hj
      obtain⟨_,_,g,g1,g2,_,_,g5⟩:=hstep j oj oO
      exact⟨oj,g,oO,g1,by rw[g2,uU j oj oO],fun k hk=>g5 k (by rw[hwr j oj oO]at hk;exact hk)⟩
     have apart_spec: ∀ {f g:gV},(f.apart g=true∨g.apart f=true)→(∀t,f.dst=some t→g.dst=some t→False)∧(∀t,g.dst=some t→t∈f.nm→False)∧(∀k,k∈g.wr→k∈f.rd→False)∧(∀k,k∈g.wr→k∈f.wr→False):=by
      intro f g h
      rcases h with h|h<;>simp only[gV.apart,Bool.and_eq_true]at h<;>obtain⟨⟨⟨⟨⟨h1,h2⟩,h3⟩,h4⟩,h5⟩,h6⟩:=h
      · exact⟨fun t a b=>cM (x:=t) h3 (by simp[a]) (by simp[b]),fun t a b=>cM (x:=t) h2 (by simp[a]) b,fun k a b=>cM h5 a b,fun k a b=>cM h6 b a⟩
      · exact⟨fun t a b=>cM (x:=t) h3 (by simp[b]) (by simp[a]),fun t a b=>cM (x:=t) h1 (by simp[a]) b,fun k a b=>cM h4 a b,fun k a b=>cM h6 a b⟩
     have Cz: ∀t,t∈names ops o→find (nx dst v (tmT 0) (dc listed) N) t=find (tmT i) t:=by
      intro t ht
      rw[mq dst v (tmT 0) (dc listed) (fun j=>decide (j < i)) t N ?_,tQ dst v (tmT 0) i t N (Nat.le_of_lt yV),o6 dst v (tmT 0) tmT N rfl Gl _ t i (Nat.le_of_lt yV) (fun j hj=>by simpa using hj)]
      intro j hj yX
      by_cases fo:j=i
      · subst fo;rw[EI];simp
      · obtain⟨oj,g,oO,jk,gd,gw⟩:=vf j hj
        rcases order j oj g fo oO jk with hap|⟨h1,h2⟩|⟨h1,h2⟩
        · exact((apart_spec hap).2.1 t (by rw[gd,yX]) (fn t ht)).elim
        · rw[h2];simp[h1]
        · rw[h2];simp;omega
     have vP: ∀k,(k∈f.rd∨k∈f.wr)→find (nE wr hpT (hpT 0) (dc listed) N) k=find (hpT i) k:=by
      intro k hk
      rw[mL wr hpT (hpT 0) (dc listed) (fun j=>decide (j < i)) k N ?_,uP wr hpT (hpT 0) i k N (Nat.le_of_lt yV),pM wr hpT (hpT 0) N rfl uQ _ k i (Nat.le_of_lt yV) (fun j hj=>by simpa using hj)]
      intro j hj yX
      by_cases fo:j=i
      · subst fo;rw[EI];simp
      · obtain⟨oj,g,oO,jk,gd,gw⟩:=vf j hj
        rcases order j oj g fo oO jk with hap|⟨h1,h2⟩|⟨h1,h2⟩
        · rcases hk with hk|hk
          · exact((apart_spec hap).2.2.1 k (gw k yX) hk).elim
          · exact((apart_spec hap).2.2.2 k (gw k yX) hk).elim
        · rw[h2];simp[h1]
        · rw[h2];simp;omega
     have Gw: ∀k,k∈four (base+4 * i)→k∈f.wr:=fun k hk=>fw k (by simp only[tt,List.mem_append];exact .inl hk)
     obtain⟨mM,Oj,Ji⟩:=hst.loc (tm2:=nx dst v (tmT 0) (dc listed) N) (hp2:=nE wr hpT (hpT 0) (dc listed) N) Cz (fun k hk=>vP k (.inl (fr k hk))) (fun k hk=>vP k (.inr (Gw k hk)))
     rw[←hwr i o ho]at Ji
     refine fm.sound ho Oj hr (fun k h1 h2=> .inr ⟨i,yV,EI,h1,h2⟩) ?_
     intro a2 w2 A2 ρ2 r1 r2 r3 r4
     have Gq: ∀j,dc (listed.setIfInBounds i true) j=if j=i then true else dc listed j:=by
      intro j
      by_cases fo:j=i
      · subst fo
        have:j < listed.size:=by omega
        simp[dc,Array.getD_eq_getD_getElem?,this]
      · simp only[dc,fo,if_false]
        exact getD_set_ne false (fun e=>fo e.symm)
     have uX:dc (listed.setIfInBounds i true) i=true:=by rw[Gq];simp
     have lW: ∀j,j≠i→dc (listed.setIfInBounds i true) j=dc listed j:=fun j hj=>by rw[Gq,if_neg hj]
     have later: ∀j,i < j→j < N→(∀oj g,ops[j]? =some oj→fs[j]? =some g→(f.apart g=true∨g.apart f=true)→False)→dc (listed.setIfInBounds i true) j=false:=by
      intro j h1 h2 h3
      obtain⟨oj,g,oO,jk,gd,gw⟩:=vf j h2
      rw[lW j (by omega)]
      rcases order j oj g (by omega) oO jk with hap|⟨h4,_⟩|⟨_,h5⟩
      · exact(h3 oj g oO jk hap).elim
      · omega
      · exact h5
     refine ih (listed.setIfInBounds i true) a2 w2 A2 ρ2 (by simpa using hsz) ?_ ?_ ?_ (dJ.trans r2) (cI.trans r3) (hg.trans r4 dJ.size)
     · have:=vG (L:=dc listed) (L':=dc (listed.setIfInBounds i true)) EI uX lW (k:=N) yV
       omega
     · intro k ok' sV EH e he
       by_cases pN:k=i
       · subst pN
         rw[ho]at sV
         simp only[Option.some.injEq]at sV
         subst sV
         exact getD_set_true (Ic e he)
       · rw[lW k pN]at EH
         exact getD_set_true (dK k ok' sV EH e he)
     · refine(Rel.forget (st':=⟨n,nx dst v (tmT 0) (dc (listed.setIfInBounds i true)) N,nE wr hpT (hpT 0) (dc (listed.setIfInBounds i true)) N⟩) r1 rfl (fun t u hu=>?_) (fun k b hb=>?_)).sub (fun k hk=>?_)
       · simp only[gl]
         split
         · rename_i hd
           have nW:=yd dst v (tmT 0) (dc (listed.setIfInBounds i true)) t i (by rw[uU i o ho];exact hd) uX N yV (fun j h1 h2 h3=>later j h1 h2 (fun oj g oO jk hap=>by
            obtain⟨_,g',_,xA,gd,_⟩:=vf j h2
            rw[jk]at xA
            simp only[Option.some.injEq]at xA
            subst xA
            exact(apart_spec hap).1 t (by rw[fd];exact hd) (by rw[gd];exact h3)))
           rw[←nW];exact hu
         · rename_i hd
           rw[mq dst v (tmT 0) (dc listed) (dc (listed.setIfInBounds i true)) t N (fun j hj yX=>by
            by_cases fo:j=i
            · subst fo;rw[uU j o ho]at yX;exact absurd yX hd
            · exact(lW j fo).symm)]
           exact hu
       · by_cases hk:k∈wr i
         · have hkw:k∈f.wr:=fw k (by rw[←hwr i o ho];exact hk)
           have nW:=yS wr hpT (hpT 0) (dc (listed.setIfInBounds i true)) k i hk uX N yV (fun j h1 h2 h3=>later j h1 h2 (fun oj g oO jk hap=>by
            obtain⟨_,g',_,xA,_,gw⟩:=vf j h2
            rw[jk]at xA
            simp only[Option.some.injEq]at xA
            subst xA
            exact(apart_spec hap).2.2.2 k (gw k h3) hkw))
           rw[Ji.1 k hk, ←nW];exact hb
         · rw[(Ji.2 k hk).2,mL wr hpT (hpT 0) (dc listed) (dc (listed.setIfInBounds i true)) k N (fun j hj yX=>by
            by_cases fo:j=i
            · subst fo;exact absurd yX hk
            · exact(lW j fo).symm)]
           exact hb
       · refine⟨?_,?_⟩
         · rcases hk with hk|⟨j,h1,h2,h3⟩
           · exact .inl hk
           · by_cases fo:j=i
             · subst fo;rw[uX]at h2;simp at h2
             · rw[lW j fo]at h2;exact .inr ⟨j,h1,h2,h3⟩
         · rintro⟨q1,q2⟩
           rcases hk with hk|⟨j,h1,h2,h3,h4⟩
           · omega
           · by_cases fo:j=i
             · subst fo;rw[uX]at h2;simp at h2
             · omega
 have h0: ∀i,dc (Array.replicate ops.size false) i=false:=by
  intro i
  simp only[dc,Array.getD_eq_getD_getElem?]
  by_cases hi:i < ops.size<;>simp[hi]
 refine main ops.size (Array.replicate ops.size false) a _ A ρ (by simp[N]) ?_ (fun k o _ hL=>by rw[h0]at hL;simp at hL) ?_ (df.drew M w) (cW.refl _) (bJ.refl _ _)
 · have: ∀k,mW (dc (Array.replicate ops.size false)) k=k:=by
    intro k
    induction k with
    |zero=>rfl
    |succ k ih=>simp only[mW,ih,h0];simp
   rw[this]
   exact Nat.le_refl _
 · have eT: ∀k,nx dst v (tmT 0) (dc (Array.replicate ops.size false)) k=tmT 0:=by
    intro k
    induction k with
    |zero=>rfl
    |succ k ih=>simp only[nx,h0,Bool.false_eq_true,if_false,ih]
   have eH: ∀k,nE wr hpT (hpT 0) (dc (Array.replicate ops.size false)) k=hpT 0:=by
    intro k
    induction k with
    |zero=>rfl
    |succ k ih=>simp only[nE,h0,Bool.false_eq_true,if_false,ih]
   rw[eT,eH]
   refine cH.drew.sub (fun k hk=>?_)
   simp only[bC]
   rcases hk with hk|⟨j,_,_,h3,_⟩<;>omega
theorem vw {ops:Array Oper} {n base:Nat} {tmT:Nat→TS} {hpT:Nat→HS} {v:Nat→V} {fs:List gV} {id:Nat} {Q:Exit→Act→World→Prop}
 (hfo:P.follows .mixedOrders=true)
 (hstep: ∀i o,ops[i]? =some o→fm P ops o n (tmT i) (hpT i) (base+4 * i) (v i) (hpT (i+1))∧(∀t,find (tmT (i+1)) t=find (eJ (tmT i) o.dst (v i)) t)∧
   ∃f,fs[i]? =some f∧f.dst=o.dst∧(∀t,t∈names ops o→t∈f.nm)∧(∀k,k∈iU (St.get ⟨n,tmT i,hpT i⟩) o→k∈f.rd)∧(∀k,k∈tt (St.get ⟨n,tmT i,hpT i⟩) (base+4 * i) o→k∈f.wr))
 (hE: ∀i o,ops[i]? =some o→ ∀e,e∈bg o→e < i)
 (hok:vz (ops.toList.map bg) fs=true)
 (cH:Rel M A ρ (bC base) ⟨n,tmT 0,hpT 0⟩ a w)
 (hQ: ∀a' w',Post M A ρ w (fun st c=>st=⟨n,tmT ops.size,hpT ops.size⟩∧c=base+4 * ops.size) a' w'→Q .normal a' w'):(Code.region id ops true).wp P Q a w:=
 A5 hfo hstep hE hok cH fun a' w' h=>hQ a' w' h.Kf
end Go.aU
end
section
namespace Go.aU
open Go
inductive Rc where
 |skip
 |ret
 |exit (id:Nat)
 |seq (a b:Rc)
 |cond (c:dP) (a b:Rc)
 |block (id:Nat) (b:Rc)
 |loop (b:Rc)
 |region (ops:List gv)
 |draw (ops:List gv) (es:List (List Nat))
def aW (P:Program) (all:Array Oper):List Oper→Option (List gv)
 | []=>some []
 |o::r=>
  match bk P o,aW P all r with
  |some x,some l=>
   match o.guard with
   |none=>some (⟨o.dst,none,x⟩::l)
   |some (j,want)=>
    match(all[j]?).bind (·.dst)with
    |some d=>some (⟨o.dst,some (d,want),x⟩::l)
    |none=>none
  |_,_=>none
def tD:Nat→List (List Nat)→Bool
 |_,[]=>true
 |i,es::r=>es.all (fun e=>decide (e < i))&&tD (i+1) r
def ae (P:Program):Code→Option Rc
 | .skip=>some .skip
 | .ret=>some .ret
 | .exit id=>some (.exit id)
 | .seq a b=>match ae P a,ae P b with
   |some x,some y=>some (.seq x y)
   |_,_=>none
 | .cond c a b=>match ae P a,ae P b with
   |some x,some y=>some (.cond (dl c) x y)
   |_,_=>none
 | .block id b=>match ae P b with
   |some x=>some (.block id x)
   |none=>none
 | .loop b=>match ae P b with
   |some x=>some (.loop x)
   |none=>none
 | .region _ ops false=>match aW P ops ops.toList with
   |some l=>some (.region l)
   |none=>none
 | .region _ ops true=>match aW P ops ops.toList with
   |some l=>if P.follows .mixedOrders&&tD 0 (ops.toList.map bg)then some (.draw l (ops.toList.map bg))else none
   |none=>none
 |_=>none
def CO (tm:TS):List dP→Option (List W)
 | []=>some []
 |x::r=>match x.get tm,CO tm r with
  | .w u,some l=>some (u::l)
  |_,_=>none
def qS {α:Sort _} (n:Nat) (k:Nat→α):α:=
 match n with
 |0=>k 0
 |m+1=>k (Nat.succ m)
theorem iC {α:Sort _} (n:Nat) (k:Nat→α):qS n k=k n:=by cases n<;>rfl
def yA (tm:TS) (dst:Option Nat) (v:V) (K:TS→Prop):Prop:=
 match dst with
 |some d=>K ((d,v)::tm)
 |none=>K tm
theorem jR (tm:TS) (dst:Option Nat) (v:V) (K:TS→Prop):yA tm dst v K=K (eJ tm dst v):=by cases dst<;>rfl
def fnX (v:V) (us:List W):Option (FuncId×List W):=
 match v with
 | .w (.one (.jB f da))=>some (f,us++da.map fun p=> .one (.ptr p.1 p.2.1 p.2.2.1 p.2.2.2))
 | .w (.one (.kR f true ts))=>some (f, .agg (ts.map .t)::us)
 | .w (.one (.kR f false [t]))=>some (f, .one (.t t)::us)
 | .w (.one (.t (.val (.func (.func f) first da))))=>if first.isEmpty&&da.isEmpty then some (f,us)else none
 |_=>none
def EvR (P:Program) (op:Op) (ty:TypeId) (tm:TS) (hp:HS) (ctr:Nat) (v:V) (aH:HS):Prop:=
 (∀get,bO get ⟨none,op,ty, "", #[],none⟩=none)∧ ∀ (n:Nat) (o:Oper),o.op=op→o.type=ty→aj P (St.get ⟨n,tm,hp⟩) hp ctr o=some (v,aH)
def M3 (P:Program) (o:gv) (tm:TS) (hp:HS) (ctr:Nat) (K:TS→HS→Nat→Prop):Prop:=
 match o.op with
 | .call f args=>match CO tm args with
   |some us=> ∃v aH,ej P hp ctr f us v aH∧rX v fun v=>yA tm o.dst v fun bh=>qS (ctr+4) fun c=>K bh aH c
   |none=>False
 | .fg x args=>match CO tm args with
   |some us=>match fnX (x.get tm) us with
    |some (f,fp)=>enters P f=true∧ ∃v aH,ej P hp ctr f fp v aH∧rX v fun v=>yA tm o.dst v fun bh=>qS (ctr+4) fun c=>K bh aH c
    |none=>False
   |none=>False
 | .raw op ty=> ∃v aH,EvR P op ty tm hp ctr v aH∧rX v fun v=>yA tm o.dst v fun bh=>qS (ctr+4) fun c=>K bh aH c
 |r=>XR r tm hp ctr fun v aH=>yA tm o.dst v fun bh=>qS (ctr+4) fun c=>K bh aH c
def jD (P:Program) (n:Nat) (op:Op) (ty:TypeId) (tm:TS) (hp:HS) (ctr:Nat) (v:V) (aH:HS):Prop:=
 ∀o:Oper,o.op=op→o.type=ty→HH P o n tm hp ctr v aH
def wN (P:Program) (n:Nat) (o:gv) (tm:TS) (hp:HS) (ctr:Nat) (K:TS→HS→Nat→Prop):Prop:=
 match o.op with
 | .call f args=>match CO tm args with
   |some us=> ∃v aH c',eo P f us hp ctr v aH c'∧rX v fun v=>yA tm o.dst v fun bh=>qS c' fun c=>K bh aH c
   |none=>False
 | .fg x args=>match CO tm args with
   |some us=>match fnX (x.get tm) us with
    |some (f,fp)=>enters P f=true∧ ∃v aH c',eo P f fp hp ctr v aH c'∧rX v fun v=>yA tm o.dst v fun bh=>qS c' fun c=>K bh aH c
    |none=>False
   |none=>False
 | .raw op ty=> ∃v aH,jD P n op ty tm hp ctr v aH∧rX v fun v=>yA tm o.dst v fun bh=>qS (ctr+4) fun c=>K bh aH c
 |r=>XR r tm hp ctr fun v aH=>yA tm o.dst v fun bh=>qS (ctr+4) fun c=>K bh aH c
def JE (P:Program) (n:Nat) (o:gv) (tm:TS) (hp:HS) (ctr:Nat) (K:TS→HS→Nat→Prop):Prop:=
 match gn n o.dst with
 |false=>False
 |true=>
  match o.guard with
  |none=>wN P n o tm hp ctr K
  |some (d,want)=>
   match find tm d with
   |some (.w (.one (.t (.val (.bool b)))))=>
    match want with
    |true=>br b (wN P n o ((d,bV true)::tm) hp ctr K) (K (eJ ((d,bV false)::tm) o.dst (.ep [])) hp ctr)
    |false=>br b (K (eJ ((d,bV true)::tm) o.dst (.ep [])) hp ctr) (wN P n o ((d,bV false)::tm) hp ctr K)
   |some (.ep [])=>K (eJ tm o.dst (.ep [])) hp ctr
   |_=>False
def th (P:Program) (n:Nat):List gv→TS→HS→Nat→(TS→HS→Nat→Prop)→Prop
 | [],tm,hp,ctr,K=>K tm hp ctr
 |o::r,tm,hp,ctr,K=>JE P n o tm hp ctr fun tm hp ctr=>th P n r tm hp ctr K
def Ro.ij:Ro→List dP
 | .kF x| .box x| .load _ x| .xJ _ x| .field _ _ x| .extract x _| .len x| .nC x| .not x| .neg x| .conv _ x| .Hs x=>[x]
 | .pick c x y=>[c,x,y]
 | .alloc _=>[]
 | .build _ ps=>ps.map (·.2.2)
 | .bc _ _ ps=>ps.map (·.2)
 | .store _ x y| .fJ _ x y| .uL _ _ x y| .make _ _ x y| .append _ _ x y| .bin _ x y| .oT _ x y| .A3 _ _ x y| .mu x y| .nA x y| .qy x y=>[x,y]
 | .slice _ x lo hi=>x::(lo.toList++hi.toList)
 | .jB _ da=>da
 | .call _ xs=>xs
 | .fg x xs=>x::xs
 | .raw op _=>op.operands.toList.map dl
def Ro.looks:Ro→Bool
 | .raw op _=>Go.aU.looks op
 | .load .. | .store .. | .append .. | .len .. | .nC .. | .mu .. | .nA .. | .call .. | .fg .. | .conv .. | .Hs .. =>true
 |_=>false
def Ro.wrt:Ro→Bool
 | .raw op _=>writes op
 | .store .. | .append .. =>true
 |_=>false
def RM:dP→Option Nat
 | .t n=>some n
 | .c _=>none
def dD (o:gv) (tm:TS) (ctr:Nat):gV:=
 let rd:=if o.op.looks then o.op.ij.flatMap fun x=>(x.get tm).ids else []
 ⟨o.dst,o.op.ij.filterMap RM++(o.guard.map (·.1)).toList,rd,four ctr++if o.op.wrt then rd else []⟩
def Hy (P:Program) (n:Nat) (o:gv) (tm:TS) (hp:HS) (ctr:Nat) (K:gV→TS→HS→Nat→Prop):Prop:=
 match gn n o.dst with
 |false=>False
 |true=>
  match o.guard with
  |none=>M3 P o tm hp ctr (K (dD o tm ctr))
  |some (d,want)=>
   match find tm d with
   |some (.w (.one (.t (.val (.bool b)))))=>
    match want with
    |true=>br b (M3 P o ((d,bV true)::tm) hp ctr (K (dD o ((d,bV true)::tm) ctr))) (K (dD o ((d,bV false)::tm) ctr) (eJ ((d,bV false)::tm) o.dst (.ep [])) hp (ctr+4))
    |false=>br b (K (dD o ((d,bV true)::tm) ctr) (eJ ((d,bV true)::tm) o.dst (.ep [])) hp (ctr+4)) (M3 P o ((d,bV false)::tm) hp ctr (K (dD o ((d,bV false)::tm) ctr)))
   |some (.ep [])=>K (dD o tm ctr) (eJ tm o.dst (.ep [])) hp (ctr+4)
   |_=>False
def qd (P:Program) (n:Nat):List gv→List gV→TS→HS→Nat→(List gV→TS→HS→Nat→Prop)→Prop
 | [],fs,tm,hp,ctr,K=>K fs tm hp ctr
 |o::r,fs,tm,hp,ctr,K=>Hy P n o tm hp ctr fun f tm hp ctr=>qd P n r (fs++[f]) tm hp ctr K
def gZ (K:TS→HS→Nat→Prop) (Q:Exit→TS→HS→Nat→Prop):Exit→TS→HS→Nat→Prop
 | .normal=>K
 |e=>Q e
def xW (id:Nat) (Q:Exit→TS→HS→Nat→Prop):Exit→TS→HS→Nat→Prop
 | .exit id'=>if id'=id then Q .normal else Q (.exit id')
 |e=>Q e
def dR (tm:TS) (hp:HS) (ctr:Nat) (bh:TS) (aH:HS) (c':Nat):Prop:=
 ∀ (M A:Nat→Prop) (ρ:Env) (n:Nat) (a:Act) (w:World),Rel M A ρ (bC ctr) ⟨n,tm,hp⟩ a w→ ∃A' ρ',Rel M A' ρ' (bC c') ⟨n,bh,aH⟩ a w∧iO ρ ρ'∧fP M A A' w
theorem dR.az {tm:TS} {hp:HS} {ctr:Nat} {S:Ren} (hok:S.ok=true):dR tm hp ctr (S.tm tm) (S.hp hp) S.ctr:=fun M A _ _ _ w hr=>by
 obtain⟨ρ',h1,h2⟩:=hr.az hok
 exact⟨A,ρ',h1,h2,fP.refl M A w⟩
theorem dR.refl {tm:TS} {hp:HS} {ctr:Nat}:dR tm hp ctr tm hp ctr:=fun M A ρ _ _ w hr=>⟨A,ρ,hr,iO.refl _,fP.refl M A w⟩
theorem dR.trans {tm ny tm2:TS} {hp hp1 hp2:HS} {c c1 c2:Nat} (h:dR tm hp c ny hp1 c1) (k:dR ny hp1 c1 tm2 hp2 c2):dR tm hp c tm2 hp2 c2:=by
 intro M A ρ n a w hr
 obtain⟨A1,ρ1,h1,e1,g1⟩:=h M A ρ n a w hr
 obtain⟨A2,ρ2,h2,e2,g2⟩:=k M A1 ρ1 n a w h1
 exact⟨A2,ρ2,h2,e1.trans e2,g1.trans g2 (Nat.le_refl _)⟩
inductive bQ (J:TS→HS→Nat→Prop):TS→HS→Nat→Prop
 |mk {tm:TS} {hp:HS} {ctr:Nat} (S:Ren) (hok:S.ok=true) (h:J (S.tm tm) (S.hp hp) S.ctr):bQ J tm hp ctr
 |sem {tm:TS} {hp:HS} {ctr:Nat} {bh:TS} {aH:HS} {c':Nat} (hw:dR tm hp ctr bh aH c') (h:bQ J bh aH c'):bQ J tm hp ctr
theorem bQ.mk' {J:TS→HS→Nat→Prop} {tm:TS} {hp:HS} {ctr:Nat} (h: ∃S:Ren,S.ok=true∧J (S.tm tm) (S.hp hp) S.ctr):bQ J tm hp ctr:=by
 obtain⟨S,h1,h2⟩:=h
 exact .mk S h1 h2
theorem bQ.get {J:TS→HS→Nat→Prop} {tm:TS} {hp:HS} {ctr:Nat} (h:bQ J tm hp ctr): ∃bh aH c',dR tm hp ctr bh aH c'∧J bh aH c':=by
 induction h with
 |mk S hok h=>exact⟨_,_,_,dR.az hok,h⟩
 |sem hw _ ih=>
  obtain⟨bh,aH,c',h1,h2⟩:=ih
  exact⟨bh,aH,c',hw.trans h1,h2⟩
def X (P:Program) (n:Nat):Rc→(Exit→TS→HS→Nat→Prop)→TS→HS→Nat→Prop
 | .skip,Q,tm,hp,ctr=>Q .normal tm hp ctr
 | .ret,Q,tm,hp,ctr=>Q .ret tm hp ctr
 | .exit id,Q,tm,hp,ctr=>Q (.exit id) tm hp ctr
 | .seq a b,Q,tm,hp,ctr=>X P n a (gZ (X P n b Q) Q) tm hp ctr
 | .cond c a b,Q,tm,hp,ctr=>
   match(c.get tm).gp with
   |some v=>br v (X P n a Q tm hp ctr) (X P n b Q tm hp ctr)
   |none=>False
 | .block id b,Q,tm,hp,ctr=>X P n b (xW id Q) tm hp ctr
 | .loop b,Q,tm,hp,ctr=> ∃I:Nat→TS→HS→Nat→Prop,bQ (fun tm hp c=> ∃m,I m tm hp c) tm hp ctr∧
    ∀m tm hp c,I m tm hp c→X P n b (gZ (bQ fun tm hp c=> ∃m',m' < m∧I m' tm hp c) Q) tm hp c
 | .region ops,Q,tm,hp,ctr=>th P n ops tm hp ctr (Q .normal)
 | .draw ops es,Q,tm,hp,ctr=>qd P n ops [] tm hp ctr fun fs tm hp ctr=>vz es fs=true∧Q .normal tm hp ctr
variable {P:Program} {M A:Nat→Prop} {ρ:Env} {F:Nat→Prop} {st:St} {a:Act} {w:World}
theorem om (st:St): ∀ (xs:List Operand),CO st.tmps (xs.map dl)=oo st.get xs
 | []=>rfl
 |x::r=>by simp only[List.map_cons,CO,oo,bj,om st r];rfl
def nD (n:Nat) (K:TS→HS→Nat→Prop):St→Nat→Prop:=fun st c=>st.n=n∧K st.tmps st.heap c
theorem wk {o:Oper} {f:FuncId} {args:List dP} (h:aK P o=some (.call f args)):
 ∃fk ic,o.op= .call ⟨.value (.func f),fk,ic⟩∧args=fk.toList.map dl∧enters P f=true:=by
 obtain⟨dst,op,ty,pos,after,guard⟩:=o
 cases op
 case call c=>
  obtain⟨callee,fk,ic⟩:=c
  simp only[aK]at h
  split at h
  · split at h
    · split at h
      · simp at h
      · simp at h
      · simp at h
    · simp at h
  · split at h
    · simp at h
    · simp at h
  · split at h
    · simp at h
    · simp at h
  · split at h
    · split at h
      · split at h
        · split at h
          · simp at h
          · simp at h
        · simp at h
      · simp at h
    · simp at h
  · rename_i g
    split at h
    · rename_i he
      simp only[Option.some.injEq,Ro.call.injEq]at h
      obtain⟨rfl,rfl⟩:=h
      exact⟨fk,ic,rfl,rfl,he⟩
    · simp at h
  · simp at h
 all_goals
  exfalso
  simp only[aK]at h
  repeat' (split at h)
  all_goals first
   |contradiction
   |(simp at h;done)
   |(simp[Option.map_eq_some_iff]at h;done)
theorem lq {o:Oper} {f:FuncId} {args:List dP} (h:bk P o=some (.call f args)):
 ∃fk ic,o.op= .call ⟨.value (.func f),fk,ic⟩∧args=fk.toList.map dl∧enters P f=true:=by
 unfold bk at h
 split at h
 · rename_i r' dn
   replace dn:=dG dn
   simp only[Option.some.injEq]at h
   subst h
   exact wk dn
 · simp only[Option.some.injEq]at h
   rcases kA o with⟨t,args,ic,_,e⟩|e
   · rw[e]at h;simp at h
   · rw[e]at h;simp at h
theorem ue {o:Oper} {x:dP} {args:List dP} (h:aK P o=some (.fg x args)):False:=by
 obtain⟨dst,op,ty,pos,after,guard⟩:=o
 cases op<;>simp only[aK]at h
 all_goals (repeat' split at h)
 all_goals simp at h
theorem yu {o:Oper} {op:Op} {ty:TypeId} (h:aK P o=some (.raw op ty)):False:=by
 obtain⟨dst,op,ty,pos,after,guard⟩:=o
 cases op<;>simp only[aK]at h
 all_goals (repeat' split at h)
 all_goals simp at h
theorem j7 {o:Oper} {x:dP} {args:List dP} (h:bk P o=some (.fg x args)): ∃t fk ic,o.op= .call ⟨.value (.tmp t),fk,ic⟩∧x= .t t∧args=fk.toList.map dl:=by
 unfold bk at h
 split at h
 · rename_i r hr
   replace hr:=dG hr
   simp only[Option.some.injEq]at h
   subst h
   exfalso
   exact ue hr
 · simp only[Option.some.injEq]at h
   rcases kA o with⟨t,fk,ic,ho,e⟩|e
   · rw[e]at h
     simp only[Ro.fg.injEq]at h
     exact⟨t,fk,ic,ho,h.1.symm,h.2.symm⟩
   · rw[e]at h;simp at h
theorem jP {o:Oper} {op:Op} {ty:TypeId} (h:bk P o=some (.raw op ty)):op=o.op∧ty=o.type:=by
 unfold bk at h
 split at h
 · rename_i r hr
   replace hr:=dG hr
   simp only[Option.some.injEq]at h
   subst h
   exfalso
   exact yu hr
 · simp only[Option.some.injEq]at h
   rcases kA o with⟨t,fk,ic,ho,e⟩|e
   · rw[e]at h;simp at h
   · rw[e]at h
     simp only[Ro.raw.injEq]at h
     exact⟨h.1.symm,h.2.symm⟩
theorem wN.wpOp {ops:Array Oper} {o:Oper} {i:Nat} {x:Ro} {g:Option (Nat×Bool)} {ctr:Nat} {K:TS→HS→Nat→Prop} (hi:ops[i]? =some o) (hx:bk P o=some x)
 (hd:gn st.n o.dst=true) (hg:aY ops o st.tmps=some true) (h:wN P st.n ⟨o.dst,g,x⟩ st.tmps st.heap ctr K):kT P ops i (nD st.n K) st ctr:=by
 unfold kT
 simp only[hi]
 refine⟨hd,?_⟩
 simp only[hg]
 unfold wN at h
 split at h
 · rename_i f args kI
   simp only at kI
   subst kI
   obtain⟨fk,ic,ho,rfl,mN⟩:=lq hx
   simp only[om]at h
   split at h
   · rename_i us fZ
     obtain⟨v,aH,c',hc,hK⟩:=h
     rw[dO,jR,iC]at hK
     have wE:bO st.get o=some (f,us):=by
      unfold bO
      rw[ho]
      simp only[St.get,V.ofValue,fZ]
      rfl
     exact .inl ⟨f,us,wE,mN,v,aH,c',hc,by rw[tw];exact⟨rfl,hK⟩⟩
   · exact h.elim
 · rename_i y args kI
   simp only at kI
   subst kI
   obtain⟨t,fk,ic,ho,rfl,rfl⟩:=j7 hx
   simp only[om]at h
   split at h
   · rename_i us fZ
     split at h
     · rename_i f fp hf
       obtain⟨mN,v,aH,c',hc,hK⟩:=h
       rw[dO,jR,iC]at hK
       have hv:st.get (.tmp t)=(dP.t t).get st.tmps:=(bj st (.tmp t)).symm
       have wE:bO st.get o=some (f,fp):=by
        unfold bO
        rw[ho]
        unfold fnX at hf
        split at hf
        · rename_i jW
          simp only[Option.some.injEq,Prod.mk.injEq]at hf
          obtain⟨rfl,rfl⟩:=hf
          simp only[hv,jW,fZ]
        · rename_i jW
          simp only[Option.some.injEq,Prod.mk.injEq]at hf
          obtain⟨rfl,rfl⟩:=hf
          simp only[hv,jW,fZ,mD,Option.map_some]
        · rename_i jW
          simp only[Option.some.injEq,Prod.mk.injEq]at hf
          obtain⟨rfl,rfl⟩:=hf
          simp only[hv,jW,fZ,mD,Option.map_some]
        · rename_i jW
          simp only[hv,jW,fZ]
          exact hf
        · simp at hf
       exact .inl ⟨f,fp,wE,mN,v,aH,c',hc,by rw[tw];exact⟨rfl,hK⟩⟩
     · exact h.elim
   · exact h.elim
 · rename_i op ty kI
   simp only at kI
   subst kI
   obtain⟨rfl,rfl⟩:=jP hx
   obtain⟨v,aH,hrn,hK⟩:=h
   rw[dO,jR,iC]at hK
   exact .inr ⟨v,aH,hrn o rfl rfl,by rw[tw];exact⟨rfl,hK⟩⟩
 · simp only[jR,iC]at h
   obtain⟨h1,v,heap',h2,h3⟩:=vQ hx h
   exact .inr ⟨v,heap',lH h2,by rw[tw];exact⟨rfl,h3⟩⟩
theorem Rel.lit {n:Nat} {tm:TS} {hp:HS} {d:Nat} {b c:Bool} (h:Rel M A ρ F ⟨n,tm,hp⟩ a w) (hf:find tm d=some (bV b)) (hb:b=c):Rel M A ρ F ⟨n,(d,bV c)::tm,hp⟩ a w:=by
 subst hb
 refine h.forget rfl (fun t v hv=>?_) (fun _ _ h=>h)
 simp only[av]at hv
 split at hv
 · rename_i e;subst e;rw[←hv];exact hf
 · exact hv
theorem JE.sound {ops:Array Oper} {o:Oper} {i n:Nat} {x:Ro} {g:Option (Nat×Bool)} {ctr:Nat} {tm:TS} {hp:HS} {K:TS→HS→Nat→Prop} {Q:Exit→Act→World→Prop} {K':Act→World→Prop}
 (hi:ops[i]? =some o) (hx:bk P o=some x) (hgd:(o.guard=none∧g=none)∨ ∃j want d,o.guard=some (j,want)∧(ops[j]?).bind (·.dst)=some d∧g=some (d,want))
 (h:JE P n ⟨o.dst,g,x⟩ tm hp ctr K) (hr:Rel M A ρ (bC ctr) ⟨n,tm,hp⟩ a w) (hk: ∀a' w',Post M A ρ w (nD n K) a' w'→K' a' w'):wpOp P ops Q i K' a w:=by
 unfold JE at h
 split at h
 · exact h.elim
 · rename_i hd
   simp only at hd
   have gE: ∀ {bh:TS},Rel M A ρ (bC ctr) ⟨n,bh,hp⟩ a w→aY ops o bh=some false→K (eJ bh o.dst (.ep [])) hp ctr→wpOp P ops Q i K' a w:=by
    intro bh dn jk hK
    refine kT.sound (K:=nD n K) (ctr:=ctr) ?_ dn hk
    unfold kT
    simp only[hi]
    refine⟨hd,?_⟩
    simp only[jk,kB]
    exact⟨rfl,hK⟩
   have wanted: ∀ {bh:TS},Rel M A ρ (bC ctr) ⟨n,bh,hp⟩ a w→aY ops o bh=some true→wN P n ⟨o.dst,g,x⟩ bh hp ctr K→wpOp P ops Q i K' a w:=by
    intro bh dn jk hX
    exact kT.sound (K:=nD n K) (ctr:=ctr) (wN.wpOp (st:=⟨n,bh,hp⟩) hi hx hd jk hX) dn hk
   rcases hgd with⟨BB,rfl⟩|⟨j,want,d,BB,hj,rfl⟩
   · simp only at h
     exact wanted hr (by simp[aY,BB]) h
   · have eR: ∀ {bh:TS} {b:Bool},find bh d=some (bV b)→aY ops o bh=some (b==want):=by
      intro bh b hf
      simp only[aY,BB,hj,hf]
     simp only at h
     split at h
     · rename_i b hf
       split at h
       · rcases jg h with⟨hb,h⟩|⟨hb,h⟩
         · exact wanted (hr.lit hf hb) (by rw[eR (b:=true) (by simp[av])];rfl) h
         · exact gE (hr.lit hf hb) (by rw[eR (b:=false) (by simp[av])];rfl) h
       · rcases jg h with⟨hb,h⟩|⟨hb,h⟩
         · exact gE (hr.lit hf hb) (by rw[eR (b:=true) (by simp[av])];rfl) h
         · exact wanted (hr.lit hf hb) (by rw[eR (b:=false) (by simp[av])];rfl) h
     · rename_i hf
       exact gE hr (by simp only[aY,BB,hj,hf]) h
     · exact h.elim
theorem th.sound {ops:Array Oper} {n:Nat} {K:TS→HS→Nat→Prop} {Q:Exit→Act→World→Prop}: ∀ {l:List Oper} {rs:List gv} {k:Nat} {M A:Nat→Prop} {ρ:Env} {tm:TS} {hp:HS} {a:Act} {w:World} {ctr:Nat},
 (∀j,ops[k+j]? =l[j]?)→aW P ops l=some rs→th P n rs tm hp ctr K→Rel M A ρ (bC ctr) ⟨n,tm,hp⟩ a w→(∀a' w',Post M A ρ w (nD n K) a' w'→Q .normal a' w')→
 wpOps P ops Q (List.range' k l.length) a w
 | [],rs,k,M,A,ρ,tm,hp,a,w,ctr,hl,eP,h,hr,hq=>by
   simp only[aW,Option.some.injEq]at eP
   subst eP
   exact hq _ _ (Post.here hr ⟨rfl,h⟩)
 |o::l,rs,k,M,A,ρ,tm,hp,a,w,ctr,hl,eP,h,hr,hq=>by
  simp only[aW]at eP
  split at eP
  · rename_i x l' hx hl'
    have hi:ops[k]? =some o:=by simpa using hl 0
    have rest: ∀ {g:Option (Nat×Bool)},rs=⟨o.dst,g,x⟩::l'→((o.guard=none∧g=none)∨ ∃j want d,o.guard=some (j,want)∧(ops[j]?).bind (·.dst)=some d∧g=some (d,want))→wpOps P ops Q (List.range' k (l.length+1)) a w:=by
     intro g Om hgd
     subst Om
     simp only[th]at h
     rw[List.range'_succ,wpOps_cons]
     refine JE.sound hi hx hgd h hr (fun a' w' aH=>?_)
     obtain⟨st',c',A',ρ',⟨h1,Ie⟩,h2,h3,h4,h5⟩:=aH
     subst h1
     exact th.sound (k:=k+1) (fun j=>by have:=hl (j+1);rw[show k+1+j=k+(j+1) by omega,this];simp) hl' Ie h2 (fun a2 w2 hp2=>hq _ _ (hp2.trans h3 h4 h5))
    split at eP
    · rename_i hg
      simp only[Option.some.injEq]at eP
      exact rest eP.symm (.inl ⟨hg,rfl⟩)
    · rename_i j want hg
      split at eP
      · rename_i d hd
        simp only[Option.some.injEq]at eP
        exact rest eP.symm (.inr ⟨j,want,d,hg,hd,rfl⟩)
      · simp at eP
  · simp at eP
theorem AC (v:Value):(V.ofValue v).ids=[]:=by
 cases v with
 |agg cs=>
  simp only[V.ofValue]
  split
  · simp only[V.ids,W.ids,List.flatMap_eq_nil_iff,List.mem_map]
    rintro c ⟨x,_,rfl⟩
    rfl
  · rfl
 |_=>rfl
theorem oG {place:Nat→Option (Nat×Nat)}: ∀ {ps:List (Nat×Operand)} {l:List (Nat×Nat×dP)},mH place ps=some l→ ∀p,p∈ps→dl p.2∈l.map (·.2.2)
 | [],l,h,p,hp=>by simp at hp
 |(i,x)::r,l,h,p,hp=>by
  simp only[mH]at h
  split at h
  · rename_i off size l' h1 h2
    simp only[Option.some.injEq]at h
    subst h
    rcases List.mem_cons.1 hp with rfl|hp
    · simp
    · simp only[List.map_cons,List.mem_cons];exact .inr (oG h2 p hp)
  · simp at h
theorem wj {o:Oper} {r:Ro} (h:aK P o=some r):(∀x,x∈o.op.operands→dl x∈r.ij∨ ∃f,x= .func f)∧(looks o.op=true→r.looks=true)∧(writes o.op=true→r.wrt=true):=by
 obtain⟨dst,op,ty,pos,after,guard⟩:=o
 cases op
 case call c=>
  obtain⟨callee,args,ic⟩:=c
  simp only[aK]at h
  split at h
  · split at h
    · rename_i x t hx ht
      split at h
      · simp only[Option.some.injEq]at h
        subst h
        refine⟨fun y hy=>?_,fun _=>rfl,fun hw=>by simp[writes]at hw⟩
        have:y∈args.toList:=by simpa[Op.operands,Call.operands]using hy
        rw[hx]at this
        simp only[List.mem_singleton]at this
        subst this
        exact .inl (by simp[Ro.ij])
      · simp only[Option.some.injEq]at h
        subst h
        refine⟨fun y hy=>?_,fun _=>rfl,fun hw=>by simp[writes]at hw⟩
        have:y∈args.toList:=by simpa[Op.operands,Call.operands]using hy
        rw[hx]at this
        simp only[List.mem_singleton]at this
        subst this
        exact .inl (by simp[Ro.ij])
      · simp at h
    · simp at h
  · split at h
    · rename_i x y hx
      simp only[Option.some.injEq]at h
      subst h
      refine⟨fun z hz=>?_,fun _=>rfl,fun hw=>by simp[writes]at hw⟩
      have:z∈args.toList:=by simpa[Op.operands,Call.operands]using hz
      rw[hx]at this
      simp only[List.mem_cons,List.not_mem_nil,or_false]at this
      rcases this with rfl|rfl
      · exact .inl (by simp[Ro.ij])
      · exact .inl (by simp[Ro.ij])
    · simp at h
  · split at h
    · rename_i x y hx
      simp only[Option.some.injEq]at h
      subst h
      refine⟨fun z hz=>?_,fun _=>rfl,fun hw=>by simp[writes]at hw⟩
      have:z∈args.toList:=by simpa[Op.operands,Call.operands]using hz
      rw[hx]at this
      simp only[List.mem_cons,List.not_mem_nil,or_false]at this
      rcases this with rfl|rfl
      · exact .inl (by simp[Ro.ij])
      · exact .inl (by simp[Ro.ij])
    · simp at h
  · split at h
    · rename_i s x t t' hx ht
      split at h
      · split at h
        · split at h
          · simp only[Option.some.injEq]at h
            subst h
            refine⟨fun y hy=>?_,fun _=>rfl,fun _=>rfl⟩
            have:y∈args.toList:=by simpa[Op.operands,Call.operands]using hy
            rw[hx]at this
            simp only[List.mem_cons,List.not_mem_nil,or_false]at this
            rcases this with rfl|rfl
            · exact .inl (by simp[Ro.ij])
            · exact .inl (by simp[Ro.ij])
          · simp at h
        · simp at h
      · simp at h
    · simp at h
  · rename_i f
    split at h
    · simp only[Option.some.injEq]at h
      subst h
      refine⟨fun y hy=>?_,fun _=>rfl,fun hw=>by simp[writes]at hw⟩
      simp only[Op.operands,Call.operands,Array.mem_append]at hy
      rcases hy with hy|hy
      · exact .inr ⟨f,by simpa using hy⟩
      · exact .inl (by simp only[Ro.ij,List.mem_map];exact⟨y,by simpa using hy,rfl⟩)
    · simp at h
  · simp at h
 case build t ps=>
  simp only[aK]at h
  split at h
  · split at h
    · simp only[Option.map_eq_some_iff]at h
      obtain⟨l,hl,rfl⟩:=h
      refine⟨fun y hy=>?_,fun hl=>by simp[looks]at hl,fun hw=>by simp[writes]at hw⟩
      simp[Op.operands]at hy
      obtain⟨i,hi⟩:=hy
      exact .inl (oG hl (i,y) (by simpa using hi))
    · simp at h
  · split at h
    · simp only[Option.map_eq_some_iff]at h
      obtain⟨l,hl,rfl⟩:=h
      refine⟨fun y hy=>?_,fun hl=>by simp[looks]at hl,fun hw=>by simp[writes]at hw⟩
      simp[Op.operands]at hy
      obtain⟨i,hi⟩:=hy
      exact .inl (oG hl (i,y) (by simpa using hi))
    · simp at h
  · simp at h
 case buildSlice t len ps=>
  simp only[aK]at h
  split at h
  · split at h
    · split at h
      · simp only[Option.some.injEq]at h
        subst h
        refine⟨fun y hy=>?_,fun hl=>by simp[looks]at hl,fun hw=>by simp[writes]at hw⟩
        simp[Op.operands]at hy
        obtain⟨i,hi⟩:=hy
        refine .inl ?_
        simp only[Ro.ij,List.map_map,List.mem_map]
        exact⟨(i,y),by simpa using hi,rfl⟩
      · simp at h
    · simp at h
  · simp at h
 case makeFunc fn first captured=>
  cases fn with
  |func f=>
   simp only[aK]at h
   split at h
   · rename_i hc
     simp only[Option.some.injEq]at h
     subst h
     simp only[Bool.and_eq_true,Array.isEmpty_iff]at hc
     obtain⟨rfl,_⟩:=hc
     refine⟨fun y hy=>?_,fun hl=>by simp[looks]at hl,fun hw=>by simp[writes]at hw⟩
     refine .inl ?_
     simp only[Ro.ij,List.mem_map]
     exact⟨y,by simpa[Op.operands]using hy,rfl⟩
   · simp at h
  |_=>simp[aK]at h
 case slice t x lo hi mx=>
  cases mx with
  |some m=>simp[aK]at h
  |none=>
   simp only[aK]at h
   split at h
   · simp only[Option.map_eq_some_iff]at h
     obtain⟨n,hn,rfl⟩:=h
     refine⟨fun y hy=>?_,fun hl=>by simp[looks]at hl,fun hw=>by simp[writes]at hw⟩
     refine .inl ?_
     cases lo<;>cases hi<;>simp[Op.operands,Ro.ij]at hy⊢ <;>(first|(rcases hy with rfl|rfl|rfl<;>simp)|(rcases hy with rfl|rfl<;>simp)|(subst hy;simp))
   · simp at h
 case unOp op t x=>
  cases op<;>simp only[aK]at h<;>try (simp at h;done)
  all_goals
   simp only[Option.some.injEq]at h
   subst h
   refine⟨fun y hy=>?_,fun hl=>by simp[looks]at hl,fun hw=>by simp[writes]at hw⟩
   simp[Op.operands]at hy
   subst hy
   simp[Ro.ij]
 all_goals
  simp only[aK]at h
  repeat' (split at h)
  all_goals first
   |contradiction
   |(simp at h;done)
   |(simp only[Option.some.injEq]at h
     subst h
     refine⟨fun y hy=>?_,fun hl=>by first|rfl|(simp[looks]at hl;done),fun hw=>by first|rfl|(simp[writes]at hw;done)⟩
     first
      |(simp[Op.operands]at hy;done)
      |(simp[Op.operands]at hy;rcases hy with rfl|rfl|rfl<;>simp[Ro.ij];done)
      |(simp[Op.operands]at hy;rcases hy with rfl|rfl<;>simp[Ro.ij];done)
      |(simp[Op.operands]at hy;subst hy;simp[Ro.ij];done))
   |(simp only[Option.map_eq_some_iff]at h
     obtain⟨q,hq,rfl⟩:=h
     refine⟨fun y hy=>?_,fun hl=>by first|rfl|(simp[looks]at hl;done),fun hw=>by first|rfl|(simp[writes]at hw;done)⟩
     first
      |(simp[Op.operands]at hy;done)
      |(simp[Op.operands]at hy;rcases hy with rfl|rfl|rfl<;>simp[Ro.ij];done)
      |(simp[Op.operands]at hy;rcases hy with rfl|rfl<;>simp[Ro.ij];done)
      |(simp[Op.operands]at hy;subst hy;simp[Ro.ij];done))
theorem M3.step {o:Oper} {x:Ro} {g:Option (Nat×Bool)} {n ctr:Nat} {tm:TS} {hp:HS} {K:TS→HS→Nat→Prop} (hx:bk P o=some x) (h:M3 P ⟨o.dst,g,x⟩ tm hp ctr K):
 ∃v aH,(match bO (St.get ⟨n,tm,hp⟩) o with
  |some (g,us)=>enters P g=true∧ej P hp ctr g us v aH
  |none=>aj P (St.get ⟨n,tm,hp⟩) hp ctr o=some (v,aH))∧K (eJ tm o.dst v) aH (ctr+4):=by
 unfold M3 at h
 split at h
 · rename_i f args kI
   simp only at kI
   subst kI
   obtain⟨fk,ic,ho,rfl,mN⟩:=lq hx
   have Ew:=om ⟨n,tm,hp⟩ fk.toList
   simp only at Ew
   rw[Ew]at h
   split at h
   · rename_i us fZ
     obtain⟨v,aH,hc,hK⟩:=h
     rw[dO,jR,iC]at hK
     have wE:bO (St.get ⟨n,tm,hp⟩) o=some (f,us):=by
      unfold bO
      rw[ho]
      have hf:St.get ⟨n,tm,hp⟩ (.func f)= .w (.one (.t (.val (.func (.func f) #[] #[])))):=rfl
      simp only[hf,fZ]
      rfl
     exact⟨v,aH,by rw[wE];exact⟨mN,hc⟩,hK⟩
   · exact h.elim
 · rename_i y args kI
   simp only at kI
   subst kI
   obtain⟨t,fk,ic,ho,rfl,rfl⟩:=j7 hx
   have Ew:=om ⟨n,tm,hp⟩ fk.toList
   simp only at Ew
   rw[Ew]at h
   split at h
   · rename_i us fZ
     split at h
     · rename_i f fp hf
       obtain⟨mN,v,aH,hc,hK⟩:=h
       rw[dO,jR,iC]at hK
       have hv:St.get ⟨n,tm,hp⟩ (.tmp t)=(dP.t t).get tm:=(bj ⟨n,tm,hp⟩ (.tmp t)).symm
       have wE:bO (St.get ⟨n,tm,hp⟩) o=some (f,fp):=by
        unfold bO
        rw[ho]
        unfold fnX at hf
        split at hf
        · rename_i jW
          simp only[Option.some.injEq,Prod.mk.injEq]at hf
          obtain⟨rfl,rfl⟩:=hf
          simp only[hv,jW,fZ]
        · rename_i jW
          simp only[Option.some.injEq,Prod.mk.injEq]at hf
          obtain⟨rfl,rfl⟩:=hf
          simp only[hv,jW,fZ,mD,Option.map_some]
        · rename_i jW
          simp only[Option.some.injEq,Prod.mk.injEq]at hf
          obtain⟨rfl,rfl⟩:=hf
          simp only[hv,jW,fZ,mD,Option.map_some]
        · rename_i jW
          simp only[hv,jW,fZ]
          exact hf
        · simp at hf
       exact⟨v,aH,by rw[wE];exact⟨mN,hc⟩,hK⟩
     · exact h.elim
   · exact h.elim
 · rename_i op ty kI
   simp only at kI
   subst kI
   obtain⟨rfl,rfl⟩:=jP hx
   obtain⟨v,aH,⟨wE,dJ⟩,hK⟩:=h
   rw[dO,jR,iC]at hK
   have apL:bO (St.get ⟨n,tm,hp⟩) o=none:=by
    have:=wE (St.get ⟨n,tm,hp⟩)
    unfold bO at this⊢
    exact this
   exact⟨v,aH,by rw[apL];exact dJ n o rfl rfl,hK⟩
 · rename_i r hne
   simp only[jR,iC]at h
   obtain⟨h1,v,aH,h2,h3⟩:=vQ (st:=⟨n,tm,hp⟩) hx h
   exact⟨v,aH,by rw[h1];exact h2,h3⟩
theorem yt {o:Oper} {r:Ro} (h:bk P o=some r):(∀x,x∈o.op.operands→dl x∈r.ij∨ ∃f,x= .func f)∧(looks o.op=true→r.looks=true)∧(writes o.op=true→r.wrt=true):=by
 unfold bk at h
 split at h
 · rename_i r' dn
   replace dn:=dG dn
   simp only[Option.some.injEq]at h
   subst h
   exact wj dn
 · simp only[Option.some.injEq]at h
   subst h
   rcases kA o with⟨t,args,ic,ho,e⟩|e
   · rw[e,ho]
     refine⟨fun x hx=> .inl ?_,fun _=>rfl,fun hw=>by simp[writes]at hw⟩
     have hx':x= .tmp t∨x∈args:=by simpa[Op.operands,Call.operands]using hx
     simp only[Ro.ij,List.mem_cons,List.mem_map]
     rcases hx' with rfl|hx'
     · exact .inl rfl
     · exact .inr ⟨x,by simpa using hx',rfl⟩
   · rw[e]
     refine⟨fun x hx=> .inl ?_,fun hl=>hl,fun hw=>hw⟩
     simp only[Ro.ij,List.mem_map]
     exact⟨x,by simpa using hx,rfl⟩
theorem xG {ops:Array Oper} {o:Oper} {x:Ro} {g:Option (Nat×Bool)} {n ctr:Nat} {tm:TS} {hp:HS} (hx:bk P o=some x)
 (hgd:(o.guard=none∧g=none)∨ ∃j want d,o.guard=some (j,want)∧(ops[j]?).bind (·.dst)=some d∧g=some (d,want)):
 (dD ⟨o.dst,g,x⟩ tm ctr).dst=o.dst∧(∀t,t∈names ops o→t∈ (dD ⟨o.dst,g,x⟩ tm ctr).nm)∧(∀k,k∈iU (St.get ⟨n,tm,hp⟩) o→k∈ (dD ⟨o.dst,g,x⟩ tm ctr).rd)∧
   (∀k,k∈tt (St.get ⟨n,tm,hp⟩) ctr o→k∈ (dD ⟨o.dst,g,x⟩ tm ctr).wr):=by
 obtain⟨h1,h2,h3⟩:=yt hx
 have hrd: ∀k,k∈iU (St.get ⟨n,tm,hp⟩) o→k∈ (dD ⟨o.dst,g,x⟩ tm ctr).rd:=by
  intro k hk
  simp only[iU]at hk
  split at hk
  · rename_i hl
    simp only[dD,h2 hl,if_true,List.mem_flatMap]
    simp only[List.mem_flatMap]at hk
    obtain⟨y,hy,hky⟩:=hk
    rw[←bj]at hky
    rcases h1 y (by simpa using hy)with hm|⟨f,rfl⟩
    · exact⟨dl y,hm,hky⟩
    · simp only[dl,dP.get,AC]at hky
      simp at hky
  · simp at hk
 refine⟨rfl,fun t ht=>?_,hrd,fun k hk=>?_⟩
 · simp only[names,List.mem_append,List.mem_filterMap]at ht
   simp only[dD,List.mem_append,List.mem_filterMap]
   rcases ht with⟨y,hy,hyt⟩|ht
   · left
     cases y with
     |tmp t'=>
      simp only[Option.some.injEq]at hyt
      subst hyt
      rcases h1 (.tmp t') (by simpa using hy)with hm|⟨f,hf⟩
      · exact⟨.t t',hm,rfl⟩
      · simp at hf
     |_=>simp at hyt
   · right
     rcases hgd with⟨hg,rfl⟩|⟨j,want,d,hg,hd,rfl⟩
     · simp[hg]at ht
     · simp only[hg,hd]at ht
       simpa using ht
 · simp only[tt,List.mem_append]at hk
   simp only[dD,List.mem_append]
   rcases hk with hk|hk
   · exact .inl hk
   · split at hk
     · rename_i hw
       right
       rw[if_pos (h3 hw)]
       exact hrd k hk
     · simp at hk
theorem Hy.step {ops:Array Oper} {o:Oper} {n ctr:Nat} {x:Ro} {g:Option (Nat×Bool)} {tm:TS} {hp:HS} {K:gV→TS→HS→Nat→Prop}
 (hx:bk P o=some x) (hgd:(o.guard=none∧g=none)∨ ∃j want d,o.guard=some (j,want)∧(ops[j]?).bind (·.dst)=some d∧g=some (d,want)) (h:Hy P n ⟨o.dst,g,x⟩ tm hp ctr K):
 ∃bh v aH,(∀t,find bh t=find tm t)∧fm P ops o n bh hp ctr v aH∧K (dD ⟨o.dst,g,x⟩ bh ctr) (eJ bh o.dst v) aH (ctr+4):=by
 unfold Hy at h
 split at h
 · exact h.elim
 · rename_i hd
   simp only at hd
   have wanted: ∀ {bh:TS},(∀t,find bh t=find tm t)→aY ops o bh=some true→M3 P ⟨o.dst,g,x⟩ bh hp ctr (K (dD ⟨o.dst,g,x⟩ bh ctr))→
    ∃bh v aH,(∀t,find bh t=find tm t)∧fm P ops o n bh hp ctr v aH∧K (dD ⟨o.dst,g,x⟩ bh ctr) (eJ bh o.dst v) aH (ctr+4):=by
    intro bh he hg hX
    obtain⟨v,aH,h1,h2⟩:=M3.step (n:=n) hx hX
    exact⟨bh,v,aH,he,⟨hd,by rw[hg];exact h1⟩,h2⟩
   have gE: ∀ {bh:TS},(∀t,find bh t=find tm t)→aY ops o bh=some false→K (dD ⟨o.dst,g,x⟩ bh ctr) (eJ bh o.dst (.ep [])) hp (ctr+4)→
    ∃bh v aH,(∀t,find bh t=find tm t)∧fm P ops o n bh hp ctr v aH∧K (dD ⟨o.dst,g,x⟩ bh ctr) (eJ bh o.dst v) aH (ctr+4):=by
    intro bh he hg hK
    exact⟨bh, .ep [],hp,he,⟨hd,by rw[hg];exact⟨rfl,rfl⟩⟩,hK⟩
   rcases hgd with⟨BB,rfl⟩|⟨j,want,d,BB,hj,rfl⟩
   · simp only at h
     exact wanted (fun _=>rfl) (by simp[aY,BB]) h
   · have eR: ∀ {bh:TS} {b:Bool},find bh d=some (bV b)→aY ops o bh=some (b==want):=by
      intro bh b hf
      simp only[aY,BB,hj,hf]
     simp only at h
     split at h
     · rename_i b hf
       have lit: ∀ {c:Bool},b=c→ ∀t,find ((d,bV c)::tm) t=find tm t:=by
        intro c hb t
        subst hb
        simp only[av]
        split
        · rename_i e;subst e;exact hf.symm
        · rfl
       split at h
       · rcases jg h with⟨hb,h⟩|⟨hb,h⟩
         · exact wanted (lit hb) (by rw[eR (b:=true) (by simp[av])];rfl) h
         · exact gE (lit hb) (by rw[eR (b:=false) (by simp[av])];rfl) h
       · rcases jg h with⟨hb,h⟩|⟨hb,h⟩
         · exact gE (lit hb) (by rw[eR (b:=true) (by simp[av])];rfl) h
         · exact wanted (lit hb) (by rw[eR (b:=false) (by simp[av])];rfl) h
     · rename_i hf
       exact gE (fun _=>rfl) (by simp only[aY,BB,hj,hf]) h
     · exact h.elim
theorem qd.trace {ops:Array Oper} {n base:Nat} {K:List gV→TS→HS→Nat→Prop}: ∀ {l:List Oper} {rs:List gv} {k:Nat} {EK:List gV} {tm:TS} {hp:HS},(∀j,ops[k+j]? =l[j]?)→aW P ops l=some rs→
 EK.length=k→qd P n rs EK tm hp (base+4 * k) K→
 ∃ (tmT:Nat→TS) (hpT:Nat→HS) (v:Nat→V) (fs:List gV),K fs (tmT (k+l.length)) (hpT (k+l.length)) (base+4 * (k+l.length))∧(∀i,i < k→fs[i]? =EK[i]?)∧(∀t,find (tmT k) t=find tm t)∧hpT k=hp∧
  ∀j o,l[j]? =some o→fm P ops o n (tmT (k+j)) (hpT (k+j)) (base+4 * (k+j)) (v (k+j)) (hpT (k+j+1))∧(∀t,find (tmT (k+j+1)) t=find (eJ (tmT (k+j)) o.dst (v (k+j))) t)∧
   ∃f,fs[k+j]? =some f∧f.dst=o.dst∧(∀t,t∈names ops o→t∈f.nm)∧(∀q,q∈iU (St.get ⟨n,tmT (k+j),hpT (k+j)⟩) o→q∈f.rd)∧(∀q,q∈tt (St.get ⟨n,tmT (k+j),hpT (k+j)⟩) (base+4 * (k+j)) o→q∈f.wr)
 | [],rs,k,EK,tm,hp,hl,eP,hk,h=>by
   simp only[aW,Option.some.injEq]at eP
   subst eP
   exact⟨fun _=>tm,fun _=>hp,fun _=> .undef,EK,by simpa[qd]using h,fun _ _=>rfl,fun _=>rfl,rfl,fun j o hj=>by simp at hj⟩
 |o::l,rs,k,EK,tm,hp,hl,eP,hk,h=>by
  simp only[aW]at eP
  split at eP
  · rename_i x l' hx hl'
    have hi:ops[k]? =some o:=by simpa using hl 0
    have jk: ∃g,rs=⟨o.dst,g,x⟩::l'∧((o.guard=none∧g=none)∨ ∃j want d,o.guard=some (j,want)∧(ops[j]?).bind (·.dst)=some d∧g=some (d,want)):=by
     split at eP
     · rename_i hg
       simp only[Option.some.injEq]at eP
       exact⟨_,eP.symm, .inl ⟨hg,rfl⟩⟩
     · rename_i j want hg
       split at eP
       · rename_i d hd
         simp only[Option.some.injEq]at eP
         exact⟨_,eP.symm, .inr ⟨j,want,d,hg,hd,rfl⟩⟩
       · simp at eP
    obtain⟨g,Om,hgd⟩:=jk
    clear eP
    subst Om
    · skip
      simp only[qd]at h
      obtain⟨bh,v0,aH,he,hst,hK⟩:=Hy.step (ops:=ops) hx hgd h
      have Gx:=xG (ops:=ops) (n:=n) (ctr:=base+4 * k) (tm:=bh) (hp:=hp) hx hgd
      rw[show base+4 * k+4=base+4 * (k+1) by omega]at hK
      obtain⟨tmT,hpT,v,fs,q1,q2,q3,q4,q5⟩:=qd.trace (k:=k+1) (fun j=>by have:=hl (j+1);rw[show k+1+j=k+(j+1) by omega,this];simp) hl' (by simp[hk]) hK
      have AI:fs[k]? =some (dD ⟨o.dst,g,x⟩ bh (base+4 * k)):=by
       rw[q2 k (by omega),List.getElem?_append_right (by omega),hk];simp
      refine⟨fun i=>if i=k then bh else tmT i,fun i=>if i=k then hp else hpT i,fun i=>if i=k then v0 else v i,fs,?_,?_,?_,?_,?_⟩
      · have e1:k+(o::l).length=k+1+l.length:=by simp;omega
        have e2:¬k+1+l.length=k:=by omega
        simp only[e1,e2,if_false]
        exact q1
      · intro i hi'
        rw[q2 i (by omega),List.getElem?_append_left (by omega)]
      · intro t;simp only[if_true];exact he t
      · simp
      · intro j oj hj
        cases j with
        |zero=>
         simp only[List.getElem?_cons_zero,Option.some.injEq]at hj
         subst hj
         have e2:¬k+1=k:=by omega
         simp only[Nat.add_zero,if_true,e2,if_false,q4]
         exact⟨hst,fun t=>q3 t,_,AI,Gx⟩
        |succ j=>
         have:=q5 j oj (by simpa using hj)
         have e1:¬k+(j+1)=k:=by omega
         have e2:¬k+(j+1)+1=k:=by omega
         simp only[e1,e2,if_false]
         rw[show k+(j+1)=k+1+j by omega]
         exact this
  · simp at eP
theorem je: ∀ {Es:List (List Nat)} {k:Nat},tD k Es=true→ ∀i es,Es[i]? =some es→ ∀e,e∈es→e < k+i
 | [],k,h,i,es,hi,e,he=>by simp at hi
 |x::r,k,h,i,es,hi,e,he=>by
  simp only[tD,Bool.and_eq_true]at h
  cases i with
  |zero=>
   simp only[List.getElem?_cons_zero,Option.some.injEq]at hi
   subst hi
   have:=List.all_eq_true.1 h.1 e he
   simpa using this
  |succ i=>
   have:=je h.2 i es (by simpa using hi) e he
   omega
theorem Wp.Fs {c:Code} {Q:Exit→St→Nat→Prop} {ctr:Nat} {bh:TS} {aH:HS} {c':Nat} (hw:dR st.tmps st.heap ctr bh aH c') (h:Wp P c Q ⟨st.n,bh,aH⟩ c'):Wp P c Q st ctr:=by
 intro M A ρ a w hr
 obtain⟨A2,ρ2,uN,he,hg⟩:=hw M A ρ st.n a w hr
 exact wp_mono (h M A2 ρ2 a w uN) (fun e a' w' hp=>hp.trans (df.refl _ _) he hg)
theorem Wp.post {c:Code} {Q Q':Exit→St→Nat→Prop} {ctr:Nat} (h:Wp P c Q st ctr)
 (hq: ∀e st' c',Q e st' c'→Q' e st' c'∨ ∃tm2 hp2 c2,dR st'.tmps st'.heap c' tm2 hp2 c2∧Q' e ⟨st'.n,tm2,hp2⟩ c2):Wp P c Q' st ctr:=by
 intro M A ρ a w hr
 refine wp_mono (h M A ρ a w hr) ?_
 rintro e a' w' ⟨st',c',A',ρ',h1,h2,h3,h4,h5⟩
 rcases hq e st' c' h1 with h1|⟨tm2,hp2,c2,hw,h1⟩
 · exact⟨st',c',A',ρ',h1,h2,h3,h4,h5⟩
 · obtain⟨A2,ρ2,uN,he,hg⟩:=hw M A' ρ' st'.n a' w' h2
   exact⟨_,c2,A2,ρ2,h1,uN,h3,h4.trans he,h5.trans hg h3.size⟩
theorem X.sound {n:Nat}: ∀ {c:Code} {r:Rc},ae P c=some r→ ∀ {Q:Exit→TS→HS→Nat→Prop} {tm:TS} {hp:HS} {ctr:Nat},X P n r Q tm hp ctr→Wp P c (fun e=>nD n (Q e)) ⟨n,tm,hp⟩ ctr:=by
 intro c
 induction c with
 |skip=>
  intro r hr Q tm hp ctr h
  simp only[ae,Option.some.injEq]at hr
  subst hr
  exact Wp.skip ⟨rfl,h⟩
 |ret=>
  intro r hr Q tm hp ctr h
  simp only[ae,Option.some.injEq]at hr
  subst hr
  exact Wp.ret ⟨rfl,h⟩
 |exit id=>
  intro r hr Q tm hp ctr h
  simp only[ae,Option.some.injEq]at hr
  subst hr
  exact Wp.exit ⟨rfl,h⟩
 |seq x y Gi Gh=>
  intro r hr Q tm hp ctr h
  simp only[ae]at hr
  split at hr
  · rename_i rx ry hx hy
    simp only[Option.some.injEq]at hr
    subst hr
    simp only[X]at h
    refine Wp.seq ((Gi hx h).mono ?_)
    rintro e st' c' ⟨h1,h2⟩
    subst h1
    cases e with
    |normal=>exact Gh hy h2
    |_=>exact⟨rfl,h2⟩
  · simp at hr
 |cond c x y Gi Gh=>
  intro r hr Q tm hp ctr h
  simp only[ae]at hr
  split at hr
  · rename_i rx ry hx hy
    simp only[Option.some.injEq]at hr
    subst hr
    simp only[X]at h
    split at h
    · rename_i b hb
      have hb':((⟨n,tm,hp⟩:St).get c).gp =some b:=by rw[←bj];exact hb
      refine Wp.cond hb' ?_
      rcases jg h with⟨rfl,h⟩|⟨rfl,h⟩
      · exact Gi hx h
      · exact Gh hy h
    · exact h.elim
  · simp at hr
 |block id b ih=>
  intro r hr Q tm hp ctr h
  simp only[ae]at hr
  split at hr
  · rename_i rb hb
    simp only[Option.some.injEq]at hr
    subst hr
    simp only[X]at h
    refine Wp.block ((ih hb h).mono ?_)
    rintro e st' c' ⟨h1,h2⟩
    cases e with
    |exit id'=>
     simp only[xW]at h2
     simp only[rj]
     split
     · rename_i e;rw[if_pos e]at h2;exact⟨h1,h2⟩
     · rename_i e;rw[if_neg e]at h2;exact⟨h1,h2⟩
    |_=>exact⟨h1,h2⟩
  · simp at hr
 |loop b ih=>
  intro r hr Q tm hp ctr h
  simp only[ae]at hr
  split at hr
  · rename_i rb hb
    simp only[Option.some.injEq]at hr
    subst hr
    simp only[X]at h
    obtain⟨I,mN,B4⟩:=h
    obtain⟨sH,oZ,c0,HX,m,hI⟩:=mN.get
    refine Wp.Fs (st:=⟨n,tm,hp⟩) HX ?_
    refine Wp.loop (fun m=>nD n (I m)) ?_ m _ _ ⟨rfl,hI⟩
    rintro m st' c' ⟨h1,h2⟩
    obtain⟨n',bh,aH⟩:=st'
    simp only at h1 h2
    subst h1
    refine Wp.post (ih hb (B4 m bh aH c' h2)) ?_
    rintro e st2 c2 ⟨h3,h4⟩
    cases e with
    |normal=>
     obtain⟨tm3,hp3,c3,hw3,m',hm',Td⟩:=bQ.get h4
     exact .inr ⟨tm3,hp3,c3,hw3,m',hm',h3,Td⟩
    |_=>exact .inl ⟨h3,h4⟩
  · simp at hr
 |region id ops d=>
  intro r hr Q tm hp ctr h
  cases d with
  |true=>
   simp only[ae]at hr
   split at hr
   · rename_i l hl
     split at hr
     · rename_i hc
       simp only[Bool.and_eq_true]at hc
       simp only[Option.some.injEq]at hr
       subst hr
       simp only[X]at h
       intro M A ρ a w cH
       obtain⟨tmT,hpT,v,fs,⟨q0,q1⟩,_,q3,q4,q5⟩:=qd.trace (P:=P) (ops:=ops) (n:=n) (base:=ctr) (k:=0) (fun j=>by simp) hl rfl (by simpa using h)
       simp only[Nat.zero_add]at q1 q5
       have AF:Rel M A ρ (bC ctr) ⟨n,tmT 0,hpT 0⟩ a w:=cH.forget rfl (fun t u hu=>by rw[←q3 t];exact hu) (fun k b hb=>by rw[q4]at hb;exact hb)
       refine vw hc.1 (fun i o ho=>q5 i o (by simpa using ho)) (fun i o ho e he=>?_) q0 AF ?_
       · have:=je hc.2 i (bg o) (by simp[ho]) e he
         omega
       · rintro a' w' ⟨st',c',A',ρ',⟨rfl,rfl⟩,h2⟩
         exact⟨_,_,A',ρ',⟨rfl,by simpa using q1⟩,h2⟩
     · simp at hr
   · simp at hr
  |false=>
   simp only[ae]at hr
   split at hr
   · rename_i l hl
     simp only[Option.some.injEq]at hr
     subst hr
     simp only[X]at h
     intro M A ρ a w cH
     refine wp_region ?_
     have:=th.sound (P:=P) (ops:=ops) (k:=0) (l:=ops.toList) (Q:=fun e a' w'=>Post M A ρ w (nD n (Q e)) a' w') (fun j=>by simp) hl h cH (fun _ _ hp=>hp)
     rw[List.range_eq_range']
     simpa using this
   · simp at hr
 |_=>intro r hr;simp[ae]at hr
end Go.aU
end
section
namespace Go.aU
open Go
inductive Pn where
 |e
 |o (p:Pn)
 |i (p:Pn)
 deriving DecidableEq
def F9:Nat→Nat→Pn
 |0,_=> .e
 |f+1,n=>match n with
  |0=> .e
  |m+1=>match m % 2 with
   |0=> .o (F9 f (m / 2))
   |_=> .i (F9 f (m / 2))
def key (n:Nat):Pn:=F9 n n
def Pn.dec:Pn→Nat
 | .e=>0
 | .o p=>2 * p.dec+1
 | .i p=>2 * p.dec+2
theorem pJ: ∀ (f n:Nat),n≤f→(F9 f n).dec=n
 |0,n,h=>by
  have:n=0:=by omega
  subst this
  rfl
 |f+1,0,_=>rfl
 |f+1,m+1,h=>by
  simp only[F9]
  have ih:=pJ f (m / 2) (by omega)
  split
  · rename_i h0
    simp only[Pn.dec,ih]
    omega
  · rename_i h0
    simp only[Pn.dec,ih]
    have:m % 2≠0:=h0
    omega
theorem key_inj {a b:Nat} (h:key a=key b):a=b:=by
 have h1:=pJ a a (Nat.le_refl _)
 have h2:=pJ b b (Nat.le_refl _)
 unfold key at h
 rw[h,h2]at h1
 exact h1.symm
inductive Tr where
 |nil
 |node (v:Option V) (l r:Tr)
def Tr.get:Tr→Pn→Option V
 | .nil,_=>none
 | .node v l r,p=>match p with
   | .e=>v
   | .o q=>l.get q
   | .i q=>r.get q
def Tr.set:Pn→Tr→V→Tr
 | .e,t,x=>match t with
   | .nil=> .node (some x) .nil .nil
   | .node _ l r=> .node (some x) l r
 | .o p,t,x=>match t with
   | .nil=> .node none (Tr.set p .nil x) .nil
   | .node v l r=> .node v (Tr.set p l x) r
 | .i p,t,x=>match t with
   | .nil=> .node none .nil (Tr.set p .nil x)
   | .node v l r=> .node v l (Tr.set p r x)
def Tr.put {α:Type}:Pn→Tr→V→(Tr→α)→α
 | .e,t,x,k=>match t with
   | .nil=>k (.node (some x) .nil .nil)
   | .node _ l r=>k (.node (some x) l r)
 | .o p,t,x,k=>match t with
   | .nil=>Tr.put p .nil x fun l=>k (.node none l .nil)
   | .node v l r=>Tr.put p l x fun l=>k (.node v l r)
 | .i p,t,x,k=>match t with
   | .nil=>Tr.put p .nil x fun r=>k (.node none .nil r)
   | .node v l r=>Tr.put p r x fun r=>k (.node v l r)
theorem Tr.put_eq {α:Type}: ∀ (p:Pn) (t:Tr) (x:V) (k:Tr→α),Tr.put p t x k=k (Tr.set p t x)
 | .e,t,x,k=>by cases t<;>rfl
 | .o p,t,x,k=>by cases t<;>simp only[Tr.put,Tr.set,Tr.put_eq p]
 | .i p,t,x,k=>by cases t<;>simp only[Tr.put,Tr.set,Tr.put_eq p]
theorem Tr.tC (q:Pn):Tr.nil.get q=none:=by cases q<;>rfl
theorem Tr.zc: ∀ (p:Pn) (t:Tr) (x:V) (q:Pn),(Tr.set p t x).get q=if q=p then some x else t.get q
 | .e,t,x,q=>by cases t<;>cases q<;>simp[Tr.set,Tr.get]
 | .o p,t,x,q=>by cases t<;>cases q<;>simp[Tr.set,Tr.get,Tr.zc p,Tr.tC]
 | .i p,t,x,q=>by cases t<;>cases q<;>simp[Tr.set,Tr.get,Tr.zc p,Tr.tC]
def eB (tr:Tr) (L:TS):Prop:= ∀t,find L t=tr.get (key t)
def j8 {α:Type} (tm:Tr) (dst:Option Nat) (v:V) (k:Tr→α):α:=
 match dst with
 |some d=>Tr.put (key d) tm v k
 |none=>k tm
def tY (tm:Tr) (dst:Option Nat) (v:V):Tr:=
 match dst with
 |some d=>Tr.set (key d) tm v
 |none=>tm
theorem gJ {α:Type} (tm:Tr) (dst:Option Nat) (v:V) (k:Tr→α):j8 tm dst v k=k (tY tm dst v):=by
 cases dst<;>simp[j8,tY,Tr.put_eq]
theorem eB.put {tr:Tr} {L:TS} (h:eB tr L) (dst:Option Nat) (v:V):eB (tY tr dst v) (eJ L dst v):=by
 intro t
 cases dst with
 |none=>exact h t
 |some d=>
  simp only[tY,eJ,Tr.zc,av]
  by_cases e:d=t
  · subst e;simp
  · have:¬key t=key d:=fun h'=>e (key_inj h').symm
    simp[e,this,h t]
def gT (tm:Tr):dP→V
 | .t n=>(tm.get (key n)).getD .undef
 | .c v=>v
theorem kN {tr:Tr} {L:TS} (h:eB tr L):gT tr=fun x=>x.get L:=by
 funext x
 cases x with
 |t n=>simp only[gT,dP.get,h n]
 |c v=>rfl
def nq {α:Sort _} (n:Nat) (k:Nat→α):α:=
 match n with
 |0=>k 0
 |m+1=>k (Nat.succ m)
theorem dB {α:Sort _} (n:Nat) (k:Nat→α):nq n k=k n:=by cases n<;>rfl
def EM {α:Sort _} (n:Int) (k:Int→α):α:=
 match n with
 | .ofNat m=>nq m fun m=>k (.ofNat m)
 | .negSucc m=>nq m fun m=>k (.negSucc m)
theorem Cf {α:Sort _} (n:Int) (k:Int→α):EM n k=k n:=by cases n<;>simp[EM,dB]
def EN {α:Sort _} (b:Bool) (k:Bool→α):α:=
 match b with
 |true=>k true
 |false=>k false
theorem oR {α:Sort _} (b:Bool) (k:Bool→α):EN b k=k b:=by cases b<;>rfl
def gi {α:Type} (b:Bool) (x y:α):α:=
 match b with
 |true=>x
 |false=>y
theorem bu {b:Bool} {x:Bool} (h:gi b x false=true):b=true∧x=true:=by cases b<;>simp_all[gi]
def nth {α:Type}:List α→Nat→Option α
 | [],_=>none
 |x::r,n=>match n with
  |0=>some x
  |m+1=>nth r m
theorem lA {α:Type}: ∀ (l:List α) (n:Nat),nth l n=l[n]?
 | [],n=>by simp[nth]
 |x::r,0=>by simp[nth]
 |x::r,n+1=>by simp[nth,lA r n]
theorem vL {a b:Nat} (h:Nat.blt a b=true):a < b:=Nat.le_of_ble_eq_true h
theorem N7 {a b:Nat} (h:a < b):Nat.blt a b=true:=Nat.ble_eq_true_of_le h
theorem DE (a b:Nat):Nat.blt a b=decide (a < b):=by
 by_cases h:a < b
 · rw[N7 h,decide_eq_true h]
 · rw[decide_eq_false h]
   cases h':Nat.blt a b with
   |false=>rfl
   |true=>exact absurd (vL h') h
def mP (k:IntKind) (n:Int):Int:=
 match k with
 | .i64=>match n with
   | .ofNat m=>gi (Nat.blt m 9223372036854775808) (.ofNat m) (IntKind.wrap .i64 (.ofNat m))
   | .negSucc m=>gi (Nat.blt m 9223372036854775808) (.negSucc m) (IntKind.wrap .i64 (.negSucc m))
 | .u64=>match n with
   | .ofNat m=> .ofNat (m % 18446744073709551616)
   | .negSucc m=>IntKind.wrap .u64 (.negSucc m)
 | .u32=>match n with
   | .ofNat m=> .ofNat (m % 4294967296)
   | .negSucc m=>IntKind.wrap .u32 (.negSucc m)
 |k=>k.wrap n
theorem aa {n:Int} (h0: -9223372036854775808≤n) (h1:n < 9223372036854775808):IntKind.i64.wrap n=n:=by
 simp[IntKind.wrap,IntKind.bits,IntKind.signed]
 omega
theorem Ab (k:IntKind) (b:Bool) (n:Int) (h:b=true→k.wrap n=n):gi b n (k.wrap n)=k.wrap n:=by
 cases b with
 |false=>rfl
 |true=>exact(h rfl).symm
theorem mO (k:IntKind) (n:Int):mP k n=k.wrap n:=by
 unfold mP
 split
 · split
   · rename_i m
     refine Ab .i64 _ _ fun h=>aa ?_ ?_
     · have:=vL h;simp only[Int.ofNat_eq_natCast];omega
     · have:=vL h;simp only[Int.ofNat_eq_natCast];omega
   · rename_i m
     refine Ab .i64 _ _ fun h=>aa ?_ ?_
     · have:=vL h;omega
     · have:=vL h;omega
 · split
   · rename_i m
     simp only[IntKind.wrap,IntKind.bits,IntKind.signed,Bool.false_and,Int.ofNat_eq_natCast]
     simp
   · rfl
 · split
   · rename_i m
     simp only[IntKind.wrap,IntKind.bits,IntKind.signed,Bool.false_and,Int.ofNat_eq_natCast]
     simp
   · rfl
 · rfl
def Ej (a b:Int):Bool:=
 match a,b with
 | .ofNat x, .ofNat y=>Nat.blt x y
 | .ofNat _, .negSucc _=>false
 | .negSucc _, .ofNat _=>true
 | .negSucc x, .negSucc y=>Nat.blt y x
theorem BY (a b:Int):Ej a b=decide (a < b):=by
 cases a with
 |ofNat x=>
  cases b with
  |ofNat y=>simp only[Ej,DE];exact decide_eq_decide.2 (by simp only[Int.ofNat_eq_natCast];omega)
  |negSucc y=>simp only[Ej];exact(decide_eq_false (by simp only[Int.ofNat_eq_natCast];omega)).symm
 |negSucc x=>
  cases b with
  |ofNat y=>simp only[Ej];exact(decide_eq_true (by simp only[Int.ofNat_eq_natCast];omega)).symm
  |negSucc y=>simp only[Ej,DE];exact decide_eq_decide.2 (by omega)
def OW (a b:Int):Bool:=
 match a,b with
 | .ofNat x, .ofNat y=>Nat.beq x y
 | .negSucc x, .negSucc y=>Nat.beq x y
 |_,_=>false
theorem Hg (a b:Int):OW a b=(a==b):=by
 rw[Bool.eq_iff_iff,beq_iff_eq]
 cases a<;>cases b<;>simp[OW]
 omega
def BZ:IntKind→Nat
 | .i8=>0| .i16=>1| .i32=>2| .i64=>3| .u8=>4| .u16=>5| .u32=>6| .u64=>7
theorem Dc {k k':IntKind} (h:Nat.beq (BZ k) (BZ k')=true):k=k':=by
 cases k<;>cases k'<;>first|rfl|simp[BZ]at h
def NP (n:Nat):Int:= .ofNat (2 ^ n)
theorem IP (n:Nat):NP n=(2:Int) ^ n:=by simp[NP]
def NC (a:Int) (n:Nat):Int:=
 match a with
 | .ofNat m=> .ofNat (m / 2 ^ n)
 |a=>a.fdiv (2 ^ n)
theorem IC (a:Int) (n:Nat):NC a n=a.fdiv (2 ^ n):=by
 cases a with
 |ofNat m=>
  simp only[NC]
  rw[Int.fdiv_eq_ediv_of_nonneg _ (by exact_mod_cast Nat.zero_le _)]
  simp
 |negSucc m=>rfl
def orI (k:IntKind) (a b:Int):Int:=
 match a,b with
 | .ofNat x, .ofNat y=>gi (Nat.blt x (2 ^ k.bits)&&Nat.blt y (2 ^ k.bits)) (mP k (.ofNat (x|||y))) (k.wrap (BitVec.ofInt k.bits (.ofNat x)|||BitVec.ofInt k.bits (.ofNat y)).toNat)
 |a,b=>k.wrap (BitVec.ofInt k.bits a|||BitVec.ofInt k.bits b).toNat
theorem jT {w x:Nat} (h:x < 2 ^ w):(BitVec.ofInt w (Int.ofNat x)).toNat=x:=by
 rw[BitVec.toNat_ofInt]
 show((x:Int) % ((2 ^ w:Nat):Int)).toNat=x
 rw[←Int.natCast_emod,Int.toNat_natCast,Nat.mod_eq_of_lt h]
theorem NW (k:IntKind) (a b:Int):orI k a b=k.wrap (BitVec.ofInt k.bits a|||BitVec.ofInt k.bits b).toNat:=by
 cases a<;>cases b<;>simp only[orI]
 rename_i x y
 cases h:(Nat.blt x (2 ^ k.bits)&&Nat.blt y (2 ^ k.bits))with
 |false=>rfl
 |true=>
  simp only[Bool.and_eq_true,Nat.blt,Nat.ble_eq]at h
  simp only[gi,mO,BitVec.toNat_or]
  rw[jT (by omega),jT (by omega)]
  rfl
def PI (k:IntKind) (a b:Int):Int:=
 match a,b with
 | .ofNat x, .ofNat y=>gi (Nat.blt x (2 ^ k.bits)&&Nat.blt y (2 ^ k.bits)) (mP k (.ofNat (x&&& y))) (k.wrap (BitVec.ofInt k.bits (.ofNat x)&&& BitVec.ofInt k.bits (.ofNat y)).toNat)
 |a,b=>k.wrap (BitVec.ofInt k.bits a&&& BitVec.ofInt k.bits b).toNat
theorem JD (k:IntKind) (a b:Int):PI k a b=k.wrap (BitVec.ofInt k.bits a&&& BitVec.ofInt k.bits b).toNat:=by
 cases a<;>cases b<;>simp only[PI]
 rename_i x y
 cases h:(Nat.blt x (2 ^ k.bits)&&Nat.blt y (2 ^ k.bits))with
 |false=>rfl
 |true=>
  simp only[Bool.and_eq_true,Nat.blt,Nat.ble_eq]at h
  simp only[gi,mO,BitVec.toNat_and]
  rw[jT (by omega),jT (by omega)]
  rfl
end Go.aU
end
section
namespace Go.aU
open Go
def yE {α:Type} (bad:α) (g:dP→V):List (Nat×dP)→(List (Nat×W)→α)→α
 | [],k=>k []
 |(i,x)::r,k=>match g x with
  | .w u=>yE bad g r fun l=>k ((i,u)::l)
  |_=>bad
theorem xj {tm:TS}: ∀ {ps:List (Nat×dP)} {k:List (Nat×W)→Bool},yE false (fun x=>x.get tm) ps k=true→ ∃l,qF tm ps=some l∧k l=true
 | [],k,h=>⟨[],rfl,h⟩
 |(i,x)::r,k,h=>by
  simp only[yE]at h
  split at h
  · rename_i u hu
    obtain⟨l,h1,h2⟩:=xj h
    exact⟨_,by simp only[qF,hu,h1],h2⟩
  · simp at h
def Dq {α:Type} (bad:α) (g:dP→V):List C→List (Nat×Nat×dP)→(List C→α)→α
 |cells,[],k=>k cells
 |cells,(off,size,x)::rest,k=>
  match g x with
  | .w u=>gi (Nat.beq (cellsOf u).length size&&Nat.ble (off+size) cells.length) (gu (aZ cells off (cellsOf u)) fun cs=>Dq bad g cs rest k) bad
  |_=>bad
theorem AU {tm:TS}: ∀ {ps:List (Nat×Nat×dP)} {cells:List C} {k:List C→Bool},Dq false (fun x=>x.get tm) cells ps k=true→ ∃l,vp tm cells ps=some l∧k l=true
 | [],cells,k,h=>⟨cells,rfl,h⟩
 |(off,size,x)::r,cells,k,h=>by
  simp only[Dq]at h
  split at h
  · rename_i u hu
    obtain⟨hc,h⟩:=bu h
    rw[cD]at h
    simp only[Bool.and_eq_true,Nat.beq_eq,Nat.ble_eq]at hc
    obtain⟨l,h1,h2⟩:=AU h
    exact⟨l,by simp only[vp,hu,if_pos hc,h1],h2⟩
  · simp at h
def DB {α:Type} (bad:α) (g:dP→V):List dP→(List (Nat×Nat×Nat×Nat)→α)→α
 | [],k=>k []
 |x::r,k=>match g x with
  | .w (.one (.ptr id sz i j))=>DB bad g r fun l=>k ((id,sz,i,j)::l)
  |_=>bad
theorem Bf {tm:TS}: ∀ {ps:List dP} {k:List (Nat×Nat×Nat×Nat)→Bool},DB false (fun x=>x.get tm) ps k=true→ ∃l,xM tm ps=some l∧k l=true
 | [],k,h=>⟨[],rfl,h⟩
 |x::r,k,h=>by
  simp only[DB]at h
  split at h
  · rename_i id sz i j hu
    obtain⟨l,h1,h2⟩:=Bf h
    exact⟨_,by simp only[xM,hu,h1],h2⟩
  · simp at h
def Nl {α:Type} (bad:α) (g:dP→V):List dP→(List W→α)→α
 | [],k=>k []
 |x::r,k=>match g x with
  | .w u=>Nl bad g r fun l=>k (u::l)
  |_=>bad
theorem tJ {tm:TS}: ∀ {ps:List dP} {k:List W→Bool},Nl false (fun x=>x.get tm) ps k=true→ ∃l,CO tm ps=some l∧k l=true
 | [],k,h=>⟨[],rfl,h⟩
 |x::r,k,h=>by
  simp only[Nl]at h
  split at h
  · rename_i u hu
    obtain⟨l,h1,h2⟩:=tJ h
    exact⟨_,by simp only[CO,hu,h1],h2⟩
  · simp at h
def Ai {α:Type} (bad:α) (n:Option Nat) (cs:List C) (j:Nat) (K:V→α):α:=
 match n with
 |some n=>gi (Nat.ble (j+n) cs.length) (gu ((cs.drop j).take n) fun l=>K (.w (.agg l))) bad
 |none=>match nth cs j with
  |some c=>wF c fun c=>K (.w (.one c))
  |none=>bad
theorem pA {n:Option Nat} {cs:List C} {j:Nat} {K:V→Bool} (h:Ai false n cs j K=true):rL n cs j fun v=>K v=true:=by
 unfold Ai at h
 unfold rL
 split at h
 · obtain⟨hc,h⟩:=bu h
   simp only[Nat.ble_eq]at hc
   simp only[if_pos hc,cD]at h⊢
   exact h
 · split at h
   · rename_i c hc
     rw[lA]at hc
     simp only[hc,jY]at h⊢
     exact h
   · simp at h
def zp {α:Type} (bad:α) (hp:HS) (c:C) (k:List C→Nat→α):α:=
 match c with
 | .ptr id sz i j=>match find hp id with
   |some (.row sz' xs)=>match nth xs i with
    |some e=>gi (Nat.beq sz' sz) (k e j) bad
    |none=>bad
   |_=>bad
 | .rH e j=>k (e.map .t) j
 |_=>bad
theorem xL {hp:HS} {c:C} {k:List C→Nat→Bool} (h:zp false hp c k=true): ∃cs j,deref hp c=some (cs,j)∧k cs j=true:=by
 unfold zp at h
 split at h
 · split at h
   · rename_i hf
     split at h
     · rename_i e he
       obtain⟨hc,h⟩:=bu h
       rw[lA]at he
       simp only[Nat.beq_eq]at hc
       exact⟨_,_,by simp[deref,hf,hc,he],h⟩
     · simp at h
   · simp at h
 · exact⟨_,_,rfl,h⟩
 · simp at h
def Si {α:Type} (bad:α) (c:C) (k:Nat→α):α:=
 match c.uG with
 |some n=>nq n k
 |none=>bad
def PC {α:Type} (bad:α) (op:BinOp) (k:IntKind) (a b:Int) (K:V→α):α:=
 match op with
 | .add=>EM (mP k (a+b)) fun n=>K (iV k n)
 | .sub=>EM (mP k (a - b)) fun n=>K (iV k n)
 | .mul=>EM (mP k (a * b)) fun n=>K (iV k n)
 | .eql=>EN (OW a b) fun c=>K (bV c)
 | .neq=>EN (!(OW a b)) fun c=>K (bV c)
 | .lss=>EN (Ej a b) fun c=>K (bV c)
 | .leq=>EN (!(Ej b a)) fun c=>K (bV c)
 | .gtr=>EN (Ej b a) fun c=>K (bV c)
 | .geq=>EN (!(Ej a b)) fun c=>K (bV c)
 | .quo=>gi (!(OW b 0)) (EM (mP k (a.tdiv b)) fun n=>K (iV k n)) bad
 | .rem=>gi (!(OW b 0)) (EM (a.tmod b) fun n=>K (iV k n)) bad
 | .shl=>gi (!(Ej b 0)) (EM (mP k (a * NP (min b.toNat k.bits))) fun n=>K (iV k n)) bad
 | .shr=>gi (!(Ej b 0)) (EM (NC a (min b.toNat k.bits)) fun n=>K (iV k n)) bad
 | .and=>EM (PI k a b) fun n=>K (iV k n)
 | .or=>EM (orI k a b) fun n=>K (iV k n)
 |_=>bad
def ER {α:Type} (bad:α) (r:Ro) (g:dP→V) (hp:HS) (nid:Nat) (K:V→HS→α):α:=
 match r with
 | .kF x=>rX (g x) fun v=>K v hp
 | .pick c x y=>match(g c).gp with
   |some b=>gi b (rX (g x) fun v=>K v hp) (rX (g y) fun v=>K v hp)
   |none=>bad
 | .alloc z=>K (.w (.one (.ptr nid z.length 0 0))) ((nid, .row z.length [z])::hp)
 | .box x=>match g x with
   | .w u=>gu (cellsOf u) fun cs=>K (.w (.one (.ptr nid cs.length 0 0))) ((nid, .row cs.length [cs])::hp)
   |_=>bad
 | .build z ps=>Dq bad g z ps fun cs=>K (.w (.agg cs)) hp
 | .bc z len ps=>yE bad g ps fun l=>match oa z.length (List.replicate len z) l with
    |some xs=>gu xs fun xs=>K (.w (.one (.own nid z.length 0 len))) ((nid, .row z.length xs)::hp)
    |none=>bad
 | .load n x=>match g x with
   | .w (.one c)=>zp bad hp c fun cs j=>Ai bad n cs j fun v=>K v hp
   |_=>bad
 | .store n x y=>match g x,g y with
   | .w (.one (.ptr id sz i j)), .w u=>match find hp id with
     |some (.row sz' xs)=>match nth xs i with
      |some el=>gi (Nat.beq sz' sz&&Nat.beq (cellsOf u).length n&&Nat.ble (j+n) el.length)
        (gu (aZ el j (cellsOf u)) fun BE=>gu (xs.set i BE) fun xs'=>gu (jM hp id (.row sz xs')) fun h=>K .undef h) bad
      |none=>bad
     |_=>bad
   |_,_=>bad
 | .xJ off x=>match g x with
   | .w (.one (.ptr id sz i j))=>nq (j+off) fun q=>K (.w (.one (.ptr id sz i q))) hp
   | .w (.one (.rH e j))=>nq (j+off) fun q=>K (.w (.one (.rH e q))) hp
   |_=>bad
 | .field off n x=>match g x with
   | .w (.agg cs)=>Ai bad n cs off fun v=>K v hp
   |_=>bad
 | .fJ size x i=>match g x,(g i).fu with
   | .w (.one (.own id sz i0 len)),some (_, .ofNat n)=>gi (Nat.beq sz size&&Nat.blt n len) (nq (i0+n) fun q=>K (.w (.one (.ptr id sz q 0))) hp) bad
   | .w (.one (.t (.aA sz xs))),some (_, .ofNat n)=>match nth xs n with
     |some e=>gi (Nat.beq sz size) (K (.w (.one (.rH e 0))) hp) bad
     |none=>bad
   |_,_=>bad
 | .uL len size x i=>match g x,(g i).fu with
   | .w (.one c),some (_, .ofNat n)=>match c.shift (n * size)with
     |some d=>gi (Nat.blt n len) (K (.w (.one d)) hp) bad
     |none=>bad
   |_,_=>bad
 | .slice size x lo hi=>match g x with
   | .w (.one c)=>match c.uG,c.Nu with
     |some len,some sz=>match fC (lo.map g) 0,fC (hi.map g) len with
       |some l,some h=>gi (Nat.beq sz size&&Nat.ble l h&&Nat.ble h len) (match zq c l h with
        |some d=>wF d fun d=>K (.w (.one d)) hp
        |none=>bad) bad
       |_,_=>bad
     |_,_=>bad
   |_=>bad
 | .make z bytes l c=>match(g l).fu,(g c).fu with
   |some (_, .ofNat l),some (_, .ofNat c)=>gi (Nat.ble l c&&Nat.ble c 4611686018427387904&&Nat.ble (c * bytes) 281474976710656)
     (gu (List.replicate l z) fun xs=>K (.w (.one (.own nid z.length 0 l))) ((nid, .row z.length xs)::hp)) bad
   |_,_=>bad
 | .extract x k=>match g x with
   | .ep ws=>match nth ws k with
     |some u=>rX (.w u) fun v=>K v hp
     |none=>bad
   |_=>bad
 | .jB f da=>DB bad g da fun l=>K (.w (.one (.jB f l))) hp
 | .len x=>match g x with
   | .w (.one c)=>Si bad c fun n=>K (iV .i64 (.ofNat n)) hp
   |_=>bad
 | .append size bytes s x=>match g s,g x with
   | .w (.one s), .w (.one x)=>match zj hp x with
     |some (_,[])=>match s.uG with
      |some _=>wF s fun s=>K (.w (.one s)) hp
      |none=>bad
     |some (sz,y::ys)=>match s with
      | .own id sz' 0 len=>match find hp id with
        |some (.row dj xs)=>
         gi (Nat.beq sz size&&Nat.beq sz' size&&Nat.beq dj size&&Nat.beq len xs.length&&Nat.ble ((len+(ys.length+1)) * bytes) aX&&Nat.ble (len+(ys.length+1)) maxLen)
          (gu (del hp id) fun hp=>gu (xs++y::ys) fun zs=>nq (len+(ys.length+1)) fun q=>K (.w (.one (.own nid size 0 q))) ((nid, .row size zs)::hp)) bad
        |_=>bad
      | .t (.val (.slice none 0 0))=>gi (Nat.beq sz size&&Nat.ble ((ys.length+1) * bytes) aX&&Nat.ble (ys.length+1) maxLen)
         (gu (y::ys) fun zs=>nq (ys.length+1) fun q=>K (.w (.one (.own nid size 0 q))) ((nid, .row size zs)::hp)) bad
      |_=>bad
     |none=>bad
   |_,_=>bad
 | .bin op x y=>match g x,g y with
   | .w (.one (.t (.val (.int k a)))), .w (.one (.t (.val (.int k' b))))=>gi (Nat.beq (BZ k) (BZ k')) (PC bad op k a b fun v=>K v hp) bad
   | .w (.one (.t (.val (.string a)))), .w (.one (.t (.val (.string b))))=>match op with
     | .add=>gi (Nat.ble (a.data.toList.length+b.data.toList.length) 9223372036854775807) (gu (a.data.toList++b.data.toList) fun l=>K (.w (.one (.t (.val (.string ⟨⟨l⟩⟩))))) hp) bad
     | .eql=>EN (a.data.toList==b.data.toList) fun c=>K (bV c) hp
     | .neq=>EN (!(a.data.toList==b.data.toList)) fun c=>K (bV c) hp
     |_=>bad
   |_,_=>bad
 | .oT op x y=>match(g x).gp,(g y).gp with
   |some a,some b=>match op with
    | .eql=>EN (a==b) fun c=>K (bV c) hp
    | .neq=>EN (!(a==b)) fun c=>K (bV c) hp
    |_=>bad
   |_,_=>bad
 | .A3 neg ks x y=>match g x,g y with
   | .w (.agg cs), .w (.agg ds)=>match pS ks cs ds with
     |some b=>EN b fun b=>match neg with
      |true=>K (bV (!b)) hp
      |false=>K (bV b) hp
     |none=>bad
   |_,_=>bad
 | .mu x y=>match(g x).fu,(g y).fu with
   |some (k,a),some (_,b)=>K (iV k (gi (Ej b a) b a)) hp
   |_,_=>bad
 | .nA x y=>match(g x).fu,(g y).fu with
   |some (k,a),some (_,b)=>K (iV k (gi (Ej a b) b a)) hp
   |_,_=>bad
 | .nC x=>match g x with
   | .w (.one (.t (.val (.string s))))=>nq s.data.toList.length fun n=>K (iV .i64 (.ofNat n)) hp
   |_=>bad
 | .qy x i=>match g x,(g i).fu with
   | .w (.one (.t (.val (.string s)))),some (_, .ofNat n)=>match nth s.data.toList n with
     |some b=>nq b.toNat fun q=>K (iV .u8 (.ofNat q)) hp
     |none=>bad
   |_,_=>bad
 | .not x=>match(g x).gp with
   |some b=>EN (!b) fun c=>K (bV c) hp
   |none=>bad
 | .neg x=>match(g x).fu with
   |some (k,n)=>EM (mP k (0 - n)) fun n=>K (iV k n) hp
   |none=>bad
 | .conv k x=>match(g x).fu with
   |some (_,n)=>EM (mP k n) fun n=>K (iV k n) hp
   |none=>bad
 |_=>bad
set_option maxHeartbeats 1000000
theorem JC {op:BinOp} {x y:dP} {k:IntKind} {a b:Int} {tm:TS} {hp:HS} {nid:Nat} {K:V→HS→Bool} (hx:x.get tm=iV k a) (hy:y.get tm=iV k b)
 (h:PC false op k a b (fun v=>K v hp)=true):XR (.bin op x y) tm hp nid fun v aH=>K v aH=true:=by
 simp only[XR,hx,hy,if_true]
 cases op<;>simp only[PC,Cf,oR,mO,Hg,BY,IP,IC,JD,NW]at h
 case add=>exact h
 case sub=>exact h
 case mul=>exact h
 case eql=>exact h
 case neq=>exact h
 case lss=>exact h
 case leq=>
  have e:(!decide (b < a))=decide (a≤b):=by rw[Bool.eq_iff_iff];simp
  rw[e]at h
  exact h
 case gtr=>exact h
 case geq=>
  have e:(!decide (a < b))=decide (a≥b):=by rw[Bool.eq_iff_iff];simp
  rw[e]at h
  exact h
 case quo=>
  obtain⟨h1,h2⟩:=bu h
  exact⟨by simpa using h1,h2⟩
 case rem=>
  obtain⟨h1,h2⟩:=bu h
  exact⟨by simpa using h1,h2⟩
 case shl=>
  obtain⟨h1,h2⟩:=bu h
  exact⟨by simpa using h1,h2⟩
 case shr=>
  obtain⟨h1,h2⟩:=bu h
  exact⟨by simpa using h1,h2⟩
 case and=>exact h
 case or=>exact h
 all_goals simp at h
theorem PD (s:ByteArray) (n:Nat):s.data.toList[n]? =s[n]? :=by
 by_cases h:n < s.size
 · have h2:n < s.data.size:=h
   rw[getElem?_pos s n h]
   simp only[Array.getElem?_toList]
   rw[getElem?_pos s.data n h2]
   rfl
 · have h2:¬n < s.data.size:=h
   rw[getElem?_neg s n h]
   simp only[Array.getElem?_toList]
   rw[getElem?_neg s.data n h2]
theorem agX {r:Ro} {tm:TS} {hp:HS} {nid:Nat} {K:V→HS→Bool} (h:ER false r (fun x=>x.get tm) hp nid K=true):XR r tm hp nid fun v aH=>K v aH=true:=by
 cases r with
 |kF x=>simpa only[ER,XR,dO]using h
 |pick c x y=>
  simp only[ER,XR,dO]at h⊢
  split at h
  · rename_i b hb
    simp only[hb]
    cases b
    · exact h
    · exact h
  · simp at h
 |alloc z=>exact h
 |box x=>
  simp only[ER,XR,cD]at h⊢
  split at h
  · rename_i u hu;simp only[hu];exact h
  · simp at h
 |build z ps=>
  simp only[ER,XR,cD]at h⊢
  obtain⟨l,h1,h2⟩:=AU h
  simp only[h1]
  exact h2
 |bc z len ps=>
  simp only[ER,XR,cD]at h⊢
  obtain⟨l,h1,h2⟩:=xj h
  simp only[h1]
  split at h2
  · rename_i xs hxs;simp only[hxs];exact h2
  · simp at h2
 |load n x=>
  simp only[ER,XR]at h⊢
  split at h
  · rename_i c hc
    simp only[hc]
    obtain⟨cs,j,h1,h2⟩:=xL h
    cases c with
    |ptr id sz i j'=>
     simp only[deref]at h1
     split at h1
     · rename_i sz' xs hf
       simp only[hf]
       split at h1
       · rename_i hs
         rw[if_pos hs]
         simp only[Option.map_eq_some_iff,Prod.mk.injEq]at h1
         obtain⟨e,he,rfl,rfl⟩:=h1
         simp only[sJ,he]
         exact pA h2
       · simp at h1
     · simp at h1
    |_=>simp only[h1];exact pA h2
  · simp at h
 |store n x y=>
  simp only[ER,XR,cD]at h⊢
  split at h
  · rename_i id sz i j u hx hy
    simp only[hx,hy]
    split at h
    · rename_i sz' xs hf
      simp only[hf]
      split at h
      · rename_i el hel
        rw[lA]at hel
        simp only[sJ,hel]
        obtain⟨hc,h⟩:=bu h
        simp only[Bool.and_eq_true,Nat.beq_eq,Nat.ble_eq]at hc
        rw[if_pos ⟨hc.1.1,hc.1.2,hc.2⟩]
        exact h
      · simp at h
    · simp at h
  · simp at h
 |xJ off x=>
  simp only[ER,XR,dB]at h⊢
  split at h
  · rename_i hx;simp only[hx];exact h
  · rename_i hx;simp only[hx];exact h
  · simp at h
 |field off n x=>
  simp only[ER,XR]at h⊢
  split at h
  · rename_i hx;simp only[hx];exact pA h
  · simp at h
 |fJ size x i=>
  simp only[ER,XR,dB]at h⊢
  split at h
  · rename_i id sz i0 len q n hx hi
    simp only[hx,hi]
    obtain⟨hc,h⟩:=bu h
    simp only[Bool.and_eq_true,Nat.beq_eq,Nat.blt,Nat.ble_eq]at hc
    rw[if_pos hc.1]
    refine⟨⟨Int.natCast_nonneg n,?_⟩,h⟩
    show(n:Int) < (len:Int)
    omega
  · rename_i sz xs q n hx hi
    simp only[hx,hi]
    split at h
    · rename_i e he
      rw[lA]at he
      obtain⟨hc,h⟩:=bu h
      simp only[Nat.beq_eq]at hc
      rw[if_pos hc]
      exact⟨Int.natCast_nonneg n,e,he,h⟩
    · simp at h
  · simp at h
 |uL len size x i=>
  simp only[ER,XR]at h⊢
  split at h
  · rename_i c q n hx hi
    simp only[hx,hi]
    split at h
    · rename_i d hd
      obtain⟨hc,h⟩:=bu h
      have e:(Int.ofNat n).toNat=n:=rfl
      simp only[e,hd]
      simp only[Nat.blt,Nat.ble_eq]at hc
      refine⟨⟨Int.natCast_nonneg n,?_⟩,h⟩
      show(n:Int) < (len:Int)
      omega
    · simp at h
  · simp at h
 |slice size x lo hi=>
  simp only[ER,XR,jY]at h⊢
  split at h
  · rename_i c hc
    simp only[hc]
    split at h
    · rename_i len sz hl hs
      simp only[hl,hs]
      split at h
      · rename_i l hh h1 h2
        obtain⟨hc,h⟩:=bu h
        simp only[Bool.and_eq_true,Nat.beq_eq,Nat.ble_eq]at hc
        rw[if_pos hc.1.1]
        refine DD h1 (DD h2 ⟨⟨hc.1.2,hc.2⟩,?_⟩)
        split at h
        · rename_i d hd;simp only[vF,hd];exact h
        · simp at h
      · simp at h
    · simp at h
  · simp at h
 |make z bytes l c=>
  simp only[ER,XR,cD]at h⊢
  split at h
  · rename_i q l' q' c' hl hc
    simp only[hl,hc]
    obtain⟨hh,h⟩:=bu h
    obtain⟨aoX,hh3⟩:=Bool.and_eq_true _ _▸hh
    obtain⟨Oy,SY⟩:=Bool.and_eq_true _ _▸aoX
    have g1:=Nat.le_of_ble_eq_true Oy
    have g2:=Nat.le_of_ble_eq_true SY
    have g3:=Nat.le_of_ble_eq_true hh3
    refine⟨⟨Int.natCast_nonneg l',Int.ofNat_le.2 g1,?_,?_⟩,h⟩
    · show(c':Int)≤_
      omega
    · show(c':Int) * (bytes:Int)≤_
      rw[←Int.natCast_mul]
      generalize c' * bytes=q at g3
      omega
  · simp at h
 |extract x k=>
  simp only[ER,XR,dO]at h⊢
  split at h
  · rename_i ws hx
    simp only[hx]
    split at h
    · rename_i u hu
      rw[lA]at hu
      simp only[hu]
      exact h
    · simp at h
  · simp at h
 |jB f da=>
  simp only[ER,XR]at h⊢
  obtain⟨l,h1,h2⟩:=Bf h
  simp only[h1]
  exact h2
 |len x=>
  simp only[ER,XR,Si,dB]at h⊢
  split at h
  · rename_i c hc
    simp only[hc]
    split at h
    · rename_i n hn;simp only[hn];exact h
    · simp at h
  · simp at h
 |append size bytes s x=>
  simp only[ER,XR,cD,dB,jY]at h⊢
  split at h
  · rename_i s' x' hs hx
    simp only[hs,hx]
    split at h
    · rename_i sz he
      simp only[he]
      split at h
      · rename_i ln hln;simp only[hln];exact h
      · simp at h
    · rename_i sz y ys he
      simp only[he]
      split at h
      · rename_i id sz' len
        split at h
        · rename_i dj xs hf
          simp only[hf]
          obtain⟨hc,h⟩:=bu h
          simp only[Bool.and_eq_true,Nat.beq_eq,Nat.ble_eq]at hc
          obtain⟨⟨⟨⟨⟨h1,h2⟩,h3⟩,h4⟩,h5⟩,h6⟩:=hc
          subst h4
          rw[if_pos ⟨h1,h2,h3⟩]
          exact⟨⟨rfl,h5,h6⟩,h⟩
        · simp at h
      · obtain⟨hc,h⟩:=bu h
        simp only[Bool.and_eq_true,Nat.beq_eq,Nat.ble_eq]at hc
        obtain⟨⟨h1,h2⟩,h3⟩:=hc
        rw[if_pos h1]
        exact⟨⟨h2,h3⟩,h⟩
      · simp at h
    · simp at h
  · simp at h
 |bin op x y=>
  simp only[ER]at h
  split at h
  · rename_i k a k' b hx hy
    obtain⟨hc,h'⟩:=bu h
    have:=Dc hc
    subst this
    exact JC hx hy h'
  · rename_i a b hx hy
    simp only[XR,hx,hy]
    split at h
    · obtain⟨h1,h2⟩:=bu h
      rw[cD]at h2
      have e:(⟨⟨a.data.toList++b.data.toList⟩⟩:ByteArray)=a++b:=by
       apply ByteArray.ext
       rw[ByteArray.data_append]
       apply Array.ext'
       simp
      rw[e]at h2
      exact⟨by have h3:=Nat.le_of_ble_eq_true h1;rw[Array.length_toList,Array.length_toList]at h3;exact h3,h2⟩
    · simpa only[oR,ByteArray.toList_eq]using h
    · simpa only[oR,ByteArray.toList_eq]using h
    · simp at h
  · simp at h
 |Hs x=>simp[ER]at h
 |A3 neg ks x y=>
  simp only[ER,XR]at h⊢
  split at h
  · rename_i cs ds hx hy
    simp only[hx,hy]
    split at h
    · rename_i b hb
      simp only[hb]
      rw[oR]at h
      cases neg<;>exact h
    · simp at h
  · simp at h
 |oT op x y=>
  simp only[ER,XR]at h⊢
  split at h
  · rename_i a b hx hy
    simp only[hx,hy]
    split at h
    · simpa only[oR]using h
    · simpa only[oR]using h
    · simp at h
  · simp at h
 |mu x y=>
  simp only[ER,XR,BY]at h⊢
  split at h
  · rename_i k a k' b hx hy
    simp only[hx,hy]
    have e:gi (decide (b < a)) b a=if b < a then b else a:=by by_cases hb:b < a<;>simp[gi,hb]
    rw[e]at h
    exact h
  · simp at h
 |nA x y=>
  simp only[ER,XR,BY]at h⊢
  split at h
  · rename_i k a k' b hx hy
    simp only[hx,hy]
    have e:gi (decide (a < b)) b a=if b > a then b else a:=by by_cases hb:a < b<;>simp[gi,hb]
    rw[e]at h
    exact h
  · simp at h
 |nC x=>
  simp only[ER,XR,dB]at h⊢
  split at h
  · rename_i s hx;simp only[hx];exact h
  · simp at h
 |qy x i=>
  simp only[ER,XR,dB]at h⊢
  split at h
  · rename_i s q n hx hi
    simp only[hx,hi]
    split at h
    · rename_i b hb
      rw[lA]at hb
      refine⟨Int.natCast_nonneg n,b,?_,h⟩
      have e:(Int.ofNat n).toNat=n:=rfl
      rw[e, ←PD]
      exact hb
    · simp at h
  · simp at h
 |not x=>
  simp only[ER,XR,oR]at h⊢
  split at h
  · rename_i b hb;simp only[hb];exact h
  · simp at h
 |neg x=>
  simp only[ER,XR,Cf,mO]at h⊢
  split at h
  · rename_i k n hx;simp only[hx];exact h
  · simp at h
 |conv k x=>
  simp only[ER,XR,Cf,mO]at h⊢
  split at h
  · rename_i q n hx;simp only[hx];exact h
  · simp at h
 |call f xs=>simp[ER]at h
 |fg x xs=>simp[ER]at h
 |raw op ty=>simp[ER]at h
end Go.aU
end
section
namespace Go.aU
open Go
variable {P:Program} {M A:Nat→Prop} {ρ:Env} {F:Nat→Prop} {st:St} {a:Act} {w:World}
abbrev bare (op:Op) (ty:TypeId):Oper:=⟨none,op,ty, "", #[],none⟩
theorem sj (ev:Operand→Value) (o:Oper):execOp ev (bare o.op o.type)=execOp ev o:=by cases o;rfl
theorem wK (get:Operand→V) (o:Oper):bi P get (bare o.op o.type)=bi P get o:=by cases o;rfl
theorem sk (get:Operand→V) (hp:HS) (nid:Nat) (o:Oper):aj P get hp nid (bare o.op o.type)=aj P get hp nid o:=by cases o;rfl
theorem yn {w:World} {b:Nat} {en en':Array MapEntry} {c c':Nat} (hb:w.heap[b]? =some (.map en c)) (k:Nat):({w with heap:=w.heap.setIfInBounds b (.map en' c')}:World).shape? k=w.shape? k:=by
 simp only[World.shape?]
 by_cases hk:b=k
 · subst hk
   have hlt:b < w.heap.size:=by
    rcases Nat.lt_or_ge b w.heap.size with h|h
    · exact h
    · simp[Array.getElem?_eq_none h]at hb
   have e:(w.heap.setIfInBounds b (.map en' c'))[b]? =some (.map en' c'):=by simp[hlt]
   rw[e,hb]
 · rw[Array.getElem?_setIfInBounds_ne hk]
theorem Rel.tX (h:Rel M A ρ F st a w) {id clock clock':Nat} {es es':List (Value×C×Nat)} {b:Nat} {en en':Array MapEntry}
 (hf:find st.heap id=some (.mp es clock)) (hρ:ρ id=some (.fN b)) (hb:w.heap[b]? =some (.map en clock)) (hs:en'.size=es'.length)
 (hc: ∀ (i:Nat) (k:Value) (c:C) (n:Nat),es'[i]? =some (k,c,n)→ ∃e,en'[i]? =some e∧e.key=k∧e.born=n∧RC w A ρ c e.val∧xV c e.val):
 Rel M A ρ F {st with heap:=jM st.heap id (.mp es' clock')} a {w with heap:=w.heap.setIfInBounds b (.map en' clock')}∧df M w {w with heap:=w.heap.setIfInBounds b (.map en' clock')}:=by
 obtain⟨hlt,hM,hA⟩:=(h.heap id _ hf).lt hρ
 have Oo: ∀k,k≠b→(w.heap.setIfInBounds b (.map en' clock'))[k]? =w.heap[k]? :=fun k hk=>Array.getElem?_setIfInBounds_ne (fun e=>hk e.symm)
 have hk:dY A A w {w with heap:=w.heap.setIfInBounds b (.map en' clock')}:=⟨by simp,fun k _ hn=>⟨Oo k (fun e=>hn (e▸hA)),hn⟩⟩
 have hsh: ∀k,k < w.heap.size→({w with heap:=w.heap.setIfInBounds b (.map en' clock')}:World).shape? k=w.shape? k:=fun k _=>yn hb k
 have dJ:df M w {w with heap:=w.heap.setIfInBounds b (.map en' clock')}:=⟨rfl,rfl,rfl,by simp,fun k _ ho=>Oo k (fun e=>ho (e▸hM)),hsh⟩
 refine⟨⟨h.size,h.defers,fun t v hv=>(h.tmps t v hv).keeps hk hsh (cW.refl _),?_,?_,h.fresh,?_,?_,h.dW.ET dJ (fun _ _ h=>h)⟩,dJ⟩
 · intro k blk AI
   simp only[bU]at AI
   split at AI
   · rename_i ek
     subst ek
     simp only[hf,Option.map_some,Option.some.injEq]at AI
     subst AI
     refine⟨b,en',hρ,hM,hA,by simp[hlt],hs,fun i k c n hi=>?_⟩
     obtain⟨e,h1,h2,h3,h4,h5⟩:=hc i k c n hi
     exact⟨e,h1,h2,h3,h4.keeps hk hsh (cW.refl _),h5⟩
   · rename_i ek
     refine(h.heap k blk AI).keeps hk hsh (cW.refl _) (fun _ h=>h) (fun b' hb'=>Oo b' (fun e=>ek ?_))
     subst e
     exact h.inj k id blk _ b' AI hf hb' hρ
 · intro k k' blk fz b' h1 h2 r1 r2
   have g: ∀q bl,find (jM st.heap id (.mp es' clock')) q=some bl→ ∃zO,find st.heap q=some zO:=by
    intro q bl hq
    simp only[bU]at hq
    split at hq
    · rename_i e;subst e;exact⟨_,hf⟩
    · exact⟨_,hq⟩
   obtain⟨bl1,g1⟩:=g k blk h1
   obtain⟨QK,g2⟩:=g k' fz h2
   exact h.inj k k' bl1 QK b' g1 g2 r1 r2
 · intro q hq;simpa using h.bound q hq
 · intro q hq;exact h.may q (by simpa using hq)
theorem Rel.F3 (h:Rel M A ρ F st a w) {nid:Nat} (hn:F nid):
 Rel M (fun b=>A b∨b=w.heap.size) (dg ρ nid (.fN w.heap.size)) (Sub F nid) {st with heap:=(nid, .mp [] 0)::st.heap} a (w.alloc (.map #[] 0))∧cW ρ (dg ρ nid (.fN w.heap.size)):=by
 have hρ:=h.fresh nid hn
 have cI:cW ρ (dg ρ nid (.fN w.heap.size)):=cW.jM hρ
 have hk:=rQ (A:=A) (w:=w) (.map #[] 0)
 have hs:=mz (w:=w) (.map #[] 0)
 have hnew:(w.alloc (.map #[] 0)).heap[w.heap.size]? =some (.map #[] 0):=heap_alloc_new w _
 refine⟨⟨h.size,h.defers,fun t v hv=>(h.tmps t v hv).keeps hk hs cI,?_,?_,?_,?_,?_,h.dW.ET (df.alloc _ _ _) (fun b hb h=>h.elim id (fun e=>by omega))⟩,cI⟩
 · intro id blk hf
   simp only[av]at hf
   split at hf
   · rename_i e'
     subst e'
     simp only[Option.some.injEq]at hf
     subst hf
     exact⟨w.heap.size, #[],by simp[dg],h.may _ (Nat.le_refl _), .inr rfl,hnew,rfl,fun i k c n hi=>by simp at hi⟩
   · have hb:=h.heap id blk hf
     exact hb.keeps hk hs cI (fun b hb=> .inl hb) (fun b BD=>RowKit.Below.heap_alloc w _ b (hb.lt BD).1)
 · intro id id' blk fz b hf me hr dn
   simp only[av]at hf me
   simp only[dg]at hr dn
   by_cases e1:nid=id<;>by_cases e2:nid=id'
   · omega
   · simp only[e2,if_false]at me
     have:¬id'=nid:=fun e=>e2 e.symm
     simp only[this,if_false]at dn
     simp only[e1.symm,if_true,Option.some.injEq,Loc.fN.injEq]at hr
     have:=((h.heap id' fz me).lt dn).1
     omega
   · simp only[e1,if_false]at hf
     have:¬id=nid:=fun e=>e1 e.symm
     simp only[this,if_false]at hr
     simp only[e2.symm,if_true,Option.some.injEq,Loc.fN.injEq]at dn
     have:=((h.heap id blk hf).lt hr).1
     omega
   · simp only[e1,e2,if_false]at hf me
     have n1:¬id=nid:=fun e=>e1 e.symm
     have n2:¬id'=nid:=fun e=>e2 e.symm
     simp only[n1,n2,if_false]at hr dn
     exact h.inj id id' blk fz b hf me hr dn
 · intro id hi
   have:¬id=nid:=fun e=>hi.2 ⟨by omega,by omega⟩
   simp only[dg,this,if_false]
   exact h.fresh id hi.1
 · intro b hb
   simp only[World.alloc,Array.size_push]
   rcases hb with hb|hb
   · have:=h.bound b hb;omega
   · omega
 · intro b hb
   refine h.may b ?_
   simp only[World.alloc,Array.size_push]at hb
   omega
theorem Rel.IU (h:Rel M A ρ F st a w) (o:Obj):Rel M A ρ F st a (w.alloc o)∧df M w (w.alloc o):=by
 have hk:dY A A w (w.alloc o):=⟨by simp,fun b hlt hn=>⟨RowKit.Below.heap_alloc w o b hlt,hn⟩⟩
 have hs:=mz (w:=w) o
 refine⟨⟨h.size,h.defers,fun t v hv=>(h.tmps t v hv).keeps hk hs (cW.refl _),fun id blk hf=>?_,h.inj,h.fresh,fun b hb=>?_,fun b hb=>?_,h.dW.ET (df.alloc _ _ _) (fun _ _ h=>h)⟩,df.alloc M w o⟩
 · have hb:=h.heap id blk hf
   exact hb.keeps hk hs (cW.refl _) (fun _ h=>h) (fun b BD=>RowKit.Below.heap_alloc w _ b (hb.lt BD).1)
 · have:=h.bound b hb
   simp only[World.alloc,Array.size_push];omega
 · simp only[World.alloc,Array.size_push]at hb
   exact h.may b (by omega)
theorem Rel.Rj (h:Rel M A ρ F st a w) {id sz:Nat} {xs:List (List C)} (hf:find st.heap id=some (.row sz xs)) (n:Nat):Rel M A ρ F {st with heap:=jM st.heap id (.row sz (xs.take n))} a w:=by
 refine⟨h.size,h.defers,h.tmps,fun k blk hk=>?_,fun k k' blk fz b h1 h2 r1 r2=>?_,h.fresh,h.bound,h.may,h.dW⟩
 · simp only[bU]at hk
   split at hk
   · rename_i ek
     subst ek
     simp only[hf,Option.map_some,Option.some.injEq]at hk
     subst hk
     obtain⟨h1,h2⟩:=h.heap k _ hf
     refine⟨fun e he=>h1 e (List.mem_of_mem_take he),?_⟩
     rcases h2 with⟨b,c,e,k1,k2,k3,k4,k5,k6⟩|⟨k1,k2⟩
     · refine .inl ⟨b,c,e,k1,k2,k3,k4,?_,fun i el j q hi hj=>?_⟩
       · have:(xs.take n).length * sz≤xs.length * sz:=Nat.mul_le_mul_right _ (by simp;omega)
         omega
       · have hi':xs[i]? =some el:=by
          rw[List.getElem?_take]at hi
          split at hi
          · exact hi
          · simp at hi
         exact k6 i el j q hi' hj
     · exact .inr ⟨k1,by simp[k2]⟩
   · exact h.heap k blk hk
 · have g: ∀q bl,find (jM st.heap id (.row sz (xs.take n))) q=some bl→ ∃zO,find st.heap q=some zO:=by
    intro q bl hq
    simp only[bU]at hq
    split at hq
    · rename_i e;subst e;exact⟨_,hf⟩
    · exact⟨_,hq⟩
   obtain⟨bl1,g1⟩:=g k blk h1
   obtain⟨QK,g2⟩:=g k' fz h2
   exact h.inj k k' bl1 QK b g1 g2 r1 r2
end Go.aU
end
section
namespace Go.aU
open Go
variable {P:Program} {M A:Nat→Prop} {ρ:Env} {F:Nat→Prop} {st:St} {a:Act} {w:World}
def ec:List C→Option (List T)
 | []=>some []
 | .t x::r=>(ec r).map (x:: ·)
 |_::_=>none
def recv (v:V):Option (Bool×List T):=
 match v with
 | .w (.one (.t t))=>some (false,[t])
 | .w (.agg cs)=>(ec cs).map fun ts=>(true,ts)
 |_=>none
def mvC:V→Option C
 | .w (.one c)=>some c
 | .w (.agg cs)=>(ec cs).map .pk
 |_=>none
def EX {α:Type} (P:Program) (bad:α) (op:Op) (ty:TypeId) (g:dP→V) (hp:HS) (ctr:Nat) (K:V→HS→α):α:=
 let other:=match aj P (fun x=>g (dl x)) hp ctr (bare op ty)with
  |some (v,aH)=>rX v fun v=>K v aH
  |none=>match bi P (fun x=>g (dl x)) (bare op ty)with
   |some v=>rX v fun v=>K v hp
   |none=>bad
 match op with
 | .makeMap _ none=>K (.w (.one (.map ctr))) ((ctr, .mp [] 0)::hp)
 | .mapUpdate t m k x=>match g (dl m),(g (dl k)).val?,mvC (g (dl x))with
   | .w (.one (.map id)),some kv,some c=>match P.underlying t,find hp id with
     |some (.map kt _),some (.mp es clock)=>match iI P false kt kv es with
      |some (some i)=>match nth es i with
       |some (old,_,born)=>gi (Instr.sameBits 10000 old kv) (gu (es.set i (kv,c,born)) fun es'=>gu (jM hp id (.mp es' clock)) fun h=>K .undef h) bad
       |none=>bad
      |some none=>gu (es++[(kv,c,clock)]) fun es'=>nq (clock+1) fun q=>gu (jM hp id (.mp es' q)) fun h=>K .undef h
      |none=>bad
     |_,_=>bad
   |_,_,_=>bad
 | .lookup t m k ok=>match g (dl m),(g (dl k)).val? with
   | .w (.one (.map id)),some kv=>match P.underlying t,find hp id with
     |some (.map kt et),some (.mp es _)=>match iI P es.isEmpty kt kv es with
      |some (some i)=>match nth es i with
       |some (_,c,_)=>wF c fun c=>K (match ok with|true=> .ep [cw c,bT true]|false=> .w (cw c)) hp
       |none=>bad
      |some none=>match mj P et with
       |some z=>wF (.t (.val z)) fun c=>K (match ok with|true=> .ep [.one c,bT false]|false=> .w (.one c)) hp
       |none=>bad
      |none=>bad
     |_,_=>bad
   |_,_=>bad
 | .call ⟨.builtin .len,args,ic⟩=>match args.toList,ic.toList with
   | [x],[t]=>match g (dl x)with
     | .w (.one (.map id))=>match P.underlying t,find hp id with
       |some (.map _ _),some (.mp es _)=>nq es.length fun n=>K (iV .i64 (.ofNat n)) hp
       |_,_=>bad
     |_=>other
   |_,_=>other
 | .call ⟨.builtin .delete,args,ic⟩=>match args.toList,ic.toList with
   | [m,k],[t,_]=>match g (dl m),(g (dl k)).val? with
     | .w (.one (.map id)),some kv=>match P.underlying t,find hp id with
       |some (.map kt _),some (.mp es clock)=>match iI P es.isEmpty kt kv es with
        |some (some i)=>gu (es.eraseIdx i) fun es'=>gu (jM hp id (.mp es' clock)) fun h=>K (.ep []) h
        |some none=>K (.ep []) hp
        |none=>bad
       |_,_=>bad
     |_,_=>bad
   |_,_=>bad
 | .range t x=>match g (dl x)with
   | .w (.one (.map id))=>match P.underlying t,find hp id with
     |some (.map _ _),some (.mp _ _)=>K (.w (.one (.it id))) hp
     |_,_=>bad
   |_=>bad
 | .next x false=>match g (dl x)with
   | .w (.one (.it id))=>match find hp id with
     |some (.mp [] _)=>K (.ep [bT false]) hp
     |_=>bad
   |_=>bad
 | .makeFunc (.func f) first da=>match first.toList,da.toList with
   | [x],[]=>match recv (g (dl x))with
     |some (b,ts)=>K (.w (.one (.kR f b ts))) hp
     |none=>bad
   |_,_=>other
 | .call ⟨.builtin .append,args,ic⟩=>match args.toList,ic.toList with
   | [s,x],[t,t']=>match P.underlying t' with
     |some (.int _)=>match g (dl s),(g (dl x)).fu,P.underlying t with
      | .w (.one (.t (.val (.slice none 0 0)))),some (.i64, .ofNat (n+1)),some (.slice e)=>match pT P e,ku P e with
        |some (size,bytes),some z=>gi (Nat.beq z.length size&&Nat.ble ((n+1) * bytes) 70368744177664&&Nat.ble (n+1) 70368744177664)
          (gu (List.replicate (n+1) z) fun zs=>K (.w (.one (.own ctr size 0 (n+1)))) ((ctr, .row size zs)::hp)) bad
        |_,_=>bad
      |_,_,_=>bad
     |_=>other
   |_,_=>other
 | .binOp bo t x y _=>match g (dl x),g (dl y),P.underlying t with
   | .w (.one (.ptr _ _ _ _)), .w (.one (.t (.val (.pointer none)))),some (.pointer _)=>match bo with
     | .eql=>K (bV false) hp
     | .neq=>K (bV true) hp
     |_=>bad
   |_,_,_=>other
 |_=>other
def CA (P:Program) (n:Nat) (o:Oper) (tm:Tr) (hp:HS) (ctr:Nat) (v:V) (aH:HS):Prop:=
 ∀ (M A:Nat→Prop) (ρ:Env) (a:Act) (w:World) (L:TS),eB tm L→Rel M A ρ (bC ctr) ⟨n,L,hp⟩ a w→nM M A ρ (bC (ctr+4)) a w ((execOp a.eval o).run P w) ⟨n,L,aH⟩ v
theorem cP {ctr:Nat}: ∀id,bC (ctr+4) id→bC ctr id:=fun id h=>by simp only[bC]at *;omega
theorem get_eq {tm:Tr} {L:TS} (hL:eB tm L) (n:Nat) (hp:HS):(fun x=>gT tm (dl x))=St.get ⟨n,L,hp⟩:=by
 funext x
 rw[kN hL]
 exact bj ⟨n,L,hp⟩ x
theorem RV.at {tm:Tr} {L:TS} {n:Nat} {hp:HS} (hL:eB tm L) (hr:Rel M A ρ F ⟨n,L,hp⟩ a w) (x:Operand):RV w A ρ (gT tm (dl x)) (a.eval x):=by
 have:=hr.get x
 rw[←congrFun (get_eq hL n hp) x]at this
 exact this
theorem AW {n:Nat} {o:Oper} {tm:Tr} {hp aH:HS} {ctr:Nat} {v:V} (h:aj P (fun x=>gT tm (dl x)) hp ctr (bare o.op o.type)=some (v,aH)):CA P n o tm hp ctr v aH:=by
 intro M A ρ a w L hL hr
 rw[sk,get_eq hL n hp]at h
 obtain⟨x,w',A',ρ',h1,h2,h3⟩:=lG (st:=⟨n,L,hp⟩) h hr (Nat.le_refl ctr)
 exact⟨x,w',A',ρ',h1,h2.sub gD,h3⟩
theorem wJ {n:Nat} {o:Oper} {tm:Tr} {hp:HS} {ctr:Nat} {v:V} (h:bi P (fun x=>gT tm (dl x)) (bare o.op o.type)=some v):CA P n o tm hp ctr v hp:=by
 intro M A ρ a w L hL hr
 rw[wK,get_eq hL n hp]at h
 exact gQ (st:=⟨n,L,hp⟩) h hr cP
theorem kZ: ∀ {cs:List C} {ts:List T},ec cs=some ts→cs=ts.map .t
 | [],ts,h=>by simp only[ec,Option.some.injEq]at h;subst h;rfl
 | .t x::r,ts,h=>by
   simp only[ec,Option.map_eq_some_iff]at h
   obtain⟨l,hl,rfl⟩:=h
   simp[kZ hl]
 | .own .. ::_,ts,h=>by simp[ec]at h
 | .ptr .. ::_,ts,h=>by simp[ec]at h
 | .rH .. ::_,ts,h=>by simp[ec]at h
 | .jB .. ::_,ts,h=>by simp[ec]at h
 | .map _::_,ts,h=>by simp[ec]at h
 | .it _::_,ts,h=>by simp[ec]at h
 | .kR .. ::_,ts,h=>by simp[ec]at h
 | .pk .. ::_,ts,h=>by simp[ec]at h
 | .any::_,ts,h=>by simp[ec]at h
theorem Ao {v:V} {c:C} {x:Value} (h:mvC v=some c) (hr:RV w A ρ v x):RC w A ρ c x∧xV c x:=by
 unfold mvC at h
 split at h
 · simp only[Option.some.injEq]at h
   subst h
   exact⟨hr.1, .inl hr.2⟩
 · simp only[Option.map_eq_some_iff]at h
   obtain⟨l,hl,rfl⟩:=h
   have:=kZ hl
   subst this
   exact xV.pk hr
 · simp at h
theorem D4 {v:V} {b:Bool} {ts:List T} {x:Value} (h:recv v=some (b,ts)) (hr:RV w A ρ v x):RF w A b ts x:=by
 unfold recv at h
 split at h
 · simp only[Option.some.injEq,Prod.mk.injEq]at h
   obtain⟨rfl,rfl⟩:=h
   exact⟨_,rfl,hr.1,hr.2⟩
 · simp only[Option.map_eq_some_iff,Prod.mk.injEq]at h
   obtain⟨l,hl,rfl,rfl⟩:=h
   have:=kZ hl
   subst this
   obtain⟨vs,rfl,h1,h2⟩:=hr
   exact⟨vs,rfl,by simpa using h1,fun k t y ht hy=>h2 k (.t t) y (by simp[ht]) hy⟩
 · simp at h
theorem kx {t t' ty e:TypeId} {ik:IntKind} {i:TypeInfo} {z:Value} (ht:P.underlying t=some (.slice e)) (ht':P.underlying t'=some (.int ik)) (hi:P.info? e=some i) (hz:i.zero=some z)
 (n:Nat) (h0:0 < n) (hsz:0 < i.size) (hn:n≤70368744177664) (h48:n * i.bytes≤70368744177664) (w:World):
 (Builtin.append_ #[t,t'] ty #[.slice none 0 0, .int .i64 (n:Int)]).run P w=
   .ok (.slice (some ⟨w.heap.size,0,none⟩) n (grownCap w n 0 e)) (w.drew.alloc (.cells (Builtin.zeroCells z.cells n++Builtin.zeroCells z.cells (grownCap w n 0 e - n)) e)):=by
 have H7:n≠0:=by omega
 have hs0:i.size≠0:=by omega
 have aqC:¬ (9223372036854775807 < (n:Int)):=by omega
 have aqD:¬ (281474976710656 < Builtin.nextslicecap n 0 * i.bytes):=by rw[nextslicecap_zero h0];omega
 have hw:IntKind.i64.wrap (n:Int)=(n:Int):=wrap_i64 (by omega) (by omega)
 have hneg:¬ ((n:Int) < 0):=by omega
 have apQ:¬ (281474976710656 < (n:Int) * (i.bytes:Int)):=by rw[←Int.natCast_mul];generalize n * i.bytes=q at h48;omega
 simp[Builtin.append_,run_underlying ht,run_underlying ht',sizeOf,typeInfo,zeroValue,hi,hz,asInt,asIntOf,hw,hneg,apQ,H7,hs0,aqC,aqD,Question.forced,run_firstCells_none,newRow,grownCap]
 intro h
 rcases Nat.mul_eq_zero.1 h with h|h
 · exact absurd h H7
 · exact absurd h hs0
set_option maxHeartbeats 1000000
theorem HK {n:Nat} {o:Oper} {tm:Tr} {hp:HS} {ctr:Nat} {K:V→HS→Bool} (h:EX P false o.op o.type (gT tm) hp ctr K=true): ∃v aH,CA P n o tm hp ctr v aH∧K v aH=true:=by
 obtain⟨op,hop⟩: ∃op,op=o.op:=⟨_,rfl⟩
 have other:(match aj P (fun x=>gT tm (dl x)) hp ctr (bare o.op o.type)with
  |some (v,aH)=>rX v fun v=>K v aH
  |none=>match bi P (fun x=>gT tm (dl x)) (bare o.op o.type)with
   |some v=>rX v fun v=>K v hp
   |none=>false)=true→ ∃v aH,CA P n o tm hp ctr v aH∧K v aH=true:=by
  intro h
  split at h
  · rename_i v aH he
    rw[dO]at h
    exact⟨v,aH,AW he,h⟩
  · split at h
    · rename_i v he
      rw[dO]at h
      exact⟨v,hp,wJ he,h⟩
    · simp at h
 have kK: ∀ (ev:Operand→Value),execOp ev o=execOp ev (bare op o.type):=fun ev=>by rw[hop,sj]
 rw[←hop]at h other
 unfold EX at h
 simp only at h
 split at h
 ·
  rename_i t
  refine⟨_,_,?_,h⟩
  intro M A ρ a w L hL hr
  obtain⟨r1,r2⟩:=Rel.F3 (st:=⟨n,L,hp⟩) hr (Nat.le_refl ctr)
  refine⟨.map (some w.heap.size),w.alloc (.map #[] 0),_,_, .inl ?_,r1.sub gD,⟨⟨w.heap.size,by simp[dg],rfl⟩,rfl⟩,df.alloc M w _,r2,bJ.new A w⟩
  rw[kK]
  simp[execOp,Instr.makeMap]
 ·
  rename_i t m k x
  split at h
  · rename_i id kv c hm hk hx
    split at h
    · rename_i kt et es clock hu hf
      split at h
      · rename_i i pN
        split at h
        · rename_i old c0 born yU
          obtain⟨kJ,h⟩:=bu h
          rw[cD,cD]at h
          rw[lA]at yU
          refine⟨_,_,?_,h⟩
          intro M A ρ a w L hL hr
          have vm:=RV.at hL hr m
          rw[hm]at vm
          have vk:=V.bA hk (RV.at hL hr k)
          have vx:=Ao hx (RV.at hL hr x)
          obtain⟨b,en,q1,q2,q3,q4,q5⟩:=iv hr hf vm
          obtain⟨c1,o2,c2,c3,c4⟩:=dH pN (fR (id:=id) (clock:=clock) q4 q5) w
          cases o2 with
          |none=>simp at c3
          |some p=>
           obtain⟨j,v⟩:=p
           simp only[Option.map_some,Option.some.injEq]at c3
           subst c3
           obtain⟨e0,e1,e2,e3,_⟩:=q5 j old c0 born yU
           have hi:j < en.size:=(Array.getElem?_eq_some_iff.1 e1).1
           have he0:en[j]=e0:=by simpa[hi]using e1
           obtain⟨r1,r2⟩:=Rel.tX (st:=⟨n,L,hp⟩) (clock':=clock) (es':=es.set j (kv,c,born)) (en':=en.modify j fun e=>{e with key:=kv,val:=a.eval x}) hr hf q1 q3 (by simp[q4]) (fun i k' c' n' hi'=>by
            by_cases hij:j=i
            · subst hij
              rw[List.getElem?_set_self (by rw[←q4];exact hi)]at hi'
              simp only[Option.some.injEq,Prod.mk.injEq]at hi'
              obtain⟨rfl,rfl,rfl⟩:=hi'
              refine⟨{e0 with key:=kv,val:=a.eval x},by simp[Array.getElem?_modify,e1],rfl,e3,vx.1,vx.2⟩
            · rw[List.getElem?_set_ne hij]at hi'
              obtain⟨e,g1,g2,g3,g4,g5⟩:=q5 i k' c' n' hi'
              exact⟨e,by simp[Array.getElem?_modify,hij,g1],g2,g3,g4,g5⟩)
           refine⟨undef,_,A,ρ, .inr ⟨?_,rfl⟩,r1.sub cP,trivial,r2,cW.refl _,bJ.refl _ _⟩
           have hks:(Instr.keyThatStays (((en[j]?).map (·.key)).getD kv) kv).run P w= .ok kv w:=by
            simp[Instr.keyThatStays,e1,e2,kJ]
           rw[kK]
           simp only[execOp,Instr.mapUpdate,Sem.run_bind,run_underlying hu,Result.andThen_ok,q2,oD q3,vk,c1,c2,hks,Ea _ q3,Sem.run_pure]
        · simp at h
      · rename_i pN
        rw[cD,dB,cD]at h
        refine⟨_,_,?_,h⟩
        intro M A ρ a w L hL hr
        have vm:=RV.at hL hr m
        rw[hm]at vm
        have vk:=V.bA hk (RV.at hL hr k)
        have vx:=Ao hx (RV.at hL hr x)
        obtain⟨b,en,q1,q2,q3,q4,q5⟩:=iv hr hf vm
        obtain⟨c1,o2,c2,c3,c4⟩:=dH pN (fR (id:=id) (clock:=clock) q4 q5) w
        cases o2 with
        |some p=>simp at c3
        |none=>
         obtain⟨r1,r2⟩:=Rel.tX (st:=⟨n,L,hp⟩) (clock':=clock+1) (es':=es++[(kv,c,clock)]) (en':=en.push {key:=kv,val:=a.eval x,born:=clock}) hr hf q1 q3 (by simp[q4]) (fun i k' c' n' hi'=>by
          by_cases hlt:i < es.length
          · rw[List.getElem?_append_left hlt]at hi'
            obtain⟨e,g1,g2,g3,g4,g5⟩:=q5 i k' c' n' hi'
            exact⟨e,by rw[Array.getElem?_push,if_neg (by omega)];exact g1,g2,g3,g4,g5⟩
          · rw[List.getElem?_append_right (by omega)]at hi'
            have hz:i - es.length=0:=by
             have:=(List.getElem?_eq_some_iff.1 hi').1
             simp at this
             omega
            rw[hz]at hi'
            simp only[List.getElem?_cons_zero,Option.some.injEq,Prod.mk.injEq]at hi'
            obtain⟨rfl,rfl,rfl⟩:=hi'
            exact⟨⟨kv,a.eval x,clock⟩,by rw[Array.getElem?_push,if_pos (by omega)],rfl,rfl,vx.1,vx.2⟩)
         refine⟨undef,_,A,ρ, .inr ⟨?_,rfl⟩,r1.sub cP,trivial,r2,cW.refl _,bJ.refl _ _⟩
         rw[kK]
         simp only[execOp,Instr.mapUpdate,Sem.run_bind,run_underlying hu,Result.andThen_ok,q2,oD q3,vk,c1,c2,Ea _ q3,Sem.run_pure]
      · simp at h
    · simp at h
  · simp at h
 ·
  rename_i t m k ok
  split at h
  · rename_i id kv hm hk
    split at h
    · rename_i kt et es clock hu hf
      split at h
      · rename_i i pN
        split at h
        · rename_i k0 c born yU
          rw[jY]at h
          rw[lA]at yU
          refine⟨_,_,?_,h⟩
          intro M A ρ a w L hL hr
          have vm:=RV.at hL hr m
          rw[hm]at vm
          have vk:=V.bA hk (RV.at hL hr k)
          obtain⟨b,en,q1,q2,q3,q4,q5⟩:=iv hr hf vm
          obtain⟨c1,o2,c2,c3,c4⟩:=dH pN (fR (id:=id) (clock:=clock) q4 q5) w
          cases o2 with
          |none=>simp at c3
          |some p=>
           obtain⟨j,v⟩:=p
           simp only[Option.map_some,Option.some.injEq]at c3
           subst c3
           obtain⟨e0,e1,e2,e3,e4,e5⟩:=q5 j k0 c born yU
           obtain⟨e',g1,rfl⟩:=c4 j v rfl
           rw[e1]at g1
           simp only[Option.some.injEq]at g1
           subst g1
           have hrun:(execOp a.eval o).run P w= .ok (.value (if ok then .tuple #[e0.val, .bool true]else e0.val)) w:=by
            rw[kK]
            simp only[execOp,Instr.lookup,Sem.run_bind,run_underlying hu,Result.andThen_ok,q2,oD q3,Sem.run_pure,vk,ff q4,c1,c2]
           refine⟨_,w,A,ρ, .inl hrun,hr.sub cP,?_,df.refl _ _,cW.refl _,bJ.refl _ _⟩
           cases ok with
           |true=>exact DT (e5.rw e4)
           |false=>exact e5.rw e4
        · simp at h
      · rename_i pN
        split at h
        · rename_i z hz
          rw[jY]at h
          refine⟨_,_,?_,h⟩
          intro M A ρ a w L hL hr
          have vm:=RV.at hL hr m
          rw[hm]at vm
          have vk:=V.bA hk (RV.at hL hr k)
          obtain⟨b,en,q1,q2,q3,q4,q5⟩:=iv hr hf vm
          obtain⟨c1,o2,c2,c3,c4⟩:=dH pN (fR (id:=id) (clock:=clock) q4 q5) w
          cases o2 with
          |some p=>simp at c3
          |none=>
           obtain⟨Sm,uM⟩:=qj hz w
           have hrun:(execOp a.eval o).run P w= .ok (.value (if ok then .tuple #[z, .bool false]else z)) w:=by
            rw[kK]
            simp only[execOp,Instr.lookup,Sem.run_bind,run_underlying hu,Result.andThen_ok,q2,oD q3,Sem.run_pure,vk,ff q4,c1,c2,Sm]
           refine⟨_,w,A,ρ, .inl hrun,hr.sub cP,?_,df.refl _ _,cW.refl _,bJ.refl _ _⟩
           cases ok with
           |true=>exact DT (u0:= .one (.t (.val z))) ⟨RT.val uM,uM⟩
           |false=>exact⟨RT.val uM,uM⟩
        · simp at h
      · simp at h
    · simp at h
  · simp at h
 ·
  rename_i args ic
  split at h
  · rename_i x t hargs iK
    split at h
    · rename_i id hx
      split at h
      · rename_i kt et es clock hu hf
        rw[dB]at h
        refine⟨_,_,?_,h⟩
        intro M A ρ a w L hL hr
        have vm:=RV.at hL hr x
        rw[hx]at vm
        obtain⟨b,en,q1,q2,q3,q4,q5⟩:=iv hr hf vm
        have ea:args= #[x]:=by rw[←Array.toArray_toList (xs:=args),hargs]
        have et:ic= #[t]:=by rw[←Array.toArray_toList (xs:=ic),iK]
        subst ea
        subst et
        have hrun:(execOp a.eval o).run P w= .ok (.value (goInt en.size)) w:=by
         rw[kK]
         simp[execOp,resolve,invoke,builtin,Builtin.len_,run_underlying hu,q2,oD q3]
        refine⟨_,w,A,ρ, .inl hrun,hr.sub cP,?_,df.refl _ _,cW.refl _,bJ.refl _ _⟩
        rw[q4]
        exact RV.ofValue w A ρ (goInt es.length)
      · simp at h
    · exact other h
  · exact other h
 ·
  rename_i args ic
  split at h
  · rename_i m k t t' hargs iK
    split at h
    · rename_i id kv hm hk
      split at h
      · rename_i kt et es clock hu hf
        have ea:args= #[m,k]:=by rw[←Array.toArray_toList (xs:=args),hargs]
        have et:ic= #[t,t']:=by rw[←Array.toArray_toList (xs:=ic),iK]
        subst ea
        subst et
        split at h
        · rename_i i pN
          rw[cD,cD]at h
          refine⟨_,_,?_,h⟩
          intro M A ρ a w L hL hr
          have vm:=RV.at hL hr m
          rw[hm]at vm
          have vk:=V.bA hk (RV.at hL hr k)
          obtain⟨b,en,q1,q2,q3,q4,q5⟩:=iv hr hf vm
          obtain⟨c1,o2,c2,c3,c4⟩:=dH pN (fR (id:=id) (clock:=clock) q4 q5) w
          cases o2 with
          |none=>simp at c3
          |some p=>
           obtain⟨j,v⟩:=p
           simp only[Option.map_some,Option.some.injEq]at c3
           subst c3
           obtain⟨e',g1,_⟩:=c4 j v rfl
           have hj:j < en.size:=(Array.getElem?_eq_some_iff.1 g1).1
           obtain⟨r1,r2⟩:=Rel.tX (st:=⟨n,L,hp⟩) (clock':=clock) (es':=es.eraseIdx j) (en':=en.eraseIdxIfInBounds j) hr hf q1 q3
            (by rw[Array.eraseIdxIfInBounds,dif_pos hj,Array.size_eraseIdx,List.length_eraseIdx,if_pos (by omega),q4]) (fun i k' c' n' hi'=>by
            rw[List.getElem?_eraseIdx]at hi'
            have he:(en.eraseIdxIfInBounds j)[i]? =if i < j then en[i]? else en[i+1]? :=by
             rw[Array.eraseIdxIfInBounds,dif_pos hj,Array.getElem?_eraseIdx]
            rw[he]
            split at hi'
            · rename_i hlt;rw[if_pos hlt];exact q5 i k' c' n' hi'
            · rename_i hlt;rw[if_neg hlt];exact q5 (i+1) k' c' n' hi')
           have hrun:(execOp a.eval o).run P w= .ok (.value (.tuple #[])) {w with heap:=w.heap.setIfInBounds b (.map (en.eraseIdxIfInBounds j) clock)}:=by
            rw[kK]
            simp only[execOp,resolve,invoke,builtin,Builtin.delete_]
            simp[run_underlying hu,q2,oD q3,vk,ff q4,c1,c2,Ea _ q3]
           exact⟨_,_,A,ρ, .inl hrun,r1.sub cP,⟨#[],rfl,rfl,by simp⟩,r2,cW.refl _,bJ.refl _ _⟩
        · rename_i pN
          refine⟨_,_,?_,h⟩
          intro M A ρ a w L hL hr
          have vm:=RV.at hL hr m
          rw[hm]at vm
          have vk:=V.bA hk (RV.at hL hr k)
          obtain⟨b,en,q1,q2,q3,q4,q5⟩:=iv hr hf vm
          obtain⟨c1,o2,c2,c3,c4⟩:=dH pN (fR (id:=id) (clock:=clock) q4 q5) w
          cases o2 with
          |some p=>simp at c3
          |none=>
           have S8:b < w.heap.size:=by
            rcases Nat.lt_or_ge b w.heap.size with hl|hg
            · exact hl
            · simp[Array.getElem?_eq_none hg]at q3
           have SF:({w with heap:=w.heap.setIfInBounds b (.map en clock)}:World)=w:=by
            have:w.heap.setIfInBounds b (.map en clock)=w.heap:=by
             apply Array.ext_getElem?
             intro i
             by_cases hi:b=i
             · subst hi;simp[S8,q3];simpa[S8]using q3.symm
             · rw[Array.getElem?_setIfInBounds_ne hi]
            rw[this]
           have hrun:(execOp a.eval o).run P w= .ok (.value (.tuple #[])) w:=by
            rw[kK]
            simp only[execOp,resolve,invoke,builtin,Builtin.delete_]
            simp[run_underlying hu,q2,oD q3,vk,ff q4,c1,c2,Ea _ q3,SF]
           exact⟨_,_,A,ρ, .inl hrun,hr.sub cP,⟨#[],rfl,rfl,by simp⟩,df.refl _ _,cW.refl _,bJ.refl _ _⟩
        · simp at h
      · simp at h
    · simp at h
  · simp at h
 ·
  rename_i t x
  split at h
  · rename_i id hx
    split at h
    · rename_i kt et es clock hu hf
      refine⟨_,_,?_,h⟩
      intro M A ρ a w L hL hr
      have vm:=RV.at hL hr x
      rw[hx]at vm
      obtain⟨b,en,q1,q2,q3,q4,q5⟩:=iv hr hf vm
      obtain⟨r1,r2⟩:=Rel.IU hr (.mapIter (some b) clock #[] clock)
      have hrun:(execOp a.eval o).run P w= .ok (.value (.pointer (some ⟨w.heap.size,0,none⟩))) (w.alloc (.mapIter (some b) clock #[] clock)):=by
       rw[kK]
       simp[execOp,Instr.range,run_underlying hu,q2,oD q3]
      refine⟨_,_,A,ρ, .inl hrun,r1.sub cP,⟨⟨b,w.heap.size,clock,clock,q1,rfl,by simp,fun hA=>?_,heap_alloc_new w _⟩,rfl⟩,r2,cW.refl _,bJ.refl _ _⟩
      have:=hr.bound _ hA
      omega
    · simp at h
  · simp at h
 ·
  rename_i x
  split at h
  · rename_i id hx
    split at h
    · rename_i clock hf
      refine⟨_,_,?_,h⟩
      intro M A ρ a w L hL hr
      have vi:=RV.at hL hr x
      rw[hx]at vi
      obtain⟨b,r,since,last,k1,k2,k3,k4,k5⟩:=vi.1
      obtain⟨b',en,g1,g2,g3,g4,g5,g6⟩:=hr.heap id _ hf
      rw[k1]at g1
      simp only[Option.some.injEq,Loc.fN.injEq]at g1
      subst g1
      have mN:en= #[]:=by
       apply Array.eq_empty_of_size_eq_zero
       simpa using g5
      subst mN
      have B8:(getObj r).run P w= .ok (.mapIter (some b) since #[] last) w:=by simp[getObj,Sem.run,k5]
      have hrun:(execOp a.eval o).run P w= .ok (.value (.tuple #[.bool false])) w:=by
       rw[kK]
       simp only[execOp,Instr.next,k2]
       simp[B8,oD g4,Question.forced]
      exact⟨_,_,A,ρ, .inl hrun,hr.sub cP,⟨_,rfl,rfl,fun k u y hu hy=>by
       match k with
       |0=>simp at hu hy;subst hu;subst hy;exact RW.bT false
       |k+1=>simp at hu⟩,df.refl _ _,cW.refl _,bJ.refl _ _⟩
    · simp at h
  · simp at h
 ·
  rename_i f first da
  split at h
  · rename_i x uS S6
    split at h
    · rename_i b ts H6
      refine⟨_,_,?_,h⟩
      intro M A ρ a w L hL hr
      have vx:=RV.at hL hr x
      have ea:first= #[x]:=by rw[←Array.toArray_toList (xs:=first),uS]
      have et:da= #[]:=by rw[←Array.toArray_toList (xs:=da),S6]
      subst ea
      subst et
      have hrun:(execOp a.eval o).run P w= .ok (.value (.func (.func f) #[a.eval x] #[])) w:=by
       rw[kK]
       simp[execOp,Instr.makeFunc]
      exact⟨_,_,A,ρ, .inl hrun,hr.sub cP,⟨⟨_,rfl,D4 H6 vx⟩,rfl⟩,df.refl _ _,cW.refl _,bJ.refl _ _⟩
    · simp at h
  · exact other h
 ·
  rename_i args ic
  split at h
  · rename_i s x t t' hargs iK
    split at h
    · rename_i ik yR
      split at h
      · rename_i m e hs hx hu
        split at h
        · rename_i size bytes z hT hz
          obtain⟨hc,h⟩:=bu h
          rw[cD]at h
          refine⟨_,_,?_,h⟩
          intro M A ρ a w L hL hr
          have vs:=RV.at hL hr s
          rw[hs]at vs
          have vx:=V.ix hx (RV.at hL hr x)
          have SA:a.eval s= .slice none 0 0:=V.bA (v:= .slice none 0 0) rfl vs
          have ea:args= #[s,x]:=by rw[←Array.toArray_toList (xs:=args),hargs]
          have et:ic= #[t,t']:=by rw[←Array.toArray_toList (xs:=ic),iK]
          subst ea
          subst et
          obtain⟨inf,zv,z1,z2,z3,z4,z5,z6⟩:=lI hT
          obtain⟨amP,zv',y1,y2,y3,y4,y5⟩:=eV hz w A ρ
          rw[z1]at y1
          simp only[Option.some.injEq]at y1
          subst y1
          rw[z2]at y2
          simp only[Option.some.injEq]at y2
          subst y2
          obtain⟨apP,hc3⟩:=Bool.and_eq_true _ _▸hc
          obtain⟨nF,yZ⟩:=Bool.and_eq_true _ _▸apP
          have g2:=Nat.le_of_ble_eq_true yZ
          have g3:=Nat.le_of_ble_eq_true hc3
          have hsize:z.length=size:=by rw[←y4];exact z3
          have hrun:=kx (P:=P) (ty:=o.type) hu yR z1 z2 (m+1) (by omega) (by omega) g3 (by rw[z4];exact g2) w
          have hge:=grownCap_ge w (m+1) 0 e
          obtain⟨e1,e2,e3⟩:=mh y5 (m+1)
          have hlen:(List.replicate (m+1) z).length=m+1:=by simp
          obtain⟨A',ρ',r1,r2,r3,r4,r5⟩:=jw (st:=⟨n,L,hp⟩) (e:=e) (z:=zv.cells) (cap:=grownCap w (m+1) 0 e) (zs:=List.replicate (m+1) z) (vs:=(Builtin.zeroCells zv.cells (m+1)).toList) (size:=size) hr (Nat.le_refl ctr) z5
           (fun el hel=>by rw[List.eq_of_mem_replicate hel];exact hsize)
           (by rw[Array.length_toList,size_zeroCells,z5,hlen]) (by rw[hlen];exact hge)
           (fun i el j k hi hj=>by
             obtain⟨y,hy,rT,uN⟩:=e3 i el j k hi hj
             refine⟨y,?_,rT,uN⟩
             rw[Array.getElem?_toList, ←hsize]
             have ez:Builtin.zeroCells zv.cells (m+1)=(Array.range ((m+1) * z.length)).map fun k=>zv.cells[k % zv.cells.size]! :=by
              unfold Builtin.zeroCells
              have:zv.cells.size=z.length:=by rw[y3,y4]
              rw[this]
             rw[ez]
             exact hy)
          rw[hlen]at r1 r2 r3
          simp only[Array.toArray_toList]at r1 r2 r3
          refine⟨_,_,A',ρ', .inl ?_,r1.sub gD,r2,r3,r4,r5⟩
          rw[kK]
          have Sr:a.eval x= .int .i64 ((m+1:Nat):Int):=vx
          have OC:(execOp a.eval (bare (Op.call ⟨.builtin .append, #[s,x], #[t,t']⟩) o.type)).run P w=((Builtin.append_ #[t,t'] o.type #[a.eval s,a.eval x]).run P w).andThen fun v w'=> .ok (.value v) w':=by
           simp[execOp,resolve,invoke,builtin]
          rw[OC,SA,Sr,hrun]
          rfl
        · simp at h
      · simp at h
    · exact other h
  · exact other h
 ·
  rename_i bo t x y t'
  split at h
  · rename_i id sz i j e hx hy hu
    have Rx: ∀ (b:Addr) (w:World),(Op.equal t (.pointer (some b)) (.pointer none)).run P w= .ok false w:=by
     intro b w
     show(Op.equalIn 10000 t (.pointer (some b)) (.pointer none)).run P w=_
     unfold Op.equalIn
     simp[run_underlying hu]
    have fin: ∀ (c:Bool),(∀ (b:Addr) (w:World),(binOp bo t (.pointer (some b)) (.pointer none)).run P w= .ok (.bool c) w)→CA P n o tm hp ctr (bV c) hp:=by
     intro c hc M A ρ a w L hL hr
     have vx:=RV.at hL hr x
     rw[hx]at vx
     have vy:=RV.at hL hr y
     rw[hy]at vy
     obtain⟨b,_,hb⟩:=vx.1
     have hyv:a.eval y= .pointer none:=V.bA (v:= .pointer none) rfl vy
     have hg:(eqGuard bo t x y (.pointer (some ⟨b,i * sz+j,none⟩)) (.pointer none)).run P w= .ok () w:=by
      unfold eqGuard
      cases bo<;>simp
     have hrun:(execOp a.eval o).run P w= .ok (.value (.bool c)) w:=by
      rw[kK]
      simp only[execOp,hb,hyv,Sem.run_bind,hg,Result.andThen_ok,hc,Sem.run_pure]
     exact⟨_,w,A,ρ, .inl hrun,hr.sub cP,RV.ofValue w A ρ (.bool c),df.refl _ _,cW.refl _,bJ.refl _ _⟩
    split at h
    · exact⟨_,_,fin false (fun b w=>by simp[binOp,Rx]),h⟩
    · exact⟨_,_,fin true (fun b w=>by simp[binOp,Rx]),h⟩
    · simp at h
  · exact other h
 · exact other h
end Go.aU
end
section
namespace Go.aU
open Go
variable {P:Program} {M A:Nat→Prop} {ρ:Env} {F:Nat→Prop} {st:St} {a:Act} {w:World}
def C3 (bits:List Nat) (lo:Nat) (fs:List gV):Bool:=
 (List.range fs.length).all fun j=>match fs[j]? with
   |some g=>(List.range j).all fun i=>match fs[i]? with
    |some f=>(bits.getD (lo+j) 0).testBit (lo+i)||f.apart g
    |none=>true
   |none=>true
theorem uc {bits:List Nat} {lo:Nat} {fs:List gV} (h:C3 bits lo fs=true) {i j:Nat} {f g:gV} (hij:i < j) (hf:fs[i]? =some f) (hg:fs[j]? =some g):
 (bits.getD (lo+j) 0).testBit (lo+i)=true∨f.apart g=true:=by
 unfold C3 at h
 have hj:j < fs.length:=(List.getElem?_eq_some_iff.1 hg).1
 have:=List.all_eq_true.1 h j (List.mem_range.2 hj)
 simp only[hg]at this
 have:=List.all_eq_true.1 this i (List.mem_range.2 hij)
 simp only[hf,Bool.or_eq_true]at this
 exact this
theorem DZ {ops:Array Oper} {n base lo m:Nat} {tmT:Nat→TS} {hpT:Nat→HS} {v:Nat→V} {fs:List gV} {Q:Exit→Act→World→Prop}
 (hlm:lo+m≤ops.size)
 (hstep: ∀i o,i < m→ops[lo+i]? =some o→fm P ops o n (tmT i) (hpT i) (base+4 * i) (v i) (hpT (i+1))∧(∀t,find (tmT (i+1)) t=find (eJ (tmT i) o.dst (v i)) t)∧
   ∃f,fs[i]? =some f∧f.dst=o.dst∧(∀t,t∈names ops o→t∈f.nm)∧(∀k,k∈iU (St.get ⟨n,tmT i,hpT i⟩) o→k∈f.rd)∧(∀k,k∈tt (St.get ⟨n,tmT i,hpT i⟩) (base+4 * i) o→k∈f.wr))
 (hE: ∀i o,ops[i]? =some o→ ∀e,e∈bg o→e < i)
 (hok:C3 (ko (ops.toList.map bg) []) lo fs=true)
 (B6: ∀k,lo+m≤k→k < ops.size→ ∀i,i < m→((ko (ops.toList.map bg) []).getD k 0).testBit (lo+i)=true)
 (cH:Rel M A ρ (bC base) ⟨n,tmT 0,hpT 0⟩ a w)
 (Gu: ∀ (fuel:Nat) (listed:Array Bool) (a':Act) (w':World),listed.size=ops.size→(∀i,i < ops.size→listed.getD i false=decide (i < lo+m))→ops.size - (lo+m)≤fuel→
   DL M A ρ w (fun st c=>st=⟨n,tmT m,hpT m⟩∧c=base+4 * m) a' w'→wpAny P .any ops Q fuel listed a' w'):
 ∀ (fuel:Nat) (listed:Array Bool),listed.size=ops.size→(∀i,i < ops.size→listed.getD i false=decide (i < lo))→ops.size - lo≤fuel→wpAny P .any ops Q fuel listed a w:=by
 let N:=m
 let dst:Nat→Option Nat:=fun i=>(ops[lo+i]?).bind (·.dst)
 let wr:Nat→List Nat:=fun i=>((ops[lo+i]?).map fun o=>tt (St.get ⟨n,tmT i,hpT i⟩) (base+4 * i) o).getD []
 have hop: ∀i,i < N→ ∃o,ops[lo+i]? =some o:=fun i hi=>by
  have:lo+i < ops.size:=by simp only[N]at hi;omega
  exact⟨ops[lo+i],by simp[this]⟩
 have uU: ∀i o,ops[lo+i]? =some o→dst i=o.dst:=fun i o h=>by simp only[dst,h,Option.bind_some]
 have hwr: ∀i o,ops[lo+i]? =some o→wr i=tt (St.get ⟨n,tmT i,hpT i⟩) (base+4 * i) o:=by
  intro i o h
  simp only[wr,h,Option.map_some,Option.getD_some]
 have uQ: ∀i,i < N→ ∀k,¬k∈wr i→find (hpT (i+1)) k=find (hpT i) k:=by
  intro i hi k hk
  obtain⟨o,ho⟩:=hop i hi
  obtain⟨h1,_⟩:=hstep i o hi ho
  obtain⟨_,_,h3⟩:=h1.loc (tm2:=tmT i) (hp2:=hpT i) (fun _ _=>rfl) (fun _ _=>rfl) (fun _ _=>rfl)
  rw[hwr i o ho]at hk
  exact(h3.2 k hk).1
 have Gl: ∀i,i < N→ ∀t,find (tmT (i+1)) t=find (eJ (tmT i) (dst i) (v i)) t:=by
  intro i hi t
  obtain⟨o,ho⟩:=hop i hi
  rw[(hstep i o hi ho).2.1 t,uU i o ho]
 have Ti: ∀ (i:Nat) (es:List Nat),(ops.toList.map bg)[i]? =some es→ ∀e,e∈es→e < i:=by
  intro i es h e he
  simp only[List.getElem?_map,Array.getElem?_toList,Option.map_eq_some_iff]at h
  obtain⟨o,ho,rfl⟩:=h
  exact hE i o ho e he
 let Lg:Array Bool→Nat→Bool:=fun listed i=>listed.getD i false
 let dc:Array Bool→Nat→Bool:=fun listed i=>listed.getD (lo+i) false
 let Fr:(Nat→Bool)→Nat→Prop:=fun L k=>base+4 * N≤k∨ ∃j,j < N∧L j=false∧base+4 * j≤k∧k < base+4 * j+4
 have iB: ∀ {L:Nat→Bool} {i:Nat},i < ops.size→(∀k o,ops[k]? =some o→L k=true→ ∀e,e∈bg o→L e=true)→(∀o,ops[i]? =some o→ ∀e,e∈bg o→L e=true)→
  ∀j,((ko (ops.toList.map bg) []).getD i 0).testBit j=true→L j=true:=by
  intro L i hi dK Ic j hb
  refine(oV Ti i (by simpa using hi) (fun k es _ EH jF e he=>?_) (fun es jF e he=>?_) j hb).1
  · simp only[List.getElem?_map,Array.getElem?_toList,Option.map_eq_some_iff]at jF
    obtain⟨o,ho,rfl⟩:=jF
    exact dK k o ho EH e he
  · simp only[List.getElem?_map,Array.getElem?_toList,Option.map_eq_some_iff]at jF
    obtain⟨o,ho,rfl⟩:=jF
    exact Ic o ho e he
 have finish: ∀ (fuel:Nat) (listed:Array Bool) (a':Act) (w':World) (A':Nat→Prop) (ρ':Env),listed.size=ops.size→(∀i,i < lo→Lg listed i=true)→(∀i,lo+m≤i→i < ops.size→Lg listed i=false)→ops.size - (lo+m)≤fuel→(∀i,i < N→dc listed i=true)→
  Rel M A' ρ' (Fr (dc listed)) ⟨n,nx dst v (tmT 0) (dc listed) N,nE wr hpT (hpT 0) (dc listed) N⟩ a' w'→df M w w'→cW ρ ρ'→bJ A A' w→wpAny P .any ops Q fuel listed a' w':=by
  intro fuel listed a' w' A' ρ' hsz Ca GC Fg hall hr dJ cI hg
  refine Gu fuel listed a' w' hsz (fun i hi=>?_) Fg ⟨⟨n,tmT m,hpT m⟩,base+4 * m,A',ρ',⟨rfl,rfl⟩,?_,dJ,cI,hg⟩
  · by_cases h1:i < lo
    · rw[show listed.getD i false=true from Ca i h1];simp;omega
    · by_cases h2:i < lo+m
      · have:=hall (i - lo) (by simp only[N];omega)
        simp only[dc]at this
        rw[show lo+(i - lo)=i by omega]at this
        rw[this];simp[h2]
      · rw[show listed.getD i false=false from GC i (by omega) hi];simp;omega
  have h1:Rel M A' ρ' (Fr (dc listed)) ⟨n,tmT m,hpT m⟩ a' w':=hr.forget rfl (fun t u hu=>by
   rw[show find (⟨n,nx dst v (tmT 0) (dc listed) N,nE wr hpT (hpT 0) (dc listed) N⟩:St).tmps t=find (tmT N) t from o6 dst v (tmT 0) tmT N rfl Gl (dc listed) t N (Nat.le_refl _) hall];exact hu) (fun k b hb=>by
   rw[show find (⟨n,nx dst v (tmT 0) (dc listed) N,nE wr hpT (hpT 0) (dc listed) N⟩:St).heap k=find (hpT N) k from pM wr hpT (hpT 0) N rfl uQ (dc listed) k N (Nat.le_refl _) hall];exact hb)
  exact h1.sub (fun k hk=> .inl hk)
 have main: ∀ (c fuel:Nat) (listed:Array Bool) (a':Act) (w':World) (A':Nat→Prop) (ρ':Env),listed.size=ops.size→(∀i,i < lo→Lg listed i=true)→(∀i,lo+m≤i→i < ops.size→Lg listed i=false)→mW (dc listed) N=c→c+(ops.size - (lo+m))≤fuel→
  (∀k o,ops[k]? =some o→Lg listed k=true→ ∀e,e∈bg o→Lg listed e=true)→
  Rel M A' ρ' (Fr (dc listed)) ⟨n,nx dst v (tmT 0) (dc listed) N,nE wr hpT (hpT 0) (dc listed) N⟩ a' w'→df M w w'→cW ρ ρ'→bJ A A' w→
  wpAny P .any ops Q fuel listed a' w':=by
  intro c
  induction c with
  |zero=>
   intro fuel listed a' w' A' ρ' hsz Ca GC EF Fg dK hr dJ cI hg
   exact finish fuel listed a' w' A' ρ' hsz Ca GC (by omega) (rf EF) hr dJ cI hg
  |succ c ih=>
   intro fuel listed a' w' A' ρ' hsz Ca GC EF Fg dK hr dJ cI hg
   obtain⟨fuel,rfl⟩: ∃f,fuel=f+1:=⟨fuel - 1,by omega⟩
   have hex: ∃i,i < N∧dc listed i=false:=by
    by_cases h: ∃i,i < N∧dc listed i=false
    · exact h
    · exfalso
      have: ∀i,i < N→dc listed i=true:=fun i hi=>by cases h':dc listed i with|true=>rfl|false=>exact absurd ⟨i,hi,h'⟩ h
      have h0: ∀k,k≤N→mW (dc listed) k=0:=by
       intro k
       induction k with
       |zero=>intro _;rfl
       |succ k ihk=>intro hk;simp only[mW,ihk (by omega),this k (by omega)];rfl
      rw[h0 N (Nat.le_refl _)]at EF
      omega
   refine⟨fun AH=>?_,fun ig hi=>?_⟩
   · exfalso
     obtain⟨i,hi,hL,B5⟩:=exists_least hex
     obtain⟨o,ho⟩:=hop i hi
     have:lo+i∈Region.ready .any ops listed:=by
      rw[mem_ready]
      refine⟨?_,o,ho,fun e he hb=>?_⟩
      · simp only[dc,Array.getD_eq_getD_getElem?]at hL⊢
        have jH:lo+i < listed.size:=by have:=(Array.getElem?_eq_some_iff.1 ho).1;omega
        simpa[jH]using hL
      · have hm:e.on∈bg o:=by simp only[bg,List.mem_map,List.mem_filter];exact⟨e,⟨by simpa using he,hb⟩,rfl⟩
        have hlt:=hE (lo+i) o ho _ hm
        by_cases h1:e.on < lo
        · exact Ca _ h1
        · have:=B5 (e.on - lo) (by omega)
          simp only[dc]at this
          rw[show lo+(e.on - lo)=e.on by omega]at this
          exact this
     rw[AH]at this
     simp at this
   · rw[mem_ready]at hi
     obtain⟨h0,o,Qy,uT⟩:=hi
     have Ox:ig < ops.size:=(Array.getElem?_eq_some_iff.1 Qy).1
     have Jl:Lg listed ig=false:=by
      simp only[Lg,Array.getD_eq_getD_getElem?]at h0⊢
      have jH:ig < listed.size:=by omega
      simpa[jH]using h0
     have Ic: ∀e,e∈bg o→Lg listed e=true:=by
      intro e he
      simp only[bg,List.mem_map,List.mem_filter]at he
      obtain⟨ed,⟨h1,h2⟩,rfl⟩:=he
      exact uT ed (by simpa using h1) h2
     have hge:lo≤ig:=by
      rcases Nat.lt_or_ge ig lo with h|h
      · rw[Ca ig h]at Jl;simp at Jl
      · exact h
     have hlt:ig < lo+m:=by
      rcases Nat.lt_or_ge ig (lo+m)with h|h
      · exact h
      · exfalso
        obtain⟨i,hi,hL⟩:=hex
        have hb:=B6 ig h Ox i hi
        have:=iB Ox dK (fun o' vY=>by rw[Qy]at vY;simp only[Option.some.injEq]at vY;subst vY;exact Ic) _ hb
        simp only[dc]at hL
        rw[show Lg listed (lo+i)=false from hL]at this
        simp at this
     obtain⟨i,rfl⟩: ∃i,ig=lo+i:=⟨ig - lo,by omega⟩
     have yV:i < N:=by simp only[N];omega
     have ho:ops[lo+i]? =some o:=Qy
     have EI:dc listed i=false:=Jl
     obtain⟨hst,anF,f,hf,fd,fn,fr,fw⟩:=hstep i o yV ho
     have order: ∀j oj g,j≠i→j < N→ops[lo+j]? =some oj→fs[j]? =some g→(f.apart g=true∨g.apart f=true)∨(j < i∧dc listed j=true)∨(i < j∧dc listed j=false):=by
      intro j oj g fo hjN oO jk
      have hjS:lo+j < ops.size:=(Array.getElem?_eq_some_iff.1 oO).1
      rcases Nat.lt_or_gt_of_ne fo with hlt|hgt
      · rcases uc hok hlt jk hf with hb|hb
        · exact .inr (.inl ⟨hlt,iB Ox dK (fun o' vY=>by rw[ho]at vY;simp only[Option.some.injEq]at vY;subst vY;exact Ic) (lo+j) hb⟩)
        · exact .inl (.inr hb)
      · rcases uc hok hgt hf jk with hb|hb
        · refine .inr (.inr ⟨hgt,?_⟩)
          cases hLj:dc listed j with
          |false=>rfl
          |true=>
           have:=iB hjS dK (fun o' vY=>dK (lo+j) o' vY hLj) (lo+i) hb
           rw[Jl]at this
           simp at this
        · exact .inl (.inl hb)
     have vf: ∀j,j < N→ ∃oj g,ops[lo+j]? =some oj∧fs[j]? =some g∧g.dst=dst j∧ ∀k,k∈wr j→k∈g.wr:=by
      intro j hj
      obtain⟨oj,oO⟩:=hop j hj
      obtain⟨_,_,g,g1,g2,_,_,g5⟩:=hstep j oj hj oO
      exact⟨oj,g,oO,g1,by rw[g2,uU j oj oO],fun k hk=>g5 k (by rw[hwr j oj oO]at hk;exact hk)⟩
     have apart_spec: ∀ {f g:gV},(f.apart g=true∨g.apart f=true)→(∀t,f.dst=some t→g.dst=some t→False)∧(∀t,g.dst=some t→t∈f.nm→False)∧(∀k,k∈g.wr→k∈f.rd→False)∧(∀k,k∈g.wr→k∈f.wr→False):=by
      intro f g h
      rcases h with h|h<;>simp only[gV.apart,Bool.and_eq_true]at h<;>obtain⟨⟨⟨⟨⟨h1,h2⟩,h3⟩,h4⟩,h5⟩,h6⟩:=h
      · exact⟨fun t a b=>cM (x:=t) h3 (by simp[a]) (by simp[b]),fun t a b=>cM (x:=t) h2 (by simp[a]) b,fun k a b=>cM h5 a b,fun k a b=>cM h6 b a⟩
      · exact⟨fun t a b=>cM (x:=t) h3 (by simp[b]) (by simp[a]),fun t a b=>cM (x:=t) h1 (by simp[a]) b,fun k a b=>cM h4 a b,fun k a b=>cM h6 a b⟩
     have Cz: ∀t,t∈names ops o→find (nx dst v (tmT 0) (dc listed) N) t=find (tmT i) t:=by
      intro t ht
      rw[mq dst v (tmT 0) (dc listed) (fun j=>decide (j < i)) t N ?_,tQ dst v (tmT 0) i t N (Nat.le_of_lt yV),o6 dst v (tmT 0) tmT N rfl Gl _ t i (Nat.le_of_lt yV) (fun j hj=>by simpa using hj)]
      intro j hj yX
      by_cases fo:j=i
      · subst fo;rw[EI];simp
      · obtain⟨oj,g,oO,jk,gd,gw⟩:=vf j hj
        rcases order j oj g fo hj oO jk with hap|⟨h1,h2⟩|⟨h1,h2⟩
        · exact((apart_spec hap).2.1 t (by rw[gd,yX]) (fn t ht)).elim
        · rw[h2];simp[h1]
        · rw[h2];simp;omega
     have vP: ∀k,(k∈f.rd∨k∈f.wr)→find (nE wr hpT (hpT 0) (dc listed) N) k=find (hpT i) k:=by
      intro k hk
      rw[mL wr hpT (hpT 0) (dc listed) (fun j=>decide (j < i)) k N ?_,uP wr hpT (hpT 0) i k N (Nat.le_of_lt yV),pM wr hpT (hpT 0) N rfl uQ _ k i (Nat.le_of_lt yV) (fun j hj=>by simpa using hj)]
      intro j hj yX
      by_cases fo:j=i
      · subst fo;rw[EI];simp
      · obtain⟨oj,g,oO,jk,gd,gw⟩:=vf j hj
        rcases order j oj g fo hj oO jk with hap|⟨h1,h2⟩|⟨h1,h2⟩
        · rcases hk with hk|hk
          · exact((apart_spec hap).2.2.1 k (gw k yX) hk).elim
          · exact((apart_spec hap).2.2.2 k (gw k yX) hk).elim
        · rw[h2];simp[h1]
        · rw[h2];simp;omega
     have Gw: ∀k,k∈four (base+4 * i)→k∈f.wr:=fun k hk=>fw k (by simp only[tt,List.mem_append];exact .inl hk)
     obtain⟨mM,Oj,Ji⟩:=hst.loc (tm2:=nx dst v (tmT 0) (dc listed) N) (hp2:=nE wr hpT (hpT 0) (dc listed) N) Cz (fun k hk=>vP k (.inl (fr k hk))) (fun k hk=>vP k (.inr (Gw k hk)))
     rw[←hwr i o ho]at Ji
     refine fm.sound ho Oj hr (fun k h1 h2=> .inr ⟨i,yV,EI,h1,h2⟩) ?_
     intro a2 w2 A2 ρ2 r1 r2 r3 r4
     have Gq: ∀j,dc (listed.setIfInBounds (lo+i) true) j=if j=i then true else dc listed j:=by
      intro j
      by_cases fo:j=i
      · subst fo
        have:lo+j < listed.size:=by omega
        simp[dc,Array.getD_eq_getD_getElem?,this]
      · simp only[dc,fo,if_false]
        exact getD_set_ne false (fun e=>fo (by omega))
     have Gp: ∀k,k≠lo+i→Lg (listed.setIfInBounds (lo+i) true) k=Lg listed k:=fun k hk=>getD_set_ne false (fun e=>hk e.symm)
     have uX:dc (listed.setIfInBounds (lo+i) true) i=true:=by rw[Gq];simp
     have lW: ∀j,j≠i→dc (listed.setIfInBounds (lo+i) true) j=dc listed j:=fun j hj=>by rw[Gq,if_neg hj]
     have later: ∀j,i < j→j < N→(∀oj g,ops[lo+j]? =some oj→fs[j]? =some g→(f.apart g=true∨g.apart f=true)→False)→dc (listed.setIfInBounds (lo+i) true) j=false:=by
      intro j h1 h2 h3
      obtain⟨oj,g,oO,jk,gd,gw⟩:=vf j h2
      rw[lW j (by omega)]
      rcases order j oj g (by omega) h2 oO jk with hap|⟨h4,_⟩|⟨_,h5⟩
      · exact(h3 oj g oO jk hap).elim
      · omega
      · exact h5
     refine ih fuel (listed.setIfInBounds (lo+i) true) a2 w2 A2 ρ2 (by simpa using hsz) (fun k hk=>by rw[Gp k (by omega)];exact Ca k hk) (fun k hk hk'=>by rw[Gp k (by omega)];exact GC k hk hk') ?_ (by omega) ?_ ?_ (dJ.trans r2) (cI.trans r3) (hg.trans r4 dJ.size)
     · have:=vG (L:=dc listed) (L':=dc (listed.setIfInBounds (lo+i) true)) EI uX lW (k:=N) yV
       omega
     · intro k ok' sV EH e he
       by_cases pN:k=lo+i
       · subst pN
         rw[ho]at sV
         simp only[Option.some.injEq]at sV
         subst sV
         exact getD_set_true (Ic e he)
       · rw[Gp k pN]at EH
         exact getD_set_true (dK k ok' sV EH e he)
     · refine(Rel.forget (st':=⟨n,nx dst v (tmT 0) (dc (listed.setIfInBounds (lo+i) true)) N,nE wr hpT (hpT 0) (dc (listed.setIfInBounds (lo+i) true)) N⟩) r1 rfl (fun t u hu=>?_) (fun k b hb=>?_)).sub (fun k hk=>?_)
       · simp only[gl]
         split
         · rename_i hd
           have nW:=yd dst v (tmT 0) (dc (listed.setIfInBounds (lo+i) true)) t i (by rw[uU i o ho];exact hd) uX N yV (fun j h1 h2 h3=>later j h1 h2 (fun oj g oO jk hap=>by
            obtain⟨_,g',_,xA,gd,_⟩:=vf j h2
            rw[jk]at xA
            simp only[Option.some.injEq]at xA
            subst xA
            exact(apart_spec hap).1 t (by rw[fd];exact hd) (by rw[gd];exact h3)))
           rw[←nW];exact hu
         · rename_i hd
           rw[mq dst v (tmT 0) (dc listed) (dc (listed.setIfInBounds (lo+i) true)) t N (fun j hj yX=>by
            by_cases fo:j=i
            · subst fo;rw[uU j o ho]at yX;exact absurd yX hd
            · exact(lW j fo).symm)]
           exact hu
       · by_cases hk:k∈wr i
         · have hkw:k∈f.wr:=fw k (by rw[←hwr i o ho];exact hk)
           have nW:=yS wr hpT (hpT 0) (dc (listed.setIfInBounds (lo+i) true)) k i hk uX N yV (fun j h1 h2 h3=>later j h1 h2 (fun oj g oO jk hap=>by
            obtain⟨_,g',_,xA,_,gw⟩:=vf j h2
            rw[jk]at xA
            simp only[Option.some.injEq]at xA
            subst xA
            exact(apart_spec hap).2.2.2 k (gw k h3) hkw))
           rw[Ji.1 k hk, ←nW];exact hb
         · rw[(Ji.2 k hk).2,mL wr hpT (hpT 0) (dc listed) (dc (listed.setIfInBounds (lo+i) true)) k N (fun j hj yX=>by
            by_cases fo:j=i
            · subst fo;exact absurd yX hk
            · exact(lW j fo).symm)]
           exact hb
       · refine⟨?_,?_⟩
         · rcases hk with hk|⟨j,h1,h2,h3⟩
           · exact .inl hk
           · by_cases fo:j=i
             · subst fo;rw[uX]at h2;simp at h2
             · rw[lW j fo]at h2;exact .inr ⟨j,h1,h2,h3⟩
         · rintro⟨q1,q2⟩
           rcases hk with hk|⟨j,h1,h2,h3,h4⟩
           · omega
           · by_cases fo:j=i
             · subst fo;rw[uX]at h2;simp at h2
             · omega
 intro fuel listed hsz hl Fg
 have hLf: ∀i,i < N→dc listed i=false:=by
  intro i hi
  simp only[dc]
  rw[hl (lo+i) (by simp only[N]at hi;omega)]
  simp
 have S5: ∀k,k≤N→mW (dc listed) k=k:=by
  intro k
  induction k with
  |zero=>intro _;rfl
  |succ k ih=>intro hk;simp only[mW,ih (by omega),hLf k (by omega)];simp
 refine main m fuel listed a w A ρ hsz (fun i hi=>?_) (fun i hi hi'=>?_) (S5 N (Nat.le_refl _)) (by omega) (fun k o ho EH e he=>?_) ?_ (df.refl _ _) (cW.refl _) (bJ.refl _ _)
 · show listed.getD i false=true
   rw[hl i (by omega)];simp[hi]
 · show listed.getD i false=false
   rw[hl i hi'];simp;omega
 · have hk:k < ops.size:=(Array.getElem?_eq_some_iff.1 ho).1
   have h1:k < lo:=by
    have:listed.getD k false=true:=EH
    rw[hl k hk]at this
    simpa using this
   have h2:=hE k o ho e he
   show listed.getD e false=true
   rw[hl e (by omega)];simp;omega
 · have eT: ∀k,k≤N→nx dst v (tmT 0) (dc listed) k=tmT 0:=by
    intro k
    induction k with
    |zero=>intro _;rfl
    |succ k ih=>intro hk;simp only[nx,hLf k (by omega),Bool.false_eq_true,if_false,ih (by omega)]
   have eH: ∀k,k≤N→nE wr hpT (hpT 0) (dc listed) k=hpT 0:=by
    intro k
    induction k with
    |zero=>intro _;rfl
    |succ k ih=>intro hk;simp only[nE,hLf k (by omega),Bool.false_eq_true,if_false,ih (by omega)]
   rw[eT N (Nat.le_refl _),eH N (Nat.le_refl _)]
   refine cH.sub (fun k hk=>?_)
   simp only[bC]
   rcases hk with hk|⟨j,_,_,h3,_⟩<;>omega
end Go.aU
end
section
namespace Go.aU
open Go
abbrev sF (α:Type):=FuncId→List W→HS→Nat→(V→HS→Nat→α)→α
abbrev sG (α:Type):=FuncId→List W→HS→Nat→(V→HS→α)→α
section
variable {α:Type} (bad:α) (call:sF α) (dw:sG α)
def GZ (v:V) (us:List W) (k:FuncId→List W→α):α:=
 match v with
 | .w (.one (.jB f da))=>k f (us++da.map fun p=> .one (.ptr p.1 p.2.1 p.2.2.1 p.2.2.2))
 | .w (.one (.kR f true ts))=>k f (.agg (ts.map .t)::us)
 | .w (.one (.kR f false [t]))=>k f (.one (.t t)::us)
 | .w (.one (.t (.val (.func (.func f) first da))))=>gi (first.isEmpty&&da.isEmpty) (k f us) bad
 |_=>bad
def EGo (P:Program) (o:gv) (tm:Tr) (hp:HS) (ctr:Nat) (K:Tr→HS→Nat→α):α:=
 match o.op with
 | .call f args=>Nl bad (gT tm) args fun us=>call f us hp ctr fun v aH bE=>rX v fun v=>j8 tm o.dst v fun tm=>K tm aH bE
 | .fg x args=>Nl bad (gT tm) args fun us=>GZ bad (gT tm x) us fun f us=>gi (enters P f) (call f us hp ctr fun v aH bE=>rX v fun v=>j8 tm o.dst v fun tm=>K tm aH bE) bad
 | .raw op ty=>EX P bad op ty (gT tm) hp ctr fun v aH=>j8 tm o.dst v fun tm=>nq (ctr+4) fun c=>K tm aH c
 | .append size bytes s x=>match gT tm s with
   | .w (.one (.own id sz 0 len))=>match find hp id with
     |some (.row dj xs)=>gu (jM hp id (.row dj (xs.take len))) fun hp=>ER bad (.append size bytes s x) (gT tm) hp ctr fun v aH=>j8 tm o.dst v fun tm=>nq (ctr+4) fun c=>K tm aH c
     |_=>bad
   |_=>ER bad (.append size bytes s x) (gT tm) hp ctr fun v aH=>j8 tm o.dst v fun tm=>nq (ctr+4) fun c=>K tm aH c
 | .slice size x lo hi=>match gT tm x with
   | .w (.one (.t (.val (.slice none 0 0))))=>match fC (lo.map (gT tm)) 0,fC (hi.map (gT tm)) 0 with
     |some 0,some 0=>j8 tm o.dst (.w (.one (.t (.val (.slice none 0 0))))) fun tm=>nq (ctr+4) fun c=>K tm hp c
     |_,_=>bad
   |_=>ER bad (.slice size x lo hi) (gT tm) hp ctr fun v aH=>j8 tm o.dst v fun tm=>nq (ctr+4) fun c=>K tm aH c
 |r=>ER bad r (gT tm) hp ctr fun v aH=>j8 tm o.dst v fun tm=>nq (ctr+4) fun c=>K tm aH c
def EOp (P:Program) (o:gv) (tm:Tr) (hp:HS) (ctr:Nat) (K:Tr→HS→Nat→α):α:=
 match o.guard with
 |none=>EGo bad call P o tm hp ctr K
 |some (d,want)=>
  match tm.get (key d)with
  |some (.w (.one (.t (.val (.bool b)))))=>gi (b==want) (EGo bad call P o tm hp ctr K) (j8 tm o.dst (.ep []) fun tm=>K tm hp ctr)
  |some (.ep [])=>j8 tm o.dst (.ep []) fun tm=>K tm hp ctr
  |_=>bad
def J4 (P:Program):List gv→Tr→HS→Nat→(Tr→HS→Nat→α)→α
 | [],tm,hp,ctr,K=>K tm hp ctr
 |o::r,tm,hp,ctr,K=>EOp bad call P o tm hp ctr fun tm hp ctr=>J4 P r tm hp ctr K
def J5 (P:Program) (o:gv) (tm:Tr) (hp:HS) (ctr:Nat) (K:Tr→HS→Nat→α):α:=
 match o.op with
 | .call f args=>Nl bad (gT tm) args fun us=>dw f us hp ctr fun v aH=>rX v fun v=>j8 tm o.dst v fun tm=>nq (ctr+4) fun c=>K tm aH c
 | .fg x args=>Nl bad (gT tm) args fun us=>GZ bad (gT tm x) us fun f us=>gi (enters P f) (dw f us hp ctr fun v aH=>rX v fun v=>j8 tm o.dst v fun tm=>nq (ctr+4) fun c=>K tm aH c) bad
 | .raw op ty=>match aj P (fun x=>gT tm (dl x)) hp ctr (bare op ty)with
   |some (v,aH)=>rX v fun v=>j8 tm o.dst v fun tm=>nq (ctr+4) fun c=>K tm aH c
   |none=>bad
 |r=>ER bad r (gT tm) hp ctr fun v aH=>j8 tm o.dst v fun tm=>nq (ctr+4) fun c=>K tm aH c
def Dm (o:gv) (tm:Tr) (ctr:Nat):gV:=
 let rd:=if o.op.looks then o.op.ij.flatMap fun x=>(gT tm x).ids else []
 ⟨o.dst,o.op.ij.filterMap RM++(o.guard.map (·.1)).toList,rd,four ctr++if o.op.wrt then rd else []⟩
def P9 (P:Program) (o:gv) (tm:Tr) (hp:HS) (ctr:Nat) (K:Tr→HS→Nat→α):α:=
 match o.guard with
 |none=>J5 bad dw P o tm hp ctr K
 |some (d,want)=>
  match tm.get (key d)with
  |some (.w (.one (.t (.val (.bool b)))))=>gi (b==want) (J5 bad dw P o tm hp ctr K) (j8 tm o.dst (.ep []) fun tm=>nq (ctr+4) fun c=>K tm hp c)
  |some (.ep [])=>j8 tm o.dst (.ep []) fun tm=>nq (ctr+4) fun c=>K tm hp c
  |_=>bad
def Bv (P:Program):List gv→List gV→Tr→HS→Nat→(List gV→Tr→HS→Nat→α)→α
 | [],fs,tm,hp,ctr,K=>K fs tm hp ctr
 |o::r,fs,tm,hp,ctr,K=>P9 bad dw P o tm hp ctr fun bh aH bE=>Bv P r (fs++[Dm o tm ctr]) bh aH bE K
def Ax (bits:List Nat) (N j:Nat):Bool:=
 (List.range j).all (fun i=>(bits.getD j 0).testBit i)&& (List.range (N - (j+1))).all (fun d=>(bits.getD (j+1+d) 0).testBit j)
def cu (bits:List Nat) (N:Nat):Nat→List gv→List gv×List gv
 |_,[]=>([],[])
 |j,o::r=>gi (Ax bits N j) ([],o::r) (o::(cu bits N (j+1) r).1,(cu bits N (j+1) r).2)
def C9 (bits:List Nat) (lo m N:Nat):Bool:=
 (List.range (N - (lo+m))).all fun d=>(List.range m).all fun i=>(bits.getD (lo+m+d) 0).testBit (lo+i)
def vX (P:Program) (bits:List Nat) (N:Nat):Nat→Nat→List gv→Tr→HS→Nat→(Tr→HS→Nat→α)→α
 |0,_,_,_,_,_,_=>bad
 |f+1,lo,ops,tm,hp,ctr,K=>
  Bv bad dw P (cu bits N lo ops).1 [] tm hp ctr fun fs tm hp ctr=>
   gi (C3 bits lo fs&&C9 bits lo (cu bits N lo ops).1.length N)
    (match(cu bits N lo ops).2 with
    | []=>K tm hp ctr
    |o::r=>EOp bad call P o tm hp ctr fun tm hp ctr=>vX P bits N f (lo+(cu bits N lo ops).1.length+1) r tm hp ctr K) bad
def G4 (K:Tr→HS→Nat→α) (Q:Exit→Tr→HS→Nat→α):Exit→Tr→HS→Nat→α
 | .normal=>K
 |e=>Q e
def Hi (id:Nat) (Q:Exit→Tr→HS→Nat→α):Exit→Tr→HS→Nat→α
 | .exit id'=>gi (Nat.beq id' id) (Q .normal) (Q (.exit id'))
 |e=>Q e
def A4 (body:(Tr→HS→Nat→α)→Tr→HS→Nat→α):Nat→Tr→HS→Nat→α
 |0=>fun _ _ _=>bad
 |n+1=>body (A4 body n)
def E (P:Program) (fuel:Nat):Rc→(Exit→Tr→HS→Nat→α)→Tr→HS→Nat→α
 | .skip,Q,tm,hp,ctr=>Q .normal tm hp ctr
 | .ret,Q,tm,hp,ctr=>Q .ret tm hp ctr
 | .exit id,Q,tm,hp,ctr=>Q (.exit id) tm hp ctr
 | .seq a b,Q,tm,hp,ctr=>E P fuel a (G4 (E P fuel b Q) Q) tm hp ctr
 | .cond c a b,Q,tm,hp,ctr=>
   match(gT tm c).gp with
   |some v=>gi v (E P fuel a Q tm hp ctr) (E P fuel b Q tm hp ctr)
   |none=>bad
 | .block id b,Q,tm,hp,ctr=>E P fuel b (Hi id Q) tm hp ctr
 | .loop b,Q,tm,hp,ctr=>A4 bad (fun self=>E P fuel b (G4 self Q)) fuel tm hp ctr
 | .region ops,Q,tm,hp,ctr=>J4 bad call P ops tm hp ctr (Q .normal)
 | .draw ops es,Q,tm,hp,ctr=>vX bad call dw P (ko es []) ops.length (ops.length+1) 0 ops tm hp ctr (Q .normal)
end
def gf (n:Nat):Rc→Bool
 | .seq a b=>gf n a&&gf n b
 | .cond _ a b=>gf n a&&gf n b
 | .block _ b=>gf n b
 | .loop b=>gf n b
 | .region ops=>ops.all fun o=>gn n o.dst
 | .draw ops _=>ops.all fun o=>gn n o.dst
 |_=>true
variable {P:Program} {M A:Nat→Prop} {ρ:Env} {F:Nat→Prop} {st:St} {a:Act} {w:World}
def At (M A:Nat→Prop) (ρ:Env) (w:World) (n:Nat) (tm:Tr) (hp:HS) (ctr:Nat) (a':Act) (w':World):Prop:=
 ∃L A' ρ',eB tm L∧Rel M A' ρ' (bC ctr) ⟨n,L,hp⟩ a' w'∧df M w w'∧cW ρ ρ'∧bJ A A' w
theorem At.trans {A1:Nat→Prop} {ρ1:Env} {w1 w':World} {n:Nat} {tm:Tr} {hp:HS} {ctr:Nat} {a':Act} (h:At M A1 ρ1 w1 n tm hp ctr a' w') (dJ:df M w w1) (cI:cW ρ ρ1) (hg:bJ A A1 w):At M A ρ w n tm hp ctr a' w':=by
 obtain⟨L,A',ρ',h1,h2,h3,h4,h5⟩:=h
 exact⟨L,A',ρ',h1,h2,dJ.trans h3,cI.trans h4,hg.trans h5 dJ.size⟩
theorem At.here {n:Nat} {L:TS} {tm:Tr} {hp:HS} {ctr:Nat} (ht:eB tm L) (h:Rel M A ρ (bC ctr) ⟨n,L,hp⟩ a w):At M A ρ w n tm hp ctr a w:=
 ⟨L,A,ρ,ht,h,df.refl _ _,cW.refl _,bJ.refl _ _⟩
def QM (P:Program) (n:Nat) (c:Code) (tm:Tr) (hp:HS) (ctr:Nat) (e:Exit) (bh:Tr) (aH:HS) (bE:Nat):Prop:=
 ∀ (M A:Nat→Prop) (ρ:Env) (a:Act) (w:World) (L:TS),eB tm L→Rel M A ρ (bC ctr) ⟨n,L,hp⟩ a w→
  c.wp P (fun e2 a' w'=>e2=e∧At M A ρ w n bh aH bE a' w') a w
def nc (P:Program) (call:sF Bool):Prop:= ∀f us hp ctr K,call f us hp ctr K=true→ ∃v aH bE,fQ P f us hp ctr v aH bE∧K v aH bE=true
def j5 (P:Program) (dw:sG Bool):Prop:= ∀f us hp ctr K,dw f us hp ctr K=true→ ∃v aH,ej P hp ctr f us v aH∧K v aH=true
def gU (ops:Array Oper) (o:Oper) (g:Option (Nat×Bool)):Prop:=
 (o.guard=none∧g=none)∨ ∃j want d,o.guard=some (j,want)∧(ops[j]?).bind (·.dst)=some d∧g=some (d,want)
def vR (P:Program) (n:Nat) (ops:Array Oper) (i:Nat) (tm:Tr) (hp:HS) (ctr:Nat) (bh:Tr) (aH:HS) (bE:Nat):Prop:=
 ∀ (M A:Nat→Prop) (ρ:Env) (a:Act) (w:World) (L:TS) (Q:Exit→Act→World→Prop) (K':Act→World→Prop),eB tm L→Rel M A ρ (bC ctr) ⟨n,L,hp⟩ a w→
  (∀a' w',At M A ρ w n bh aH bE a' w'→K' a' w')→wpOp P ops Q i K' a w
def qe (P:Program) (n:Nat) (ops:Array Oper) (o:Oper) (tm:Tr) (hp:HS) (ctr:Nat) (v:V) (aH:HS):Prop:=
 ∀L,eB tm L→fm P ops o n L hp ctr v aH
theorem qe.run {n:Nat} {ops:Array Oper} {o:Oper} {i:Nat} {tm:Tr} {hp aH:HS} {ctr:Nat} {v:V} (hi:ops[i]? =some o) (h:qe P n ops o tm hp ctr v aH):
 vR P n ops i tm hp ctr (tY tm o.dst v) aH (ctr+4):=by
 intro M A ρ a w L Q K' hL hr hk
 refine fm.sound hi (h L hL) hr (fun k h1 _=>h1) ?_
 intro a' w' A' ρ' r1 r2 r3 r4
 exact hk a' w' ⟨_,A',ρ',hL.put o.dst v,r1.sub gD,r2,r3,r4⟩
theorem tS {n:Nat} {ops:Array Oper} {o:Oper} {g:Option (Nat×Bool)} {tm:Tr} {hp:HS} {ctr:Nat} (hd:gn n o.dst=true) (hgd:gU ops o g)
 (hg: ∃d want,g=some (d,want)∧((∃b,tm.get (key d)=some (bV b)∧(b==want)=false)∨tm.get (key d)=some (.ep []))):qe P n ops o tm hp ctr (.ep []) hp:=by
 intro L hL
 obtain⟨d,want,rfl,hg⟩:=hg
 rcases hgd with⟨_,h⟩|⟨j,want',d',h1,h2,h3⟩
 · simp at h
 · simp only[Option.some.injEq,Prod.mk.injEq]at h3
   obtain⟨rfl,rfl⟩:=h3
   refine⟨hd,?_⟩
   rcases hg with⟨b,hb,hne⟩|hb
   · rw[←hL d]at hb
     simp only[aY,h1,h2,hb,hne]
     exact⟨trivial,trivial⟩
   · rw[←hL d]at hb
     simp only[aY,h1,h2,hb]
     exact⟨trivial,trivial⟩
theorem guard_true {ops:Array Oper} {o:Oper} {g:Option (Nat×Bool)} {tm:Tr} {L:TS} (hL:eB tm L) (hgd:gU ops o g)
 (hg:g=none∨ ∃d want b,g=some (d,want)∧tm.get (key d)=some (bV b)∧(b==want)=true):aY ops o L=some true:=by
 rcases hgd with⟨h0,rfl⟩|⟨j,want,d,h1,h2,rfl⟩
 · simp[aY,h0]
 · rcases hg with h|⟨d',want',b,h3,h4,h5⟩
   · simp at h
   · simp only[Option.some.injEq,Prod.mk.injEq]at h3
     obtain⟨rfl,rfl⟩:=h3
     rw[←hL d]at h4
     simp only[aY,h1,h2,h4,h5]
theorem DO {n:Nat} {ops:Array Oper} {o:Oper} {x:Ro} {g:Option (Nat×Bool)} {tm:Tr} {hp:HS} {ctr:Nat} {K:V→HS→Bool} (hx:bk P o=some x) (hd:gn n o.dst=true)
 (hgd:gU ops o g) (hg:g=none∨ ∃d want b,g=some (d,want)∧tm.get (key d)=some (bV b)∧(b==want)=true)
 (hE: ∃L,eB tm L) (h:ER false x (gT tm) hp ctr K=true): ∃v aH,qe P n ops o tm hp ctr v aH∧K v aH=true:=by
 obtain⟨L0,uW⟩:=hE
 rw[kN uW]at h
 obtain⟨h1,v,aH,h2,h3⟩:=vQ (st:=⟨n,L0,hp⟩) hx (agX h)
 refine⟨v,aH,fun L hL=>⟨hd,?_⟩,h3⟩
 rw[guard_true hL hgd hg]
 have B8: ∀y,St.get ⟨n,L,hp⟩ y=St.get ⟨n,L0,hp⟩ y:=by
  intro y
  cases y with
  |tmp t=>simp only[St.get];rw[hL t,uW t]
  |_=>rfl
 have c1:bO (St.get ⟨n,L,hp⟩) o=none:=by rw[pY (get':=St.get ⟨n,L0,hp⟩) (fun y _=>B8 y)];exact h1
 simp only[c1]
 rw[pQ (get':=St.get ⟨n,L0,hp⟩) (fun y _=>B8 y)]
 exact h2
def Tr.toL:Tr→(Pn→Pn)→List (Nat×V)
 | .nil,_=>[]
 | .node v l r,f=>(match v with|some x=>[((f .e).dec,x)]|none=>[])++l.toL (fun p=>f (.o p))++r.toL (fun p=>f (.i p))
theorem pV: ∀ {p q:Pn},p.dec=q.dec→p=q
 | .e, .e,_=>rfl
 | .e, .o _,h=>by simp[Pn.dec]at h
 | .e, .i _,h=>by simp[Pn.dec]at h
 | .o _, .e,h=>by simp[Pn.dec]at h
 | .i _, .e,h=>by simp[Pn.dec]at h
 | .o p, .o q,h=>by simp only[Pn.dec]at h;rw[pV (p:=p) (q:=q) (by omega)]
 | .i p, .i q,h=>by simp only[Pn.dec]at h;rw[pV (p:=p) (q:=q) (by omega)]
 | .o p, .i q,h=>by simp only[Pn.dec]at h;omega
 | .i p, .o q,h=>by simp only[Pn.dec]at h;omega
theorem jd {β:Type}: ∀ {l:List (Nat×β)} {t:Nat},(∀p,p∈l→p.1≠t)→find l t=none
 | [],t,_=>rfl
 |(k,v)::r,t,h=>by
  rw[av,if_neg (h (k,v) (by simp))]
  exact jd fun p hp=>h p (by simp[hp])
theorem toL_keys: ∀ (tr:Tr) (f:Pn→Pn) (p:Nat×V),p∈tr.toL f→ ∃q,p.1=(f q).dec
 | .nil,f,p,h=>by simp[Tr.toL]at h
 | .node v l r,f,p,h=>by
   simp only[Tr.toL,List.mem_append]at h
   rcases h with(h|h)|h
   · cases v with
     |none=>simp at h
     |some x=>simp only[List.mem_singleton]at h;subst h;exact⟨.e,rfl⟩
   · obtain⟨q,hq⟩:=toL_keys l _ p h;exact⟨.o q,hq⟩
   · obtain⟨q,hq⟩:=toL_keys r _ p h;exact⟨.i q,hq⟩
theorem vj: ∀ (tr:Tr) (f:Pn→Pn) (hf: ∀p q,f p=f q→p=q) (q:Pn),find (tr.toL f) (f q).dec=tr.get q
 | .nil,f,hf,q=>by rw[Tr.tC];rfl
 | .node v l r,f,hf,q=>by
   have hl:=vj l (fun p=>f (.o p)) (fun p q h=>by have:=hf _ _ h;simpa using this)
   have hr:=vj r (fun p=>f (.i p)) (fun p q h=>by have:=hf _ _ h;simpa using this)
   have nl: ∀q,(∀q',Pn.o q'≠q)→find (l.toL fun p=>f (.o p)) (f q).dec=none:=by
    intro q hq
    refine jd fun p hp he=>?_
    obtain⟨q',De⟩:=toL_keys l _ p hp
    rw[De]at he
    exact hq q' (hf _ _ (pV he))
   have nr: ∀q,(∀q',Pn.i q'≠q)→find (r.toL fun p=>f (.i p)) (f q).dec=none:=by
    intro q hq
    refine jd fun p hp he=>?_
    obtain⟨q',De⟩:=toL_keys r _ p hp
    rw[De]at he
    exact hq q' (hf _ _ (pV he))
   have nv: ∀q,q≠ .e→find (match v with|some x=>[((f .e).dec,x)]|none=>[]) (f q).dec=none:=by
    intro q hq
    refine jd fun p hp he=>?_
    cases v with
    |none=>simp at hp
    |some x=>
     simp only[List.mem_singleton]at hp
     subst hp
     exact hq (hf _ _ (pV he)).symm
   simp only[Tr.toL,cO]
   cases q with
   |e=>
    rw[nl .e (by simp),nr .e (by simp)]
    cases v with
    |none=>simp[find,Tr.get]
    |some x=>simp[find,Tr.get]
   |o q=>
    rw[nv (.o q) (by simp),nr (.o q) (by simp),hl q]
    simp[Tr.get]
   |i q=>
    rw[nv (.i q) (by simp),nl (.i q) (by simp),hr q]
    simp[Tr.get]
theorem CS (tr:Tr): ∃L,eB tr L:=by
 refine⟨tr.toL id,fun t=>?_⟩
 have h1:t=(id (key t)).dec:=by
  simp only[id]
  unfold key
  exact(pJ t t (Nat.le_refl _)).symm
 have h2:=vj tr id (fun _ _ h=>h) (key t)
 rw[←h1]at h2
 exact h2
variable {call:sF Bool} {dw:sG Bool}
theorem ud {o:Oper} {size:Nat} {x:dP} {lo hi:Option dP} (h:aK P o=some (.slice size x lo hi)):
 ∃t x' lo' hi' e,o.op= .slice t x' lo' hi' none∧P.underlying t=some (.slice e)∧cN P e=some size∧x=dl x'∧lo=lo'.map dl∧hi=hi'.map dl:=by
 obtain⟨dst,op,ty,pos,after,guard⟩:=o
 cases op
 case slice t x' lo' hi' mx=>
  cases mx with
  |some m=>simp[aK]at h
  |none=>
   simp only[aK]at h
   split at h
   · rename_i e hu
     simp only[Option.map_eq_some_iff,Ro.slice.injEq]at h
     obtain⟨s,hs,rfl,rfl,rfl,rfl⟩:=h
     exact⟨t,x',lo',hi',e,rfl,hu,hs,rfl,rfl,rfl⟩
   · simp at h
 all_goals
  exfalso
  simp only[aK]at h
  repeat' split at h
  all_goals first|(simp at h;done)|simp_all
theorem wi {o:Oper} {size:Nat} {x:dP} {lo hi:Option dP} (h:bk P o=some (.slice size x lo hi)):
 ∃t x' lo' hi' e,o.op= .slice t x' lo' hi' none∧P.underlying t=some (.slice e)∧cN P e=some size∧x=dl x'∧lo=lo'.map dl∧hi=hi'.map dl:=by
 unfold bk at h
 split at h
 · rename_i r hr
   replace hr:=dG hr
   simp only[Option.some.injEq]at h
   subst h
   exact ud hr
 · simp only[Option.some.injEq]at h
   rcases kA o with⟨t,fk,ic,ho,e⟩|e
   · rw[e]at h;simp at h
   · rw[e]at h;simp at h
theorem AX {get:Operand→V} {o:Oper} {p:FuncId×List W} {hp:HS} {nid:Nat} {r:V×HS} (hc:bO get o=some p) (he:aj P get hp nid o=some r):False:=by
 obtain⟨dst,op,ty,pos,after,guard⟩:=o
 unfold bO at hc
 simp only at hc
 split at hc
 · simp[aj]at he
 · simp at hc
theorem Ht {tm:Tr} {L:TS} {n:Nat} {hp:HS} (hL:eB tm L) (hr:Rel M A ρ F ⟨n,L,hp⟩ a w) {lo:Option Operand} (h:fC ((lo.map dl).map (gT tm)) 0=some 0):lo.map a.eval=none∨ ∃k,lo.map a.eval=some (.int k 0):=by
 cases lo with
 |none=>exact .inl rfl
 |some x=>
  right
  simp only[Option.map_some,fC]at h
  split at h
  · rename_i k m hm
    split at h
    · rename_i h0
      simp only[Option.some.injEq]at h
      have:m=0:=by omega
      subst this
      exact⟨k,by rw[Option.map_some,V.ix hm (RV.at hL hr x)]⟩
    · simp at h
  · simp at h
theorem yL {n:Nat} {o:Oper} {size:Nat} {x:dP} {lo hi:Option dP} {tm:Tr} {hp:HS} {ctr:Nat} (hx:bk P o=some (.slice size x lo hi)) (hy:gT tm x= .w (.one (.t (.val (.slice none 0 0)))))
 (hlo:fC (lo.map (gT tm)) 0=some 0) (hhi:fC (hi.map (gT tm)) 0=some 0):CA P n o tm hp ctr (.w (.one (.t (.val (.slice none 0 0))))) hp:=by
 obtain⟨t,x',lo',hi',e,ho,hu,hs,rfl,rfl,rfl⟩:=wi hx
 intro M A ρ a w L hL hr
 have vx:=RV.at hL hr x'
 rw[hy]at vx
 have hv:a.eval x'= .slice none 0 0:=V.bA (v:= .slice none 0 0) rfl vx
 have hrun:(execOp a.eval o).run P w= .ok (.value (.slice none 0 0)) w:=by
  rw[←sj,ho]
  rcases Ht hL hr hlo with h1|⟨k1,h1⟩<;>rcases Ht hL hr hhi with h2|⟨k2,h2⟩<;>
   simp[execOp,Instr.sliceAt,Instr.slice,hv,h1,h2,run_underlying hu,Instr.sliceBounds,Instr.sliceBound,asIntOf,run_sizeOf hs]
 exact⟨_,w,A,ρ, .inl hrun,hr.sub cP,RV.ofValue w A ρ (.slice none 0 0),df.refl _ _,cW.refl _,bJ.refl _ _⟩
theorem vH {n:Nat} {ops:Array Oper} {o:Oper} {i:Nat} {f:FuncId} {g:Option (Nat×Bool)} {tm:Tr} {hp aH:HS} {ctr bE:Nat} {us:List W} {v:V}
 (hi:ops[i]? =some o) (mN:enters P f=true) (hd:gn n o.dst=true) (hgd:gU ops o g) (hg:g=none∨ ∃d want b,g=some (d,want)∧tm.get (key d)=some (bV b)∧(b==want)=true)
 (wE: ∀L,eB tm L→bO (St.get ⟨n,L,hp⟩) o=some (f,us)) (hc:fQ P f us hp ctr v aH bE):vR P n ops i tm hp ctr (tY tm o.dst v) aH bE:=by
 intro M A ρ a w L Q K' hL hr hk
 have hgt:=guard_true hL hgd hg
 have Gk:=cZ hr hgt
 obtain⟨xs,hxs,hxr⟩:=lM (P:=P) hr (wE L hL) mN
 unfold wpOp
 simp only[hi,Gk,if_true]
 refine .inl ?_
 simp only[Oper.wp,hxs,Oper.upon]
 refine(hc M A ρ a w n L xs hr hxr).mono ?_
 rintro e w' ⟨x,A',ρ',rfl,r1,r2,r3,r4,r5⟩
 refine hk _ _ ⟨_,A',ρ',hL.put o.dst v,?_,r3,r4,r5⟩
 have:=r1.put (dst:=o.dst) r2 (jz hd)
 rw[kB]at this
 exact this
theorem C4 {n:Nat} {ops:Array Oper} {o:Oper} {i:Nat} {g:Option (Nat×Bool)} {tm:Tr} {hp aH:HS} {ctr:Nat} {v:V}
 (hi:ops[i]? =some o) (hd:gn n o.dst=true) (hgd:gU ops o g) (hg:g=none∨ ∃d want b,g=some (d,want)∧tm.get (key d)=some (bV b)∧(b==want)=true)
 (h:CA P n o tm hp ctr v aH):vR P n ops i tm hp ctr (tY tm o.dst v) aH (ctr+4):=by
 intro M A ρ a w L Q K' hL hr hk
 have hgt:=guard_true hL hgd hg
 have Gk:=cZ hr hgt
 obtain⟨x,w',A',ρ',hrun,r1,r2,r3,r4,r5⟩:=h M A ρ a w L hL hr
 unfold wpOp
 simp only[hi,Gk,if_true]
 refine .inl ?_
 have fin: ∀ {y:Value},RV w' A' ρ' v y→Rel M A' ρ' (bC (ctr+4)) ⟨n,eJ L o.dst v,aH⟩ (a.put o.dst y) w':=by
  intro y hy
  have:=r1.put (dst:=o.dst) hy (jz hd)
  rw[kB]at this
  exact this
 rcases hrun with hrun|⟨hrun,rfl⟩
 · simp only[Oper.wp,hrun,Oper.upon]
   exact hk _ _ ⟨_,A',ρ',hL.put o.dst v,fin r2,r3,r4,r5⟩
 · simp only[Oper.wp,hrun,Oper.upon]
   exact hk _ _ ⟨_,A',ρ',hL.put o.dst v,fin r2,r3,r4,r5⟩
theorem zS {tm:Tr} {L L0:TS} (hL:eB tm L) (uW:eB tm L0) (l:List dP):CO L l=CO L0 l:=by
 have:(fun x=>dP.get L x)=fun x=>dP.get L0 x:=by rw[←kN hL, ←kN uW]
 induction l with
 |nil=>rfl
 |cons y r ih=>simp only[CO,ih,congrFun this y]
theorem sA {n:Nat} {o:Oper} {f:FuncId} {args:List dP} {tm:Tr} {L0:TS} {hp:HS} {us:List W} (hx:bk P o=some (.call f args)) (uW:eB tm L0) (fZ:CO L0 args=some us):
 enters P f=true∧ ∀L,eB tm L→bO (St.get ⟨n,L,hp⟩) o=some (f,us):=by
 obtain⟨fk,ic,ho,rfl,mN⟩:=lq hx
 refine⟨mN,fun L hL=>?_⟩
 have hw2:oo (St.get ⟨n,L,hp⟩) fk.toList=some us:=by rw[←om, ←fZ];exact zS hL uW _
 unfold bO
 rw[ho]
 simp only[St.get,V.ofValue,hw2]
 rfl
theorem Cg {v:V} {us:List W} {k:FuncId→List W→Bool} (h:GZ false v us k=true): ∃f fp,k f fp=true∧
 ∀ {get:Operand→V} {o:Oper} {t:Nat} {args:Array Operand} {ic:Array TypeId},o.op= .call ⟨.value (.tmp t),args,ic⟩→get (.tmp t)=v→oo get args.toList=some us→bO get o=some (f,fp):=by
 unfold GZ at h
 split at h
 · exact⟨_,_,h,fun ho hv fZ=>by unfold bO;rw[ho];simp only[hv,fZ]⟩
 · exact⟨_,_,h,fun ho hv fZ=>by unfold bO;rw[ho];simp only[hv,fZ,mD,Option.map_some]⟩
 · exact⟨_,_,h,fun ho hv fZ=>by unfold bO;rw[ho];simp only[hv,fZ,mD,Option.map_some]⟩
 · obtain⟨hc,h⟩:=bu h
   exact⟨_,_,h,fun ho hv fZ=>by unfold bO;rw[ho];simp only[hv,fZ,hc,if_true]⟩
 · simp at h
theorem pZ {n:Nat} {o:Oper} {x:dP} {args:List dP} {tm:Tr} {L0:TS} {hp:HS} {us:List W} {k:FuncId→List W→Bool} (hx:bk P o=some (.fg x args)) (uW:eB tm L0) (fZ:CO L0 args=some us)
 (h:GZ false (gT tm x) us k=true): ∃f fp,k f fp=true∧ ∀L,eB tm L→bO (St.get ⟨n,L,hp⟩) o=some (f,fp):=by
 obtain⟨t,fk,ic,ho,rfl,rfl⟩:=j7 hx
 obtain⟨f,fp,h1,h2⟩:=Cg h
 refine⟨f,fp,h1,fun L hL=>h2 ho ?_ ?_⟩
 · rw[kN hL]
   exact(bj ⟨n,L,hp⟩ (.tmp t)).symm
 · rw[←om, ←fZ];exact zS hL uW _
theorem xU (hJ:nc P call) {n:Nat} {ops:Array Oper} {o:Oper} {i:Nat} {x:Ro} {g:Option (Nat×Bool)} {tm:Tr} {hp:HS} {ctr:Nat} {K:Tr→HS→Nat→Bool}
 (hi:ops[i]? =some o) (hx:bk P o=some x) (hd:gn n o.dst=true) (hgd:gU ops o g) (hg:g=none∨ ∃d want b,g=some (d,want)∧tm.get (key d)=some (bV b)∧(b==want)=true)
 (h:EGo false call P ⟨o.dst,g,x⟩ tm hp ctr K=true): ∃bh aH bE,vR P n ops i tm hp ctr bh aH bE∧K bh aH bE=true:=by
 obtain⟨L0,uW⟩:=CS tm
 have plain: ∀ {hp:HS},ER false x (gT tm) hp ctr (fun v aH=>j8 tm o.dst v fun tm=>nq (ctr+4) fun c=>K tm aH c)=true→ ∃bh aH bE,vR P n ops i tm hp ctr bh aH bE∧K bh aH bE=true:=by
  intro hp h
  obtain⟨v,aH,hs,hK⟩:=DO hx hd hgd hg ⟨L0,uW⟩ h
  rw[gJ,dB]at hK
  exact⟨_,_,_,hs.run hi,hK⟩
 unfold EGo at h
 split at h
 · rename_i f args kI
   simp only at kI
   subst kI
   rw[kN uW]at h
   obtain⟨us,fZ,h⟩:=tJ h
   obtain⟨v,aH,bE,hc,h⟩:=hJ _ _ _ _ _ h
   rw[dO,gJ]at h
   obtain⟨mN,wE⟩:=sA (n:=n) (hp:=hp) hx uW fZ
   exact⟨_,_,_,vH hi mN hd hgd hg wE hc,h⟩
 · rename_i y args kI
   simp only at kI
   subst kI
   have h':=h
   rw[kN uW]at h'
   obtain⟨us,fZ,h'⟩:=tJ h'
   rw[←kN uW]at h'
   obtain⟨f,fp,h1,wE⟩:=pZ (n:=n) (hp:=hp) hx uW fZ h'
   obtain⟨mN,h1⟩:=bu h1
   obtain⟨v,aH,bE,hc,h1⟩:=hJ _ _ _ _ _ h1
   rw[dO,gJ]at h1
   exact⟨_,_,_,vH hi mN hd hgd hg wE hc,h1⟩
 · rename_i op ty kI
   simp only at kI
   subst kI
   obtain⟨rfl,rfl⟩:=jP hx
   obtain⟨v,aH,h1,h2⟩:=HK (n:=n) h
   rw[gJ,dB]at h2
   exact⟨_,_,_,C4 hi hd hgd hg h1,h2⟩
 · rename_i size bytes s y kI
   simp only at kI
   subst kI
   split at h
   · rename_i id sz len hs
     split at h
     · rename_i dj xs hf
       rw[cD]at h
       obtain⟨bh,aH,bE,h1,h2⟩:=plain h
       refine⟨bh,aH,bE,?_,h2⟩
       intro M A ρ a w L Q K' hL hr hk
       exact h1 M A ρ a w L Q K' hL (Rel.Rj (st:=⟨n,L,hp⟩) hr hf len) hk
     · simp at h
   · exact plain h
 · rename_i size y lo hi' kI
   simp only at kI
   subst kI
   split at h
   · rename_i hy
     split at h
     · rename_i hlo hhi
       rw[gJ,dB]at h
       refine⟨_,_,_,C4 hi hd hgd hg ?_,h⟩
       exact yL hx hy hlo hhi
     · simp at h
   · exact plain h
 · exact plain h
theorem xT (hJ:nc P call) {n:Nat} {ops:Array Oper} {o:Oper} {i:Nat} {x:Ro} {g:Option (Nat×Bool)} {tm:Tr} {hp:HS} {ctr:Nat} {K:Tr→HS→Nat→Bool}
 (hi:ops[i]? =some o) (hx:bk P o=some x) (hd:gn n o.dst=true) (hgd:gU ops o g)
 (h:EOp false call P ⟨o.dst,g,x⟩ tm hp ctr K=true): ∃bh aH bE,vR P n ops i tm hp ctr bh aH bE∧K bh aH bE=true:=by
 unfold EOp at h
 have skip:(∃d want,g=some (d,want)∧((∃b,tm.get (key d)=some (bV b)∧(b==want)=false)∨tm.get (key d)=some (.ep [])))→(j8 tm o.dst (.ep []) fun tm=>K tm hp ctr)=true→
  ∃bh aH bE,vR P n ops i tm hp ctr bh aH bE∧K bh aH bE=true:=by
  intro hg h
  rw[gJ]at h
  have hs:qe P n ops o tm hp ctr (.ep []) hp:=tS hd hgd hg
  refine⟨_,_,_,?_,h⟩
  intro M A ρ a w L Q K' hL hr hk
  have hst:=hs L hL
  unfold wpOp
  simp only[hi]
  obtain⟨d,want,rfl,hgg⟩:=hg
  have hgf:aY ops o L=some false:=by
   rcases hgd with⟨_,h0⟩|⟨j,want',d',h1,h2,h3⟩
   · simp at h0
   · simp only[Option.some.injEq,Prod.mk.injEq]at h3
     obtain⟨rfl,rfl⟩:=h3
     rcases hgg with⟨b,hb,hne⟩|hb
     · rw[←hL d]at hb
       simp only[aY,h1,h2,hb,hne]
     · rw[←hL d]at hb
       simp only[aY,h1,h2,hb]
  have:=cZ hr hgf
  simp only[this,Bool.false_eq_true,if_false]
  refine hk _ _ ⟨_,A,ρ,hL.put o.dst (.ep []),?_,df.refl _ _,cW.refl _,bJ.refl _ _⟩
  have:=hr.put (dst:=o.dst) qn (jz hd)
  rw[kB]at this
  exact this
 split at h
 · rename_i SZ
   simp only at SZ
   exact xU hJ hi hx hd hgd (.inl SZ) h
 · rename_i d want Jd
   simp only at Jd
   split at h
   · rename_i b hb
     cases Jh:(b==want)with
     |true=>
      rw[Jh]at h
      exact xU hJ hi hx hd hgd (.inr ⟨d,want,b,Jd,hb,Jh⟩) h
     |false=>
      rw[Jh]at h
      exact skip ⟨d,want,Jd, .inl ⟨b,hb,Jh⟩⟩ h
   · rename_i hb
     exact skip ⟨d,want,Jd, .inr hb⟩ h
   · simp at h
theorem jv {ops:Array Oper} {o:Oper} {x:Ro} {l' rs:List gv}
 (eP:(match o.guard with
   |none=>some (⟨o.dst,none,x⟩::l')
   |some (j,want)=>
    match(ops[j]?).bind (·.dst)with
    |some d=>some (⟨o.dst,some (d,want),x⟩::l')
    |none=>none)=some rs): ∃g,rs=⟨o.dst,g,x⟩::l'∧gU ops o g:=by
 split at eP
 · rename_i hg
   simp only[Option.some.injEq]at eP
   exact⟨_,eP.symm, .inl ⟨hg,rfl⟩⟩
 · rename_i j want hg
   split at eP
   · rename_i d hd
     simp only[Option.some.injEq]at eP
     exact⟨_,eP.symm, .inr ⟨j,want,d,hg,hd,rfl⟩⟩
   · simp at eP
theorem vV (hJ:nc P call) {n:Nat} {ops:Array Oper}: ∀ {l:List Oper} {rs:List gv} {k:Nat} {tm:Tr} {hp:HS} {ctr:Nat} {K:Tr→HS→Nat→Bool},
 (∀j,ops[k+j]? =l[j]?)→aW P ops l=some rs→(rs.all fun o=>gn n o.dst)=true→J4 false call P rs tm hp ctr K=true→
 ∃bh aH bE,K bh aH bE=true∧ ∀ (M A:Nat→Prop) (ρ:Env) (a:Act) (w:World) (L:TS) (Q:Exit→Act→World→Prop),eB tm L→Rel M A ρ (bC ctr) ⟨n,L,hp⟩ a w→
  (∀a' w',At M A ρ w n bh aH bE a' w'→Q .normal a' w')→wpOps P ops Q (List.range' k l.length) a w
 | [],rs,k,tm,hp,ctr,K,hl,eP,hd,h=>by
   simp only[aW,Option.some.injEq]at eP
   subst eP
   refine⟨tm,hp,ctr,h,fun M A ρ a w L Q hL hr hq=>?_⟩
   exact hq _ _ (At.here hL hr)
 |o::l,rs,k,tm,hp,ctr,K,hl,eP,hd,h=>by
  simp only[aW]at eP
  split at eP
  · rename_i x l' hx hl'
    have hi:ops[k]? =some o:=by simpa using hl 0
    obtain⟨g,rfl,hgd⟩:=jv eP
    simp only[List.all_cons,Bool.and_eq_true]at hd
    simp only[J4]at h
    obtain⟨ny,hp1,c1,h1,h2⟩:=xT (n:=n) hJ hi hx hd.1 hgd h
    obtain⟨tm2,hp2,c2,h3,h4⟩:=vV hJ (k:=k+1) (fun j=>by have:=hl (j+1);rw[show k+1+j=k+(j+1) by omega,this];simp) hl' hd.2 h2
    refine⟨tm2,hp2,c2,h3,fun M A ρ a w L Q hL hr hq=>?_⟩
    rw[List.length_cons,List.range'_succ,wpOps_cons]
    refine h1 M A ρ a w L Q _ hL hr fun a' w' sW=>?_
    obtain⟨L1,A1,ρ1,q1,q2,q3,q4,q5⟩:=sW
    exact h4 M A1 ρ1 a' w' L1 Q q1 q2 fun a2 w2 OD=>hq _ _ (OD.trans q3 q4 q5)
  · simp at eP
theorem GY {tm:Tr} {L:TS} (hL:eB tm L) (o:gv) (ctr:Nat):Dm o tm ctr=dD o L ctr:=by
 unfold Dm dD
 rw[kN hL]
theorem vW (iR:j5 P dw) {n:Nat} {ops:Array Oper} {o:Oper} {x:Ro} {g:Option (Nat×Bool)} {tm:Tr} {hp:HS} {ctr:Nat} {K:Tr→HS→Nat→Bool}
 (hx:bk P o=some x) (hd:gn n o.dst=true) (hgd:gU ops o g) (hg:g=none∨ ∃d want b,g=some (d,want)∧tm.get (key d)=some (bV b)∧(b==want)=true)
 (h:J5 false dw P ⟨o.dst,g,x⟩ tm hp ctr K=true): ∃v aH,qe P n ops o tm hp ctr v aH∧K (tY tm o.dst v) aH (ctr+4)=true:=by
 obtain⟨L0,uW⟩:=CS tm
 unfold J5 at h
 split at h
 · rename_i f args kI
   simp only at kI
   subst kI
   rw[kN uW]at h
   obtain⟨us,fZ,h⟩:=tJ h
   obtain⟨v,aH,hc,h⟩:=iR _ _ _ _ _ h
   rw[dO,gJ,dB]at h
   obtain⟨mN,wE⟩:=sA (n:=n) (hp:=hp) hx uW fZ
   refine⟨v,aH,fun L hL=>⟨hd,?_⟩,h⟩
   rw[guard_true hL hgd hg]
   simp only[wE L hL]
   exact⟨mN,hc⟩
 · rename_i y args kI
   simp only at kI
   subst kI
   have h':=h
   rw[kN uW]at h'
   obtain⟨us,fZ,h'⟩:=tJ h'
   rw[←kN uW]at h'
   obtain⟨f,fp,h1,wE⟩:=pZ (n:=n) (hp:=hp) hx uW fZ h'
   obtain⟨mN,h1⟩:=bu h1
   obtain⟨v,aH,hc,h1⟩:=iR _ _ _ _ _ h1
   rw[dO,gJ,dB]at h1
   refine⟨v,aH,fun L hL=>⟨hd,?_⟩,h1⟩
   rw[guard_true hL hgd hg]
   simp only[wE L hL]
   exact⟨mN,hc⟩
 · rename_i op ty kI
   simp only at kI
   subst kI
   obtain⟨rfl,rfl⟩:=jP hx
   split at h
   · rename_i v aH he
     rw[dO,gJ,dB]at h
     refine⟨v,aH,fun L hL=>⟨hd,?_⟩,h⟩
     rw[guard_true hL hgd hg]
     rw[sk,get_eq hL n hp]at he
     have hno:bO (St.get ⟨n,L,hp⟩) o=none:=by
      cases hc:bO (St.get ⟨n,L,hp⟩) o with
      |none=>rfl
      |some p=>
       exfalso
       exact AX hc he
     simp only[hno]
     exact he
   · simp at h
 · obtain⟨v,aH,hs,hK⟩:=DO (n:=n) hx hd hgd hg ⟨L0,uW⟩ h
   rw[gJ,dB]at hK
   exact⟨_,_,hs,hK⟩
theorem CJ (iR:j5 P dw) {n:Nat} {ops:Array Oper} {o:Oper} {x:Ro} {g:Option (Nat×Bool)} {tm:Tr} {hp:HS} {ctr:Nat} {K:Tr→HS→Nat→Bool}
 (hx:bk P o=some x) (hd:gn n o.dst=true) (hgd:gU ops o g)
 (h:P9 false dw P ⟨o.dst,g,x⟩ tm hp ctr K=true): ∃v aH,qe P n ops o tm hp ctr v aH∧K (tY tm o.dst v) aH (ctr+4)=true:=by
 unfold P9 at h
 have skip:(∃d want,g=some (d,want)∧((∃b,tm.get (key d)=some (bV b)∧(b==want)=false)∨tm.get (key d)=some (.ep [])))→(j8 tm o.dst (.ep []) fun tm=>nq (ctr+4) fun c=>K tm hp c)=true→
  ∃v aH,qe P n ops o tm hp ctr v aH∧K (tY tm o.dst v) aH (ctr+4)=true:=by
  intro hg h
  rw[gJ,dB]at h
  exact⟨_,_,tS hd hgd hg,h⟩
 split at h
 · rename_i SZ
   simp only at SZ
   exact vW iR hx hd hgd (.inl SZ) h
 · rename_i d want Jd
   simp only at Jd
   split at h
   · rename_i b hb
     cases Jh:(b==want)with
     |true=>
      rw[Jh]at h
      exact vW iR hx hd hgd (.inr ⟨d,want,b,Jd,hb,Jh⟩) h
     |false=>
      rw[Jh]at h
      exact skip ⟨d,want,Jd, .inl ⟨b,hb,Jh⟩⟩ h
   · rename_i hb
     exact skip ⟨d,want,Jd, .inr hb⟩ h
   · simp at h
theorem sE (iR:j5 P dw) {ops:Array Oper} {n base:Nat} {K:List gV→Tr→HS→Nat→Bool}: ∀ {l:List Oper} {rs:List gv} {k:Nat} {EK:List gV} {tm:Tr} {hp:HS},aW P ops l=some rs→
 (rs.all fun o=>gn n o.dst)=true→EK.length=k→Bv false dw P rs EK tm hp (base+4 * k) K=true→
 ∃ (Fv:Nat→Tr) (hpT:Nat→HS) (v:Nat→V) (fs:List gV),K fs (Fv (k+l.length)) (hpT (k+l.length)) (base+4 * (k+l.length))=true∧(∀i,i < k→fs[i]? =EK[i]?)∧Fv k=tm∧hpT k=hp∧
  ∀j o,l[j]? =some o→qe P n ops o (Fv (k+j)) (hpT (k+j)) (base+4 * (k+j)) (v (k+j)) (hpT (k+j+1))∧Fv (k+j+1)=tY (Fv (k+j)) o.dst (v (k+j))∧
   ∃f,fs[k+j]? =some f∧f.dst=o.dst∧ ∀L,eB (Fv (k+j)) L→(∀t,t∈names ops o→t∈f.nm)∧(∀q,q∈iU (St.get ⟨n,L,hpT (k+j)⟩) o→q∈f.rd)∧(∀q,q∈tt (St.get ⟨n,L,hpT (k+j)⟩) (base+4 * (k+j)) o→q∈f.wr)
 | [],rs,k,EK,tm,hp,eP,hd,hk,h=>by
   simp only[aW,Option.some.injEq]at eP
   subst eP
   exact⟨fun _=>tm,fun _=>hp,fun _=> .undef,EK,by simpa[Bv]using h,fun _ _=>rfl,rfl,rfl,fun j o hj=>by simp at hj⟩
 |o::l,rs,k,EK,tm,hp,eP,hd,hk,h=>by
  simp only[aW]at eP
  split at eP
  · rename_i x l' hx hl'
    obtain⟨g,rfl,hgd⟩:=jv eP
    simp only[List.all_cons,Bool.and_eq_true]at hd
    simp only[Bv]at h
    obtain⟨v0,aH,hst,hK⟩:=CJ (n:=n) (ops:=ops) iR hx hd.1 hgd h
    rw[show base+4 * k+4=base+4 * (k+1) by omega]at hK
    obtain⟨Fv,hpT,v,fs,q1,q2,q3,q4,q5⟩:=sE iR (k:=k+1) hl' hd.2 (by simp[hk]) hK
    have AI:fs[k]? =some (Dm ⟨o.dst,g,x⟩ tm (base+4 * k)):=by
     rw[q2 k (by omega),List.getElem?_append_right (by omega),hk];simp
    refine⟨fun i=>if i=k then tm else Fv i,fun i=>if i=k then hp else hpT i,fun i=>if i=k then v0 else v i,fs,?_,?_,?_,?_,?_⟩
    · have e1:k+(o::l).length=k+1+l.length:=by simp;omega
      have e2:¬k+1+l.length=k:=by omega
      simp only[e1,e2,if_false]
      exact q1
    · intro i hi'
      rw[q2 i (by omega),List.getElem?_append_left (by omega)]
    · simp
    · simp
    · intro j oj hj
      cases j with
      |zero=>
       simp only[List.getElem?_cons_zero,Option.some.injEq]at hj
       subst hj
       have e2:¬k+1=k:=by omega
       simp only[Nat.add_zero,if_true,e2,if_false,q4,q3]
       refine⟨hst,trivial,_,AI,rfl,fun L hL=>?_⟩
       have Gx:=xG (ops:=ops) (n:=n) (ctr:=base+4 * k) (tm:=L) (hp:=hp) hx hgd
       rw[GY hL]
       exact Gx.2
      |succ j=>
       have:=q5 j oj (by simpa using hj)
       have e1:¬k+(j+1)=k:=by omega
       have e2:¬k+(j+1)+1=k:=by omega
       simp only[e1,e2,if_false]
       rw[show k+(j+1)=k+1+j by omega]
       exact this
  · simp at eP
theorem js {all:Array Oper}: ∀ {l:List Oper} {rs:List gv},aW P all l=some rs→rs.length=l.length
 | [],rs,h=>by simp only[aW,Option.some.injEq]at h;subst h;rfl
 |o::l,rs,h=>by
  simp only[aW]at h
  split at h
  · rename_i x l' hx hl'
    obtain⟨g,rfl,_⟩:=jv h
    simp[js hl']
  · simp at h
theorem nQ (bits:List Nat) (N:Nat): ∀ (j:Nat) (rs:List gv),rs=(cu bits N j rs).1++(cu bits N j rs).2∧
 (∀o r,(cu bits N j rs).2=o::r→Ax bits N (j+(cu bits N j rs).1.length)=true)
 |j,[]=>⟨rfl,fun o r h=>by simp[cu]at h⟩
 |j,x::q=>by
  obtain⟨h1,h2⟩:=nQ bits N (j+1) q
  cases hp:Ax bits N j with
  |true=>
   have e:cu bits N j (x::q)=([],x::q):=by simp only[cu,hp,gi]
   rw[e]
   exact⟨rfl,fun o r _=>by simpa using hp⟩
  |false=>
   have e:cu bits N j (x::q)=(x::(cu bits N (j+1) q).1,(cu bits N (j+1) q).2):=by simp only[cu,hp,gi]
   rw[e]
   refine⟨by simp only[List.cons_append, ←h1],fun o r h=>?_⟩
   have:=h2 o r h
   rw[show j+(x::(cu bits N (j+1) q).1).length=j+1+(cu bits N (j+1) q).1.length by simp;omega]
   exact this
theorem jQ {all:Array Oper}: ∀ {a b:List gv} {l:List Oper},aW P all l=some (a++b)→ ∃l1 l2,l=l1++l2∧aW P all l1=some a∧aW P all l2=some b∧l1.length=a.length
 | [],b,l,h=>⟨[],l,rfl,rfl,h,rfl⟩
 |x::a,b,[],h=>by simp[aW]at h
 |x::a,b,o::l,h=>by
  simp only[aW]at h
  split at h
  · rename_i y l' hy hl'
    have S4: ∃g,(⟨o.dst,g,y⟩:gv)=x∧l'=a++b∧ ∀l'',(match o.guard with
     |none=>some ((⟨o.dst,none,y⟩:gv)::l'')
     |some (j,want)=>match(all[j]?).bind (·.dst)with
      |some d=>some ((⟨o.dst,some (d,want),y⟩:gv)::l'')
      |none=>none)=some ((⟨o.dst,g,y⟩:gv)::l''):=by
     split at h
     · rename_i hg
       simp only[List.cons_append,Option.some.injEq,List.cons.injEq]at h
       exact⟨none,h.1,h.2,fun l''=>by simp only[hg]⟩
     · rename_i j want hg
       split at h
       · rename_i d hd
         simp only[List.cons_append,Option.some.injEq,List.cons.injEq]at h
         exact⟨some (d,want),h.1,h.2,fun l''=>by simp only[hg,hd]⟩
       · simp at h
    obtain⟨g,rfl,rfl,hg⟩:=S4
    obtain⟨l1,l2,rfl,h1,h2,h3⟩:=jQ hl'
    exact⟨o::l1,l2,rfl,by simp only[aW,hy,h1];exact hg a,h2,by simp[h3]⟩
  · simp at h
theorem qb {p:Nat→Bool} {n:Nat} (h:(List.range n).all p=true) {i:Nat} (hi:i < n):p i=true:=List.all_eq_true.1 h i (List.mem_range.2 hi)
theorem B1 {bits:List Nat} {N j:Nat} (h:Ax bits N j=true):(∀i,i < j→(bits.getD j 0).testBit i=true)∧ ∀k,j < k→k < N→(bits.getD k 0).testBit j=true:=by
 simp only[Ax,Bool.and_eq_true]at h
 refine⟨fun i hi=>qb h.1 hi,fun k h1 h2=>?_⟩
 have:=qb h.2 (i:=k - (j+1)) (by omega)
 rw[show j+1+(k - (j+1))=k by omega]at this
 exact this
theorem zK (hJ:nc P call) (iR:j5 P dw) {n:Nat} {ops:Array Oper} (hE: ∀i o,ops[i]? =some o→ ∀e,e∈bg o→e < i): ∀ {f lo:Nat} {l:List Oper} {rs:List gv} {tm:Tr} {hp:HS} {ctr:Nat} {K:Tr→HS→Nat→Bool},
 (∀j,ops[lo+j]? =l[j]?)→lo+l.length=ops.size→aW P ops l=some rs→(rs.all fun o=>gn n o.dst)=true→vX false call dw P (ko (ops.toList.map bg) []) ops.size f lo rs tm hp ctr K=true→
 ∃bh aH bE,K bh aH bE=true∧ ∀ (M A:Nat→Prop) (ρ:Env) (a:Act) (w:World) (L:TS) (Q:Exit→Act→World→Prop),eB tm L→Rel M A ρ (bC ctr) ⟨n,L,hp⟩ a w→
  (∀a' w',At M A ρ w n bh aH bE a' w'→Q .normal a' w')→ ∀ (fuel:Nat) (listed:Array Bool),listed.size=ops.size→(∀i,i < ops.size→listed.getD i false=decide (i < lo))→ops.size - lo≤fuel→wpAny P .any ops Q fuel listed a w:=by
 intro f
 induction f with
 |zero=>intro lo l rs tm hp ctr K _ _ _ _ h;simp[vX]at h
 |succ f ih=>
  intro lo l rs tm hp ctr K hl hlen eP hd h
  simp only[vX]at h
  obtain⟨hsp,Gr⟩:=nQ (ko (ops.toList.map bg) []) ops.size lo rs
  revert h
  generalize (cu (ko (ops.toList.map bg) []) ops.size lo rs).1=dy at hsp Gr
  generalize (cu (ko (ops.toList.map bg) []) ops.size lo rs).2=rest at hsp Gr
  intro h
  subst hsp
  obtain⟨l1,l2,rfl,rT,uN,QA⟩:=jQ eP
  simp only[List.all_append,Bool.and_eq_true]at hd
  obtain⟨Fv,hpT,v,fs,q1,_,q3,q4,q5⟩:=sE (P:=P) iR (ops:=ops) (n:=n) (base:=ctr) (k:=0) (l:=l1) rT hd.1 rfl (by simpa using h)
  obtain⟨qc,q1⟩:=bu q1
  simp only[Bool.and_eq_true]at qc
  obtain⟨qs,ql⟩:=qc
  simp only[Nat.zero_add]at q1 q5
  have hlm:lo+l1.length≤ops.size:=by rw[←hlen];simp
  have hop: ∀i,i < l1.length→ops[lo+i]? =l1[i]? :=fun i hi=>by rw[hl i,List.getElem?_append_left hi]
  have B6: ∀k,lo+l1.length≤k→k < ops.size→ ∀i,i < l1.length→((ko (ops.toList.map bg) []).getD k 0).testBit (lo+i)=true:=by
   intro k hk hk' i hi
   unfold C9 at ql
   rw[←QA]at ql
   have:=qb (qb ql (i:=k - (lo+l1.length)) (by omega)) hi
   rw[show lo+l1.length+(k - (lo+l1.length))=k by omega]at this
   exact this
  have CW: ∀ (M A:Nat→Prop) (ρ:Env) (a:Act) (w:World) (L:TS) (Q:Exit→Act→World→Prop),eB tm L→Rel M A ρ (bC ctr) ⟨n,L,hp⟩ a w→
   (∀ (fuel:Nat) (listed:Array Bool) (a':Act) (w':World),listed.size=ops.size→(∀i,i < ops.size→listed.getD i false=decide (i < lo+l1.length))→ops.size - (lo+l1.length)≤fuel→
     At M A ρ w n (Fv l1.length) (hpT l1.length) (ctr+4 * l1.length) a' w'→wpAny P .any ops Q fuel listed a' w')→
   ∀ (fuel:Nat) (listed:Array Bool),listed.size=ops.size→(∀i,i < ops.size→listed.getD i false=decide (i < lo))→ops.size - lo≤fuel→wpAny P .any ops Q fuel listed a w:=by
   intro M A ρ a w L Q hL cH Gu
   rw[←q3]at hL
   let Ls:Nat→TS:=fun i=>Nat.rec L (fun i l=>eJ l ((l1[i]?).bind (·.dst)) (v i)) i
   have hLs: ∀i,i≤l1.length→eB (Fv i) (Ls i):=by
    intro i
    induction i with
    |zero=>intro _;exact hL
    |succ i ihi=>
     intro hi
     have ho:l1[i]? =some l1[i]:=by simp[show i < l1.length by omega]
     have:=(q5 i l1[i] ho).2.1
     rw[this]
     have h2:=(ihi (by omega)).put (l1[i].dst) (v i)
     have e:Ls (i+1)=eJ (Ls i) l1[i].dst (v i):=by
      show eJ (Ls i) ((l1[i]?).bind (·.dst)) (v i)=_
      rw[ho];rfl
     rw[e]
     exact h2
   have AF:Rel M A ρ (bC ctr) ⟨n,Ls 0,hpT 0⟩ a w:=by rw[q4];exact cH
   refine DZ (v:=v) (tmT:=Ls) (hpT:=hpT) (base:=ctr) (fs:=fs) hlm (fun i o hi ho=>?_) hE qs B6 AF ?_
   · rw[hop i hi]at ho
     obtain⟨s1,s2,f,f1,f2,f3⟩:=q5 i o ho
     refine⟨s1 _ (hLs i (by omega)),fun t=>?_,f,f1,f2,f3 _ (hLs i (by omega))⟩
     show find (eJ (Ls i) ((l1[i]?).bind (·.dst)) (v i)) t=_
     rw[ho];rfl
   · rintro fuel listed a' w' hsz oP Fg ⟨st',c',A',ρ',⟨rfl,rfl⟩,h2,h3,h4,h5⟩
     exact Gu fuel listed a' w' hsz oP Fg ⟨_,A',ρ',hLs _ (Nat.le_refl _),h2,h3,h4,h5⟩
  cases rest with
  |nil=>
   simp only at q1
   have rV:l2=[]:=by
    cases l2 with
    |nil=>rfl
    |cons o r=>have:=js uN;simp at this
   subst rV
   simp only[List.append_nil]at hlen
   refine⟨_,_,_,q1,fun M A ρ a w L Q hL cH hQ fuel listed hsz oP Fg=>CW M A ρ a w L Q hL cH (fun fuel listed a' w' hsz oP Fg sW=>?_) fuel listed hsz oP Fg⟩
   have hq:=hQ a' w' sW
   have AH:Region.ready .any ops listed=[]:=by
    apply List.eq_nil_iff_forall_not_mem.2
    intro i hi
    rw[mem_ready]at hi
    obtain⟨h0,o,ho,_⟩:=hi
    have hlt:i < ops.size:=(Array.getElem?_eq_some_iff.1 ho).1
    have:=oP i hlt
    simp only[Array.getD_eq_getD_getElem?]at this h0
    have jH:i < listed.size:=by omega
    simp[jH]at this h0
    simp[this]at h0
    omega
   cases fuel with
   |zero=>exact⟨AH,hq⟩
   |succ fuel=>exact⟨fun _=>hq,fun i hi=>by rw[AH]at hi;simp at hi⟩
  |cons p r=>
   simp only at q1
   cases l2 with
   |nil=>simp[aW]at uN
   |cons o l2=>
    simp only[aW]at uN
    split at uN
    · rename_i x l' hx hl'
      obtain⟨g,hpg,hgd⟩:=jv uN
      simp only[List.cons.injEq]at hpg
      obtain⟨rfl,rfl⟩:=hpg
      simp only[List.all_cons,Bool.and_eq_true]at hd
      have hi:ops[lo+l1.length]? =some o:=by rw[hl l1.length,List.getElem?_append_right (Nat.le_refl _)];simp
      obtain⟨ny,hp1,c1,r1,r2⟩:=xT (n:=n) hJ hi hx hd.2.1 hgd q1
      rw[←QA]at r2
      obtain⟨tm2,hp2,c2,r3,r4⟩:=ih (lo:=lo+l1.length+1) (l:=l2) (fun j=>by
       rw[show lo+l1.length+1+j=lo+(l1.length+(j+1)) by omega,hl,List.getElem?_append_right (by omega)]
       rw[show l1.length+(j+1) - l1.length=j+1 by omega]
       simp) (by rw[←hlen];simp;omega) hl' hd.2.2 r2
      have SK:=B1 (Gr _ _ rfl)
      rw[←QA]at SK
      refine⟨tm2,hp2,c2,r3,fun M A ρ a w L Q hL cH hQ fuel listed hsz oP Fg=>CW M A ρ a w L Q hL cH (fun fuel listed a' w' hsz oP Fg sW=>?_) fuel listed hsz oP Fg⟩
      have hps:lo+l1.length < ops.size:=(Array.getElem?_eq_some_iff.1 hi).1
      obtain⟨fuel,rfl⟩: ∃f,fuel=f+1:=⟨fuel - 1,by omega⟩
      obtain⟨L1,A1,ρ1,t1,t2,t3,t4,t5⟩:=sW
      have hclosed: ∀k o',ops[k]? =some o'→listed.getD k false=true→ ∀e,e∈bg o'→listed.getD e false=true:=by
       intro k o' vY hk e he
       have hks:k < ops.size:=(Array.getElem?_eq_some_iff.1 vY).1
       rw[oP k hks]at hk
       have:=hE k o' vY e he
       rw[oP e (by omega)]
       simp at hk⊢
       omega
      refine⟨fun AH=>?_,fun i hir=>?_⟩
      · exfalso
        have:lo+l1.length∈Region.ready .any ops listed:=by
         rw[mem_ready]
         refine⟨?_,o,hi,fun e he hb=>?_⟩
         · have:=oP _ hps
           simp only[Array.getD_eq_getD_getElem?]at this⊢
           have jH:lo+l1.length < listed.size:=by omega
           simp[jH]at this⊢
           exact this
         · have hm:e.on∈bg o:=by simp only[bg,List.mem_map,List.mem_filter];exact⟨e,⟨by simpa using he,hb⟩,rfl⟩
           have:=hE _ o hi _ hm
           rw[oP e.on (by omega)]
           simp
           omega
        rw[AH]at this
        simp at this
      · rw[mem_ready]at hir
        obtain⟨h0,oi,hoi,uT⟩:=hir
        have his:i < ops.size:=(Array.getElem?_eq_some_iff.1 hoi).1
        have EI:listed.getD i false=false:=by
         simp only[Array.getD_eq_getD_getElem?]at h0⊢
         have jH:i < listed.size:=by omega
         simpa[jH]using h0
        have hge:lo+l1.length≤i:=by
         rw[oP i his]at EI
         simp at EI
         omega
        have hip:i=lo+l1.length:=by
         rcases Nat.eq_or_lt_of_le hge with h|h
         · exact h.symm
         · exfalso
           have hb:=SK.2 i h his
           have Ti: ∀ (i:Nat) (es:List Nat),(ops.toList.map bg)[i]? =some es→ ∀e,e∈es→e < i:=by
            intro i es h e he
            simp only[List.getElem?_map,Array.getElem?_toList,Option.map_eq_some_iff]at h
            obtain⟨o,ho,rfl⟩:=h
            exact hE i o ho e he
           have:=(oV (L:=fun k=>listed.getD k false) Ti i (by simpa using his) (fun k es _ EH jF e he=>by
            simp only[List.getElem?_map,Array.getElem?_toList,Option.map_eq_some_iff]at jF
            obtain⟨o,ho,rfl⟩:=jF
            exact hclosed k o ho EH e he) (fun es jF e he=>by
            simp only[List.getElem?_map,Array.getElem?_toList,Option.map_eq_some_iff]at jF
            obtain⟨o',vY,rfl⟩:=jF
            rw[hoi]at vY
            simp only[Option.some.injEq]at vY
            subst vY
            simp only[bg,List.mem_map,List.mem_filter]at he
            obtain⟨ed,⟨g1,g2⟩,rfl⟩:=he
            exact uT ed (by simpa using g1) g2) _ hb).1
           rw[oP _ hps]at this
           simp at this
        subst hip
        refine r1 M A1 ρ1 a' w' L1 Q _ t1 t2 fun a2 w2 OD=>?_
        obtain⟨L2,A2,ρ2,u1,u2,u3,u4,u5⟩:=OD
        refine r4 M A2 ρ2 a2 w2 L2 Q u1 u2 (fun a3 w3 apS=>hQ a3 w3 ((apS.trans u3 u4 u5).trans t3 t4 t5)) fuel _ (by simpa using hsz) (fun k hk=>?_) (by omega)
        by_cases hk':k=lo+l1.length
        · subst hk'
          have jH:lo+l1.length < listed.size:=by omega
          simp[Array.getD_eq_getD_getElem?,jH]
        · have:=getD_set_ne (listed:=listed) false (fun e:lo+l1.length=k=>hk' e.symm)
          rw[this,oP k hk]
          simp only[decide_eq_decide]
          omega
    · simp at uN
theorem DN (hJ:nc P call) (iR:j5 P dw) {n fuel:Nat}: ∀ {c:Code} {r:Rc},ae P c=some r→gf n r=true→ ∀ {Q:Exit→Tr→HS→Nat→Bool} {tm:Tr} {hp:HS} {ctr:Nat},E false call dw P fuel r Q tm hp ctr=true→
 ∃e bh aH bE,Q e bh aH bE=true∧QM P n c tm hp ctr e bh aH bE:=by
 intro c
 induction c with
 |skip=>
  intro r hr hd Q tm hp ctr h
  simp only[ae,Option.some.injEq]at hr
  subst hr
  exact⟨_,_,_,_,h,fun M A ρ a w L hL cH=>wp_skip ⟨rfl,At.here hL cH⟩⟩
 |ret=>
  intro r hr hd Q tm hp ctr h
  simp only[ae,Option.some.injEq]at hr
  subst hr
  exact⟨_,_,_,_,h,fun M A ρ a w L hL cH=>wp_ret ⟨rfl,At.here hL cH⟩⟩
 |exit id=>
  intro r hr hd Q tm hp ctr h
  simp only[ae,Option.some.injEq]at hr
  subst hr
  exact⟨_,_,_,_,h,fun M A ρ a w L hL cH=>wp_exit ⟨rfl,At.here hL cH⟩⟩
 |seq x y Gi Gh=>
  intro r hr hd Q tm hp ctr h
  simp only[ae]at hr
  split at hr
  · rename_i rx ry hx hy
    simp only[Option.some.injEq]at hr
    subst hr
    simp only[gf,Bool.and_eq_true]at hd
    simp only[E]at h
    obtain⟨e1,ny,hp1,c1,h1,h2⟩:=Gi hx hd.1 h
    cases e1 with
    |normal=>
     obtain⟨e2,tm2,hp2,c2,h3,h4⟩:=Gh hy hd.2 h1
     refine⟨e2,tm2,hp2,c2,h3,fun M A ρ a w L hL cH=>wp_seq (wp_mono (h2 M A ρ a w L hL cH) ?_)⟩
     rintro e a' w' ⟨rfl,L1,A1,ρ1,q1,q2,q3,q4,q5⟩
     exact wp_mono (h4 M A1 ρ1 a' w' L1 q1 q2) fun e a2 w2 ⟨he,sW⟩=>⟨he,sW.trans q3 q4 q5⟩
    |_=>
     refine⟨_,ny,hp1,c1,h1,fun M A ρ a w L hL cH=>wp_seq (wp_mono (h2 M A ρ a w L hL cH) ?_)⟩
     rintro e a' w' ⟨rfl,sW⟩
     exact⟨rfl,sW⟩
  · simp at hr
 |cond c x y Gi Gh=>
  intro r hr hd Q tm hp ctr h
  simp only[ae]at hr
  split at hr
  · rename_i rx ry hx hy
    simp only[Option.some.injEq]at hr
    subst hr
    simp only[gf,Bool.and_eq_true]at hd
    simp only[E]at h
    split at h
    · rename_i b hb
      have hb': ∀L,eB tm L→((⟨n,L,hp⟩:St).get c).gp =some b:=fun L hL=>by
       rw[←bj]
       rw[kN hL]at hb
       exact hb
      cases b with
      |true=>
       obtain⟨e1,ny,hp1,c1,h1,h2⟩:=Gi hx hd.1 h
       exact⟨e1,ny,hp1,c1,h1,fun M A ρ a w L hL cH=>wp_cond (V.lN (hb' L hL) (cH.get c)) (h2 M A ρ a w L hL cH)⟩
      |false=>
       obtain⟨e1,ny,hp1,c1,h1,h2⟩:=Gh hy hd.2 h
       exact⟨e1,ny,hp1,c1,h1,fun M A ρ a w L hL cH=>wp_cond (V.lN (hb' L hL) (cH.get c)) (h2 M A ρ a w L hL cH)⟩
    · simp at h
  · simp at hr
 |block id b ih=>
  intro r hr hd Q tm hp ctr h
  simp only[ae]at hr
  split at hr
  · rename_i rb hb
    simp only[Option.some.injEq]at hr
    subst hr
    simp only[gf]at hd
    simp only[E]at h
    obtain⟨e1,ny,hp1,c1,h1,h2⟩:=ih hb hd h
    cases e1 with
    |exit id'=>
     simp only[Hi]at h1
     cases bN:Nat.beq id' id with
     |true=>
      rw[bN]at h1
      have Jc:id'=id:=by simpa using bN
      refine⟨_,ny,hp1,c1,h1,fun M A ρ a w L hL cH=>wp_block (wp_mono (h2 M A ρ a w L hL cH) ?_)⟩
      rintro e a' w' ⟨rfl,sW⟩
      simp only[Exit.inBlock,Jc,if_true]
      exact⟨trivial,sW⟩
     |false=>
      rw[bN]at h1
      have Jc:¬id'=id:=by
       intro h;subst h;simp at bN
      refine⟨_,ny,hp1,c1,h1,fun M A ρ a w L hL cH=>wp_block (wp_mono (h2 M A ρ a w L hL cH) ?_)⟩
      rintro e a' w' ⟨rfl,sW⟩
      simp only[Exit.inBlock,Jc,if_false]
      exact⟨trivial,sW⟩
    |_=>
     refine⟨_,ny,hp1,c1,h1,fun M A ρ a w L hL cH=>wp_block (wp_mono (h2 M A ρ a w L hL cH) ?_)⟩
     rintro e a' w' ⟨rfl,sW⟩
     exact⟨rfl,sW⟩
  · simp at hr
 |loop b ih=>
  intro r hr hd Q tm hp ctr h
  simp only[ae]at hr
  split at hr
  · rename_i rb hb
    simp only[Option.some.injEq]at hr
    subst hr
    simp only[gf]at hd
    simp only[E]at h
    have key: ∀ (k:Nat) (tm:Tr) (hp:HS) (ctr:Nat),A4 false (fun self=>E false call dw P fuel rb (G4 self Q)) k tm hp ctr=true→
     ∃e bh aH bE,Q e bh aH bE=true∧ ∀ (M A:Nat→Prop) (ρ:Env) (a:Act) (w:World) (L:TS) (b':Frame) (kk:List _) (cs:List _),eB tm L→Rel M A ρ (bC ctr) ⟨n,L,hp⟩ a w→
      ∃a' w',At M A ρ w n bh aH bE a' w'∧Arrives P (lone (b'.at a (.code b:: .inLoop b::kk)) cs w) b' kk cs e a' w':=by
     intro k
     induction k with
     |zero=>intro tm hp ctr h;simp[A4]at h
     |succ k ihk=>
      intro tm hp ctr h
      simp only[A4]at h
      obtain⟨e1,ny,hp1,c1,h1,h2⟩:=ih hb hd h
      cases e1 with
      |normal=>
       obtain⟨e2,tm2,hp2,c2,h3,h4⟩:=ihk ny hp1 c1 h1
       refine⟨e2,tm2,hp2,c2,h3,fun M A ρ a w L b' kk cs hL cH=>?_⟩
       obtain⟨e,a1,w1,⟨rfl,L1,A1,ρ1,q1,q2,q3,q4,q5⟩,jJ⟩:=h2 M A ρ a w L hL cH b' (.inLoop b::kk) cs
       obtain⟨a2,w2,sW,AN⟩:=h4 M A1 ρ1 a1 w1 L1 b' kk cs q1 q2
       exact⟨a2,w2,sW.trans q3 q4 q5, .of_steps (Steps.trans jJ (.one step_inLoop)) AN⟩
      |_=>
       refine⟨_,ny,hp1,c1,h1,fun M A ρ a w L b' kk cs hL cH=>?_⟩
       obtain⟨e,a1,w1,⟨rfl,sW⟩,jJ⟩:=h2 M A ρ a w L hL cH b' (.inLoop b::kk) cs
       exact⟨a1,w1,sW, .pass (x:= .inLoop b) rfl (fun _ _=> .inl (by simp)) jJ⟩
    obtain⟨e,bh,aH,bE,h1,h2⟩:=key fuel tm hp ctr h
    refine⟨e,bh,aH,bE,h1,fun M A ρ a w L hL cH b' kk cs=>?_⟩
    obtain⟨a',w',sW,jJ⟩:=h2 M A ρ a w L b' kk cs hL cH
    exact⟨e,a',w',⟨rfl,sW⟩, .of_steps (.one step_loop) jJ⟩
  · simp at hr
 |region id ops d=>
  intro r hr hd Q tm hp ctr h
  cases d with
  |true=>
   simp only[ae]at hr
   split at hr
   · rename_i l hl
     split at hr
     · rename_i hc
       simp only[Bool.and_eq_true]at hc
       simp only[Option.some.injEq]at hr
       subst hr
       simp only[gf]at hd
       simp only[E]at h
       have hE: ∀i o,ops[i]? =some o→ ∀e,e∈bg o→e < i:=by
        intro i o ho e he
        have:=je hc.2 i (bg o) (by simp[ho]) e he
        omega
       have QA:=js hl
       rw[QA]at h
       obtain⟨bh,aH,bE,h1,h2⟩:=zK hJ iR (n:=n) hE (lo:=0) (l:=ops.toList) (fun j=>by simp) (by simp) hl hd (by simpa using h)
       refine⟨_,_,_,_,h1,fun M A ρ a w L hL cH=>wp_region_any hc.1 ?_⟩
       refine h2 M A ρ a _ L _ hL cH.drew (fun a' w' sW=>?_) ops.size _ (by simp) (fun i hi=>by simp[hi]) (by omega)
       exact⟨rfl,sW.trans (df.drew M w) (cW.refl _) (bJ.refl _ _)⟩
     · simp at hr
   · simp at hr
  |false=>
   simp only[ae]at hr
   split at hr
   · rename_i l hl
     simp only[Option.some.injEq]at hr
     subst hr
     simp only[gf]at hd
     simp only[E]at h
     obtain⟨bh,aH,bE,h1,h2⟩:=vV hJ (n:=n) (ops:=ops) (k:=0) (l:=ops.toList) (fun j=>by simp) hl hd h
     refine⟨_,_,_,_,h1,fun M A ρ a w L hL cH=>wp_region ?_⟩
     have:=h2 M A ρ a w L (fun e2 a' w'=>e2= .normal∧At M A ρ w n bh aH bE a' w') hL cH (fun _ _ sW=>⟨rfl,sW⟩)
     rw[List.range_eq_range']
     simpa using this
   · simp at hr
 |_=>intro r hr;simp[ae]at hr
end Go.aU
end
section
namespace Go.aU
open Go
inductive Rv where
 |tmp (t:Nat)
 |cell (t:Nat) (n:Option Nat)
def fa (P:Program):List ResultVar→Option (List Rv)
 | []=>some []
 | .tmp t::r=>match fa P r with
   |some l=>some (.tmp t::l)
   |none=>none
 | .cell t ty::r=>match Fz P ty,fa P r with
   |some n,some l=>some (.cell t n::l)
   |_,_=>none
section
variable {α:Type} (bad:α)
def uh (tm:Tr) (hp:HS):List Rv→(List W→α)→α
 | [],k=>k []
 | .tmp t::r,k=>match tm.get (key t)with
   |some (.w u)=>uh tm hp r fun us=>k (u::us)
   |_=>bad
 | .cell t n::r,k=>match tm.get (key t)with
   |some (.w (.one c))=>zp bad hp c fun cs j=>Ai bad n cs j fun v=>match v with
    | .w u=>uh tm hp r fun us=>k (u::us)
    |_=>bad
   |_=>bad
def nU {β γ:Type} (f:β→(γ→α)→α):List β→(List γ→α)→α
 | [],k=>k []
 |x::r,k=>f x fun y=>nU f r fun l=>k (y::l)
def jK:Nat→HS→C→(T→α)→α
 |_,_, .t x,k=>k x
 |0,_,_,_=>bad
 |d+1,hp, .own id sz i len,k=>match find hp id with
  |some (.row sz' xs)=>gi (Nat.beq sz' sz&&Nat.ble (i+len) xs.length) (nU (nU (jK d hp)) ((xs.drop i).take len) fun ts=>k (.aA sz ts)) bad
  |_=>bad
 |_+1,_,_,_=>bad
def GK (hp:HS):W→(W→α)→α
 | .one c,k=>jK bad 6 hp c fun t=>k (.one (.t t))
 | .agg cs,k=>nU (jK bad 6 hp) cs fun ts=>k (.agg (ts.map .t))
end
def bK {β γ:Type} (f:β→Option γ):List β→Option (List γ)
 | []=>some []
 |x::r=>match f x,bK f r with
  |some y,some l=>some (y::l)
  |_,_=>none
def cV:Nat→HS→C→Option T
 |_,_, .t x=>some x
 |0,_,_=>none
 |d+1,hp, .own id sz i len=>match find hp id with
  |some (.row sz' xs)=>if sz'=sz∧i+len≤xs.length then(bK (bK (cV d hp)) ((xs.drop i).take len)).map (.aA sz)else none
  |_=>none
 |_+1,_,_=>none
theorem kG {β γ:Type} {f:β→(γ→Bool)→Bool} {g:β→Option γ} (hf: ∀x k,f x k=true→ ∃y,g x=some y∧k y=true): ∀ {l:List β} {k:List γ→Bool},nU f l k=true→ ∃l',bK g l=some l'∧k l'=true
 | [],k,h=>⟨[],rfl,h⟩
 |x::r,k,h=>by
  simp only[nU]at h
  obtain⟨y,h1,h2⟩:=hf _ _ h
  obtain⟨l',h3,h4⟩:=kG hf h2
  exact⟨_,by simp only[bK,h1,h3],h4⟩
theorem zd: ∀ {d:Nat} {hp:HS} {c:C} {k:T→Bool},jK false d hp c k=true→ ∃t,cV d hp c=some t∧k t=true
 |d,hp, .t x,k,h=>⟨x,by cases d<;>rfl,by cases d<;>exact h⟩
 |0,hp, .own ..,k,h=>by simp[jK]at h
 |0,hp, .ptr ..,k,h=>by simp[jK]at h
 |0,hp, .rH ..,k,h=>by simp[jK]at h
 |0,hp, .jB ..,k,h=>by simp[jK]at h
 |0,hp, .any,k,h=>by simp[jK]at h
 |0,hp, .map _,k,h=>by simp[jK]at h
 |0,hp, .it _,k,h=>by simp[jK]at h
 |0,hp, .kR ..,k,h=>by simp[jK]at h
 |0,hp, .pk ..,k,h=>by simp[jK]at h
 |d+1,hp, .own id sz i len,k,h=>by
  simp only[jK]at h
  split at h
  · rename_i sz' xs hf
    obtain⟨hc,h⟩:=bu h
    simp only[Bool.and_eq_true,Nat.beq_eq,Nat.ble_eq]at hc
    obtain⟨ts,h1,h2⟩:=kG (fun x k h=>kG (fun y k h=>zd h) h) h
    exact⟨_,by simp only[cV,hf,if_pos hc,h1,Option.map_some],h2⟩
  · simp at h
 |d+1,hp, .ptr ..,k,h=>by simp[jK]at h
 |d+1,hp, .rH ..,k,h=>by simp[jK]at h
 |d+1,hp, .jB ..,k,h=>by simp[jK]at h
 |d+1,hp, .any,k,h=>by simp[jK]at h
 |d+1,hp, .map _,k,h=>by simp[jK]at h
 |d+1,hp, .it _,k,h=>by simp[jK]at h
 |d+1,hp, .kR ..,k,h=>by simp[jK]at h
 |d+1,hp, .pk ..,k,h=>by simp[jK]at h
theorem gK {β γ:Type} {g:β→Option γ}: ∀ {l:List β} {l':List γ},bK g l=some l'→l'.length=l.length
 | [],l',h=>by simp only[bK,Option.some.injEq]at h;subst h;rfl
 |x::r,l',h=>by
  simp only[bK]at h
  split at h
  · rename_i y l2 h1 h2
    simp only[Option.some.injEq]at h
    subst h
    simp[gK h2]
  · simp at h
theorem ew {β γ:Type} {g:β→Option γ}: ∀ {l:List β} {l':List γ},bK g l=some l'→ ∀ (i:Nat) (y:γ),l'[i]? =some y→ ∃x,l[i]? =some x∧g x=some y
 | [],l',h,i,y,hy=>by simp only[bK,Option.some.injEq]at h;subst h;simp at hy
 |x::r,l',h,i,y,hy=>by
  simp only[bK]at h
  split at h
  · rename_i y' l2 h1 h2
    simp only[Option.some.injEq]at h
    subst h
    cases i with
    |zero=>simp only[List.getElem?_cons_zero,Option.some.injEq]at hy;subst hy;exact⟨x,by simp,h1⟩
    |succ i=>obtain⟨x',h3,h4⟩:=ew h2 i y (by simpa using hy);exact⟨x',by simpa using h3,h4⟩
  · simp at h
variable {P:Program} {M A:Nat→Prop} {ρ:Env} {F:Nat→Prop} {st:St} {a:Act} {w:World}
theorem qR (h:Rel M A ρ F st a w) {B:Nat→Prop} (Tj: ∀b,B b→A b) (hB: ∀id blk b,find st.heap id=some blk→ρ id=some (.fN b)→¬B b):
 ∀ {d:Nat} {c:C} {t:T} {x:Value},cV d st.heap c=some t→RC w A ρ c x→RT w B t x
 |d, .t y,t,x,hf,hr=>by
  have:t=y:=by cases d<;>simpa[cV]using hf.symm
  subst this
  exact RT.keeps (w:=w) ⟨Nat.le_refl _,fun b _ hn=>⟨rfl,fun hb=>hn (Tj b hb)⟩⟩ hr
 |0, .own ..,t,x,hf,hr=>by simp[cV]at hf
 |0, .ptr ..,t,x,hf,hr=>by simp[cV]at hf
 |0, .rH ..,t,x,hf,hr=>by simp[cV]at hf
 |0, .jB ..,t,x,hf,hr=>by simp[cV]at hf
 |0, .any,t,x,hf,hr=>by simp[cV]at hf
 |0, .map _,t,x,hf,hr=>by simp[cV]at hf
 |0, .it _,t,x,hf,hr=>by simp[cV]at hf
 |0, .kR ..,t,x,hf,hr=>by simp[cV]at hf
 |0, .pk ..,t,x,hf,hr=>by simp[cV]at hf
 |d+1, .ptr ..,t,x,hf,hr=>by simp[cV]at hf
 |d+1, .rH ..,t,x,hf,hr=>by simp[cV]at hf
 |d+1, .jB ..,t,x,hf,hr=>by simp[cV]at hf
 |d+1, .any,t,x,hf,hr=>by simp[cV]at hf
 |d+1, .map _,t,x,hf,hr=>by simp[cV]at hf
 |d+1, .it _,t,x,hf,hr=>by simp[cV]at hf
 |d+1, .kR ..,t,x,hf,hr=>by simp[cV]at hf
 |d+1, .pk ..,t,x,hf,hr=>by simp[cV]at hf
 |d+1, .own id sz i len,t,x,hf,hr=>by
  simp only[cV]at hf
  split at hf
  · rename_i sz' xs hfi
    split at hf
    · rename_i hc
      simp only[Option.map_eq_some_iff]at hf
      obtain⟨ts,hts,rfl⟩:=hf
      have he:elems st.heap (.own id sz i len)=some (sz,(xs.drop i).take len):=by simp only[elems,hfi,if_pos hc]
      obtain⟨hsz,b0,auZ,hx0,GA⟩:=jm h he hr
      by_cases hne:(xs.drop i).take len=[]
      · rw[hne]at hts
        simp only[bK,Option.some.injEq]at hts
        subst hts
        rw[hx0,hne]
        exact .nil
      · obtain⟨b,o,cap,rfl,hcell⟩:=iM h he hr hne
        simp only[Value.slice.injEq]at hx0
        obtain⟨_,_,rfl⟩:=hx0
        have hρ:ρ id=some (.fN b)∧b < w.heap.size:=by
         rcases hr with⟨b',cap',q,e',k1,k2,k3,k4,k5⟩|⟨_,_,h2,h3⟩
         · simp only[Value.slice.injEq,Option.some.injEq,Addr.mk.injEq]at k2
           obtain⟨⟨rfl,_⟩,_⟩:=k2
           refine⟨k1,?_⟩
           rcases Nat.lt_or_ge b w.heap.size with hlt|hge
           · exact hlt
           · simp[World.shape?,Array.getElem?_eq_none hge]at k4
         · simp at h3
        have yZ: ∀ (i':Nat) (e:List T) (j:Nat) (t:T),ts[i']? =some e→e[j]? =some t→ ∃y,w.cell? ⟨b,o+(i' * sz+j),none⟩=some y∧RT w B t y:=by
         intro i' e j t hi hj
         obtain⟨el,hel,hfe⟩:=ew hts i' e hi
         obtain⟨c,hcc,S2⟩:=ew hfe j t hj
         obtain⟨y,hy,hry,_⟩:=hcell i' el j c hel hcc
         exact⟨y,hy,qR h Tj hB S2 hry⟩
        have hE:RT w B (.aA sz ts) (.slice (some ⟨b,o,none⟩) ((xs.drop i).take len).length cap):=by
         refine .aA (fun i j=>(w.cell? ⟨b,o+(i * sz+j),none⟩).getD undef) (gK hts).symm GA hρ.2 (hB id _ b hfi hρ.1) (fun e he'=>?_) (fun i e j t hi hj=>?_) (fun i e j t hi hj=>?_)
         · obtain⟨k,hk,hke⟩:=List.getElem_of_mem he'
           obtain⟨el,hel,hfe⟩:=ew hts k e (by rw[←hke];simp[hk])
           rw[gK hfe]
           exact hsz el (List.mem_of_getElem? hel)
         · obtain⟨y,hy,_⟩:=yZ i e j t hi hj
           rw[Nat.add_assoc,hy];rfl
         · obtain⟨y,hy,dn⟩:=yZ i e j t hi hj
           rw[hy];exact dn
        exact hE
    · simp at hf
  · simp at hf
def bM (hp:HS):W→Option W
 | .one c=>(cV 6 hp c).map fun t=> .one (.t t)
 | .agg cs=>(bK (cV 6 hp) cs).map fun ts=> .agg (ts.map .t)
theorem Di {hp:HS} {u:W} {k:W→Bool} (h:GK false hp u k=true): ∃u',bM hp u=some u'∧k u'=true:=by
 cases u with
 |one c=>obtain⟨t,h1,h2⟩:=zd h;exact⟨_,by simp only[bM,h1,Option.map_some],h2⟩
 |agg cs=>obtain⟨t,h1,h2⟩:=kG (fun x k h=>zd h) h;exact⟨_,by simp only[bM,h1,Option.map_some],h2⟩
theorem iy (h:Rel M A ρ F st a w) {B:Nat→Prop} (Tj: ∀b,B b→A b) (hB: ∀id blk b,find st.heap id=some blk→ρ id=some (.fN b)→¬B b) {u u':W} {x:Value}
 (hf:bM st.heap u=some u') (hr:RW w A ρ u x) (ρ':Env):RW w B ρ' u' x:=by
 cases u with
 |one c=>
  simp only[bM,Option.map_eq_some_iff]at hf
  obtain⟨t,h1,rfl⟩:=hf
  exact⟨qR h Tj hB h1 hr.1,hr.2⟩
 |agg cs=>
  simp only[bM,Option.map_eq_some_iff]at hf
  obtain⟨ts,h1,rfl⟩:=hf
  obtain⟨vs,rfl,h2,h3⟩:=hr
  refine⟨vs,rfl,by simp[gK h1,h2],fun k c y hk hy=>?_⟩
  simp only[List.getElem?_map,Option.map_eq_some_iff]at hk
  obtain⟨t,ht,rfl⟩:=hk
  obtain⟨c',B9,S2⟩:=ew h1 k t ht
  obtain⟨r1,r2⟩:=h3 k c' y B9 hy
  exact⟨qR h Tj hB S2 r1,r2⟩
structure bp where
 n:Nat
 code:Rc
 res:List Rv
 flat:Bool
 inl:Bool
def aN (P:Program) (f:FuncId) (fr:bp):Prop:=
 ∃fn c,P.funcs[f]? =some fn∧fn.body=some c∧ae P c=some fr.code∧fn.ntmps=fr.n∧fa P fn.results.toList=some fr.res∧gf fr.n fr.code=true
theorem tv {tm:Tr} {hp:HS}: ∀ {rs:List ResultVar} {Rw:List Rv} {k:List W→Bool},fa P rs=some Rw→uh false tm hp Rw k=true→
 ∃us,(∀L,eB tm L→aP P hp L rs=some us)∧k us=true
 | [],Rw,k,hr,h=>by
   simp only[fa,Option.some.injEq]at hr
   subst hr
   exact⟨[],fun _ _=>rfl,h⟩
 | .tmp t::r,Rw,k,hr,h=>by
   simp only[fa]at hr
   split at hr
   · rename_i l hl
     simp only[Option.some.injEq]at hr
     subst hr
     simp only[uh]at h
     split at h
     · rename_i u hu
       obtain⟨us,h1,h2⟩:=tv hl h
       refine⟨u::us,fun L hL=>?_,h2⟩
       rw[←hL t]at hu
       simp only[aP,cv,hu,h1 L hL]
     · simp at h
   · simp at hr
 | .cell t ty::r,Rw,k,hr,h=>by
   simp only[fa]at hr
   split at hr
   · rename_i n l hn hl
     simp only[Option.some.injEq]at hr
     subst hr
     simp only[uh]at h
     split at h
     · rename_i c hc
       obtain⟨cs,j,h1,h2⟩:=xL h
       obtain⟨u,h3,h4⟩:=jS (P:=P) hn (pA h2)
       simp only at h4
       obtain⟨us,h5,h6⟩:=tv hl h4
       refine⟨u::us,fun L hL=>?_,h6⟩
       rw[←hL t]at hc
       have dJ:dX P ty (.w (.one c)) hp=some (.w u):=by simp only[dX,h1,h3,Option.map_some]
       simp only[aP,cv,hc,dJ,h5 L hL]
     · simp at h
   · simp at hr
def AB {α:Type}:Nat→List W→Tr→(Tr→α)→α
 |_,[],tm,k=>k tm
 |n,u::r,tm,k=>Tr.put (key n) tm (.w u) fun tm=>nq (n+1) fun m=>AB m r tm k
def ju:Nat→List W→Tr→Tr
 |_,[],tm=>tm
 |n,u::r,tm=>ju (n+1) r (Tr.set (key n) tm (.w u))
theorem uJ {α:Type}: ∀ (us:List W) (n:Nat) (tm:Tr) (k:Tr→α),AB n us tm k=k (ju n us tm)
 | [],n,tm,k=>rfl
 |u::r,n,tm,k=>by simp only[AB,ju,Tr.put_eq,dB,uJ r]
theorem xz: ∀ (us:List W) (n:Nat) (tm:Tr) (L:TS),eB tm L→(∀t,n≤t→find L t=none)→eB (ju n us tm) (de n us++L)
 | [],n,tm,L,h,_=>h
 |u::r,n,tm,L,h,hn=>by
  have ih:=xz r (n+1) (Tr.set (key n) tm (.w u)) ((n, .w u)::L) (h.put (some n) (.w u)) (fun t ht=>by rw[av,if_neg (by omega)];exact hn t (by omega))
  intro t
  rw[ju, ←ih t]
  simp only[de,List.cons_append,av,cO]
  by_cases e:n=t
  · subst e
    have:find (de (n+1) r) n=none:=by
     cases h':find (de (n+1) r) n with
     |none=>rfl
     |some v=>have:=(eE _ _ _ _ h').1;omega
    simp[this]
  · simp[e]
theorem Eu (us:List W):eB (ju 0 us .nil) (de 0 us):=by
 have:=xz us 0 .nil [] (fun t=>by rw[Tr.tC];rfl) (fun t _=>rfl)
 simpa using this
theorem Rel.toM {M':Nat→Prop} (h:Rel M' A ρ F st a w) (hM: ∀b,M' b→M b) (hmay: ∀b,w.heap.size≤b→M b) (QD:zJ M A w):Rel M A ρ F st a w:=by
 refine⟨h.size,h.defers,h.tmps,fun id blk hb=>?_,h.inj,h.fresh,h.bound,hmay,QD⟩
 have:=h.heap id blk hb
 cases blk with
 |row sz xs=>
  obtain⟨h1,h2⟩:=this
  refine⟨h1,?_⟩
  rcases h2 with⟨b,c,e,k1,k2,k3⟩|h2
  · exact .inl ⟨b,c,e,k1,hM b k2,k3⟩
  · exact .inr h2
 |mp es clock=>
  obtain⟨b,en,k1,k2,k3⟩:=this
  exact⟨b,en,k1,hM b k2,k3⟩
theorem Rel.own {id:Nat} {blk:bD} {b:Nat} (h:Rel M A ρ F st a w) (hf:find st.heap id=some blk) (hρ:ρ id=some (.fN b)):M b∧A b∧b < w.heap.size:=by
 have:=(h.heap id blk hf).lt hρ
 exact⟨this.2.1,this.2.2,this.1⟩
def rR (e:Exit):Prop:=e= .normal∨e= .ret
theorem vK {f:FuncId} {fr:bp} (hok:aN P f fr) {us:List W} {hp aH:HS} {ctr bE:Nat} {e:Exit} {bh:Tr} {vs:List W} (hn:us.length≤fr.n) (he:rR e)
 (hrun: ∀c,(∃fn,P.funcs[f]? =some fn∧fn.body=some c)→QM P fr.n c (ju 0 us .nil) hp ctr e bh aH bE) (hres: ∀fn,P.funcs[f]? =some fn→ ∀L,eB bh L→aP P aH L fn.results.toList=some vs)
 {M A:Nat→Prop} {ρ:Env} {w:World} {xs:Array Value} (hr:HR M A ρ (bC ctr) hp w) (hx:tE w A ρ us xs.toList):
 Calls P f xs w fun e w'=> ∃x A' ρ',e= .returned x∧HR M A' ρ' (bC bE) aH w'∧RV w' A' ρ' (aT vs) x∧df M w w'∧cW ρ ρ'∧bJ A A' w:=by
 obtain⟨fn,c,hf,hb,hrc,hnt,H6,hds⟩:=hok
 refine calls_of_wp hf hb ?_
 have hl:us.length=xs.size:=by simpa using hx.1
 have cH:Rel M A ρ (bC ctr) ⟨fr.n,de 0 us,hp⟩ {tmps:=xs++Array.replicate (fn.ntmps - xs.size) undef,defers:=[]} w:=by
  refine⟨by simp;omega,rfl,fun t v hv=>?_,hr.heap,hr.inj,hr.fresh,hr.bound,hr.may,hr.dW⟩
  obtain⟨_,u,hu,rfl⟩:=eE _ _ _ _ hv
  simp only[Nat.sub_zero]at hu
  have ht:t < xs.size:=by rw[←hl];exact(List.getElem?_eq_some_iff.1 hu).1
  have AD:xs.toList[t]? =some xs[t]:=by simp[ht]
  have:=hx.2 t u _ hu AD
  have e:(xs++Array.replicate (fn.ntmps - xs.size) undef).getD t undef=xs[t]:=by simp[Array.getD_eq_getD_getElem?,Array.getElem?_append_left ht,ht]
  rw[e]
  exact this
 refine wp_mono (hrun c ⟨fn,hf,hb⟩ M A ρ _ w _ (Eu us) cH) ?_
 rintro e2 a' w' ⟨rfl,L',A',ρ',hL',dn,dJ,cI,hg⟩
 have fZ:=hres fn hf L' hL'
 obtain⟨ws,hvs,hR⟩:=eu dn fZ
 have hm:(fn.results.mapM fun(r:ResultVar)=>match r with
  | .tmp t=>(pure (a'.tmps.getD t undef):Sem Value)
  | .cell b t=>do loadVar t (←asAddr (a'.tmps.getD b undef))).run P w'= .ok ws.toArray w':=by
  rw[Array.mapM_eq_mapM_toList]
  simp only[Sem.run_map]
  exact(congrArg (fun r:Result (List Value)=>Result.andThen r fun a w'=>Result.ok a.toArray w') hvs).trans rfl
 have hrun:(results fn a'.tmps).run P w'= .ok (if h:ws.toArray.size=1 then ws.toArray[0]else .tuple ws.toArray) w':=by
  show(Bind.bind (fn.results.mapM fun(r:ResultVar)=>match r with
   | .tmp t=>(pure (a'.tmps.getD t undef):Sem Value)
   | .cell b t=>do loadVar t (←asAddr (a'.tmps.getD b undef))) fun vs=>Pure.pure (if h:vs.size=1 then vs[0]else .tuple vs)).run P w'=_
  rw[Sem.run_bind,hm]
  rfl
 have fin:a'.defers=[]∧ ∃v,(results fn a'.tmps).run P w'= .ok v w'∧ ∃x A' ρ',Ending.returned v= .returned x∧HR M A' ρ' (bC bE) aH w'∧RV w' A' ρ' (aT vs) x∧df M w w'∧cW ρ ρ'∧bJ A A' w:=by
  refine⟨dn.defers,_,hrun,_,A',ρ',rfl,⟨rfl,rfl,fun t v hv=>by simp[find]at hv,dn.heap,dn.inj,dn.fresh,dn.bound,dn.may,dn.dW⟩,?_,dJ,cI,hg⟩
  match vs,ws,hR with
  | [],[],_=>exact⟨#[],by simp,rfl,by simp⟩
  | [u],[v],hR=>exact hR.2 0 u v rfl rfl
  |u::u2::r,v::v2::s,hR=>
   have hne:¬ (v::v2::s).toArray.size=1:=by simp
   simp only[hne,dite_false]
   exact⟨_,rfl,by simpa using hR.1,fun k x y hx hy=>hR.2 k x y hx (by simpa using hy)⟩
  | [],_::_,hR=>exact absurd hR.1 (by simp)
  |_::_,[],hR=>exact absurd hR.1 (by simp)
  | [_],_::_::_,hR=>exact absurd hR.1 (by simp)
  |_::_::_,[_],hR=>exact absurd hR.1 (by simp)
 rcases he with rfl|rfl
 · exact fin
 · exact fin
theorem vI {f:FuncId} {fr:bp} (hok:aN P f fr) {us:List W} {hp aH:HS} {ctr bE:Nat} {e:Exit} {bh:Tr} {vs:List W} (hn:us.length≤fr.n) (he:rR e)
 (hrun: ∀c,(∃fn,P.funcs[f]? =some fn∧fn.body=some c)→QM P fr.n c (ju 0 us .nil) hp ctr e bh aH bE) (hres: ∀fn,P.funcs[f]? =some fn→ ∀L,eB bh L→aP P aH L fn.results.toList=some vs):
 fQ P f us hp ctr (aT vs) aH bE:=by
 intro M A ρ a w n L xs hr hx
 let M':Nat→Prop:=fun b=>(M b∧A b)∨w.heap.size≤b
 have hH:HR M' A ρ (bC ctr) hp w:=by
  refine⟨rfl,rfl,fun t v hv=>by simp[find]at hv,fun id blk hb=>?_,hr.inj,hr.fresh,hr.bound,fun b hb=> .inr hb,hr.dW.sub (fun b hb hm=>hm.elim (fun h=>h.1) (fun h=>by omega)) (fun _ h=>h)⟩
  have:=hr.heap id blk hb
  cases blk with
  |row sz ys=>
   obtain⟨h1,h2⟩:=this
   refine⟨h1,?_⟩
   rcases h2 with⟨b,c,e,k1,k2,k3,k4⟩|h2
   · exact .inl ⟨b,c,e,k1, .inl ⟨k2,k3⟩,k3,k4⟩
   · exact .inr h2
  |mp es clock=>
   obtain⟨b,en,k1,k2,k3,k4⟩:=this
   exact⟨b,en,k1, .inl ⟨k2,k3⟩,k3,k4⟩
 refine(vK hok hn he hrun hres hH hx).mono ?_
 rintro e w' ⟨x,A',ρ',rfl,h1,h2,h3,h4,h5⟩
 have hM: ∀b,M' b→M b:=fun b hb=>hb.elim (fun h=>h.1) (hr.may b)
 have hmay: ∀b,w'.heap.size≤b→M b:=fun b hb=>hr.may b (Nat.le_trans h3.size hb)
 have hk:dY A A' w w':=⟨h3.size,fun b hb Gv=>⟨h3.block b hb (fun hm=>by
  rcases hm with hm|hm
  · exact Gv hm.2
  · omega),fun hA=>Gv (h5.2 b hb hA)⟩⟩
 refine⟨x,A',ρ',rfl,?_,h2,h3.weaken (fun i _ ho=>hM i ho),h4,h5⟩
 have Qu:=h1.toM hM hmay (hr.dW.ET (h3.weaken (fun i _ ho=>hM i ho)) h5.2)
 exact⟨hr.size,hr.defers,fun t v hv=>(hr.tmps t v hv).keeps hk h3.shape h4,Qu.heap,Qu.inj,Qu.fresh,Qu.bound,Qu.may,Qu.dW⟩
theorem EO {f:FuncId} {fr:bp} (hok:aN P f fr) {us:List W} {aH:HS} {bE:Nat} {e:Exit} {bh:Tr} {vs ts:List W} (hn:us.length≤fr.n) (he:rR e)
 (hrun: ∀c,(∃fn,P.funcs[f]? =some fn∧fn.body=some c)→QM P fr.n c (ju 0 us .nil) [] 4 e bh aH bE) (hres: ∀fn,P.funcs[f]? =some fn→ ∀L,eB bh L→aP P aH L fn.results.toList=some vs)
 (hts:bK (bM aH) vs=some ts):Fn P f us [] (aT ts) []:=by
 intro w A ρ xs hH hxs
 refine(vK hok hn he hrun hres hH hxs).mono ?_
 rintro e w' ⟨x,A',ρ',rfl,h1,h2,h3,h4,h5⟩
 have hB: ∀id blk b,find aH id=some blk→ρ' id=some (.fN b)→¬A b:=by
  intro id blk b hf hρ hA
  have hM:=(h1.own hf hρ).1
  rcases hM with⟨id',fz,me,_⟩|hM
  · simp[find]at me
  · have:=hH.bound b hA
    omega
 refine⟨x,A,ρ,bC 4,rfl,?_,⟨rfl,rfl,fun t v hv=>by simp[find]at hv,fun id blk hb=>by simp[find]at hb,fun id id' b b' q hb=>by simp[find]at hb,hH.fresh,fun b hb=>Nat.lt_of_lt_of_le (hH.bound b hb) h3.size,fun b hb=> .inr (Nat.le_trans h3.size hb),hH.dW.ET h3 (fun _ _ h=>h)⟩,h3,iO.refl _,bJ.refl _ _⟩
 have hlen:=gK hts
 have one: ∀ (k:Nat) (u:W) (y:Value),ts[k]? =some u→(∀v,vs[k]? =some v→RW w' A' ρ' v y)→RW w' A ρ u y:=by
  intro k u y hu hv
  obtain⟨v,jW,EC⟩:=ew hts k u hu
  exact iy (st:=⟨0,[],aH⟩) h1 (fun b hb=>h5.1 b hb) hB EC (hv v jW) ρ
 match vs,ts,hlen with
 | [],[],_=>
   obtain⟨ys,h6,h7,_⟩:=h2
   exact⟨ys,h6,h7,fun k u y hu=>by simp at hu⟩
 | [v],[u],_=>exact one 0 u x rfl (fun v' jW=>by simp only[List.getElem?_cons_zero,Option.some.injEq]at jW;subst jW;exact h2)
 |v::v2::r,u::u2::s,hlen=>
  obtain⟨ys,rfl,h6,h7⟩:=h2
  refine⟨ys,rfl,by rw[←h6];simpa using hlen,fun k u' y hu hy=>one k u' y hu (fun v' jW=>h7 k v' y jW hy)⟩
 | [],_::_,hlen=>simp at hlen
 |_::_,[],hlen=>simp at hlen
 | [_],_::_::_,hlen=>simp at hlen
 |_::_::_,[_],hlen=>simp at hlen
def tg (us:List W):Bool:=us.all W.cq
theorem ot {n:Nat} {u:W} (h:u.cq=true):u.up n=u:=by
 cases u with
 |one c=>cases c<;>simp[W.cq,C.cq]at h;rfl
 |agg cs=>
  simp only[W.cq,List.all_eq_true]at h
  simp only[W.up,W.agg.injEq]
  have: ∀c,c∈cs→c.up n=id c:=by
   intro c hc
   have:=h c hc
   cases c<;>simp[C.cq]at this
   rfl
  rw[List.map_congr_left this];simp
theorem gj {hp:HS} {u u':W} (h:bM hp u=some u'):u'.cq=true:=by
 cases u with
 |one c=>
  simp only[bM,Option.map_eq_some_iff]at h
  obtain⟨t,_,rfl⟩:=h
  rfl
 |agg cs=>
  simp only[bM,Option.map_eq_some_iff]at h
  obtain⟨t,_,rfl⟩:=h
  simp[W.cq,C.cq]
def V.cq:V→Bool
 | .w u=>u.cq
 | .ep ws=>ws.all W.cq
 | .undef=>false
theorem V.ot {n:Nat} {v:V} (h:v.cq=true):v.up n=v:=by
 cases v with
 |w u=>simp only[V.cq]at h;simp only[V.up,Go.aU.ot h]
 |ep ws=>
  simp only[V.cq,List.all_eq_true]at h
  simp only[V.up,V.ep.injEq]
  have: ∀c,c∈ws→c.up n=id c:=fun c hc=>Go.aU.ot (h c hc)
  rw[List.map_congr_left this];simp
 |undef=>rfl
theorem uf {ts:List W} (h:ts.all W.cq=true):(aT ts).cq=true:=by
 match ts with
 | []=>rfl
 | [u]=>simpa[aT,V.cq]using h
 |_::_::_=>simpa only[aT,V.cq]using h
def C.plain:C→Bool
 | .t (.val (.int ..))| .t (.val (.bool _))| .t (.val (.string _))=>true
 |_=>false
def W.plain:W→Bool
 | .one c=>c.plain
 | .agg cs=>cs.all C.plain
def V.plain:V→Bool
 | .w u=>u.plain
 | .ep ws=>ws.all W.plain
 | .undef=>false
end Go.aU
end
section
namespace Go.aU
open Go
section
variable {α:Type} (bad:α)
def oq (P:Program) (call:sF α) (dw:sG α) (fuel:Nat) (fr:bp) (us:List W) (k:V→α):α:=
 gi (Nat.ble us.length fr.n) (AB 0 us .nil fun tm=>E bad call dw P fuel fr.code (fun e bh aH _=>match e with
  | .normal=>uh bad bh aH fr.res fun vs=>nU (GK bad aH) vs fun ts=>k (aT ts)
  | .ret=>uh bad bh aH fr.res fun vs=>nU (GK bad aH) vs fun ts=>k (aT ts)
  |_=>bad) tm [] 4) bad
def yQ (P:Program) (call:sF α) (dw:sG α) (fuel:Nat) (fr:bp) (us:List W) (hp:HS) (ctr:Nat) (K:V→HS→Nat→α):α:=
 gi (Nat.ble us.length fr.n) (AB 0 us .nil fun tm=>E bad call dw P fuel fr.code (fun e bh aH bE=>match e with
  | .normal=>uh bad bh aH fr.res fun vs=>K (aT vs) aH bE
  | .ret=>uh bad bh aH fr.res fun vs=>K (aT vs) aH bE
  |_=>bad) tm hp ctr) bad
variable (P:Program) (gY:Nat→Option bp) (CU:Nat→List W→Option V) (fuel:Nat)
def cE:Nat→sF α×sG α
 |0=>(fun _ _ _ _ _=>bad,fun _ _ _ _ _=>bad)
 |d+1=>
  (fun f us hp ctr K=>match gY f with
    |some fr=>gi fr.inl (yQ bad P (cE d).1 (cE d).2 fuel fr us hp ctr K)
      (gi (tg us) (match CU f us with
        |some v=>nq (ctr+4) fun c=>K v hp c
        |none=>oq bad P (cE d).1 (cE d).2 fuel fr us fun v=>nq (ctr+4) fun c=>K v hp c)
      (gi (fr.flat&& (bK (bM hp) us).isSome) (nU (GK bad hp) us fun ts=>match CU f ts with
        |some v=>gi v.flat (nq (ctr+4) fun c=>K v hp c) bad
        |none=>oq bad P (cE d).1 (cE d).2 fuel fr ts fun v=>gi v.flat (nq (ctr+4) fun c=>K v hp c) bad)
      (yQ bad P (cE d).1 (cE d).2 fuel fr us hp ctr K)))
    |none=>bad,
   fun f us hp _ K=>match gY f with
    |some fr=>gi (tg us) (match CU f us with
      |some v=>K v hp
      |none=>oq bad P (cE d).1 (cE d).2 fuel fr us fun v=>K v hp)
      (match iQ hp us with
        |some ts=>match CU f ts with
         |some v=>gi v.flat (K v hp) bad
         |none=>oq bad P (cE d).1 (cE d).2 fuel fr ts fun v=>gi v.flat (K v hp) bad
        |none=>bad)
    |none=>bad)
end
variable {P:Program}
theorem fh {f:FuncId} {us:List W} {hp:HS} {ctr:Nat} {v:V} (hv:v.cq=true) (hT:tg us=true) (h:Fn P f us [] v []):ej P hp ctr f us v hp:=
 .inl ⟨v,[],us,h.toF,(V.ot hv).symm,rfl, .inl ⟨rfl,hT⟩⟩
theorem sx {f:FuncId} {us ts:List W} {hp:HS} {ctr:Nat} {v:V} (hv:v.cq=true) (hl:iQ hp us=some ts) (hfl:v.flat=true) (h:Fn P f ts [] v []):ej P hp ctr f us v hp:=
 .inl ⟨v,[],ts,h.toF,(V.ot hv).symm,rfl, .inr ⟨hl,hfl,fun id blk hb=>by simp[find]at hb⟩⟩
theorem lK {f:FuncId} {us ts:List W} {hp:HS} {ctr:Nat} {v:V} (hv:v.cq=true) (hl:bK (bM hp) us=some ts) (hfl:v.flat=true) (hfn:Fn P f ts [] v []):fQ P f us hp ctr v hp (ctr+4):=by
 intro M A ρ a w n L xs h hx
 have hM: ∀ (ρ0:Env),(fun b=>o3 ρ0 [] b∨w.heap.size≤b)=fun b=>w.heap.size≤b:=by
  intro ρ0
  funext b
  simp[o3,find]
 have empty:HR (fun b=>o3 (fun _=>none) [] b∨w.heap.size≤b) (fun _=>False) (fun _=>none) (bC 4) [] w:=
  ⟨rfl,rfl,fun t v hv=>by simp[find]at hv,fun id b hb=>by simp[find]at hb,fun id id' b b' c hb=>by simp[find]at hb,fun _ _=>rfl,fun _ h=>h.elim,fun b hb=> .inr hb,h.dW.sub (fun b hb hm=>hm.elim (fun ho=>by obtain⟨_,_,hf,_⟩:=ho;simp[find]at hf) (fun hl=>by omega)) (fun _ h=>h.elim)⟩
 have hx':tE w (fun _=>False) (fun _=>none) ts xs.toList:=⟨(gK hl).trans hx.1,fun k u x hu AD=>by
  obtain⟨c,hc,hlc⟩:=ew hl k u hu
  exact iy (st:=⟨n,L,hp⟩) h (fun _ hb=>hb.elim) (fun _ _ _ _ _ hb=>hb) hlc (hx.2 k c x hc AD) _⟩
 refine(hfn w (fun _=>False) (fun _=>none) xs empty hx').mono ?_
 rintro e w' ⟨x,A1,ρ1,F1,rfl,Sr,hr,dJ,_,hg⟩
 rw[hM]at hr dJ
 obtain⟨A2,ρ2,r1,r2,r3,r4,r5⟩:=Rel.import (st:=⟨n,L,hp⟩) h (nid:=ctr) (fun k h1 _=>h1) dJ hr (fun b hb hA=>(hg.2 b hb hA).elim) Sr (.inr ⟨hfl,fun id blk hb=>by simp[find]at hb⟩)
 rw[V.ot hv]at r2
 exact⟨x,A2,ρ2,rfl,r1.sub gD,r2,r3,r4,r5⟩
theorem gy {call:sF Bool} {dw:sG Bool} {fuel:Nat} (hc:nc P call) (hd:j5 P dw) {f:FuncId} {fr:bp} (hok:aN P f fr) {us:List W} {k:V→Bool}
 (h:oq false P call dw fuel fr us k=true): ∃v,Fn P f us [] v []∧v.cq=true∧k v=true:=by
 unfold oq at h
 obtain⟨hn,h⟩:=bu h
 simp only[Nat.ble_eq]at hn
 rw[uJ]at h
 obtain⟨fn,c,hf,hb,hrc,hnt,H6,hds⟩:=hok
 obtain⟨e,bh,aH,bE,h1,h2⟩:=DN (P:=P) hc hd hrc hds h
 have hrun: ∀c',(∃fn,P.funcs[f]? =some fn∧fn.body=some c')→QM P fr.n c' (ju 0 us .nil) [] 4 e bh aH bE:=by
  rintro c' ⟨fn',me,hb'⟩
  rw[hf]at me
  simp only[Option.some.injEq]at me
  subst me
  rw[hb]at hb'
  simp only[Option.some.injEq]at hb'
  subst hb'
  exact h2
 have fin:rR e→uh false bh aH fr.res (fun vs=>nU (GK false aH) vs fun ts=>k (aT ts))=true→ ∃v,Fn P f us [] v []∧v.cq=true∧k v=true:=by
  intro he hr
  obtain⟨vs,h3,h4⟩:=tv H6 hr
  obtain⟨ts,h5,h6⟩:=kG (fun x k h=>Di h) h4
  refine⟨aT ts,EO ⟨fn,c,hf,hb,hrc,hnt,H6,hds⟩ hn he hrun (fun fn' me=>?_) h5,?_,h6⟩
  · rw[hf]at me
    simp only[Option.some.injEq]at me
    subst me
    exact h3
  · refine uf ?_
    rw[List.all_eq_true]
    intro u hu
    obtain⟨k',hk',hke⟩:=List.getElem_of_mem hu
    obtain⟨v,_,EC⟩:=ew h5 k' u (by rw[←hke];simp[hk'])
    exact gj EC
 cases e with
 |normal=>exact fin (.inl rfl) h1
 |ret=>exact fin (.inr rfl) h1
 |_=>simp at h1
theorem pL {call:sF Bool} {dw:sG Bool} {fuel:Nat} (hc:nc P call) (hd:j5 P dw) {f:FuncId} {fr:bp} (hok:aN P f fr) {us:List W} {hp:HS} {ctr:Nat} {K:V→HS→Nat→Bool}
 (h:yQ false P call dw fuel fr us hp ctr K=true): ∃v aH bE,fQ P f us hp ctr v aH bE∧K v aH bE=true:=by
 unfold yQ at h
 obtain⟨hn,h⟩:=bu h
 simp only[Nat.ble_eq]at hn
 rw[uJ]at h
 obtain⟨fn,c,hf,hb,hrc,hnt,H6,hds⟩:=hok
 obtain⟨e,bh,aH,bE,h1,h2⟩:=DN (P:=P) hc hd hrc hds h
 have hrun: ∀c',(∃fn,P.funcs[f]? =some fn∧fn.body=some c')→QM P fr.n c' (ju 0 us .nil) hp ctr e bh aH bE:=by
  rintro c' ⟨fn',me,hb'⟩
  rw[hf]at me
  simp only[Option.some.injEq]at me
  subst me
  rw[hb]at hb'
  simp only[Option.some.injEq]at hb'
  subst hb'
  exact h2
 have fin:rR e→uh false bh aH fr.res (fun vs=>K (aT vs) aH bE)=true→ ∃v aH bE,fQ P f us hp ctr v aH bE∧K v aH bE=true:=by
  intro he hr
  obtain⟨vs,h3,h4⟩:=tv H6 hr
  refine⟨aT vs,aH,bE,vI ⟨fn,c,hf,hb,hrc,hnt,H6,hds⟩ hn he hrun (fun fn' me=>?_),h4⟩
  rw[hf]at me
  simp only[Option.some.injEq]at me
  subst me
  exact h3
 cases e with
 |normal=>exact fin (.inl rfl) h1
 |ret=>exact fin (.inr rfl) h1
 |_=>simp at h1
def DM (P:Program) (gY:Nat→Option bp):Prop:= ∀f fr,gY f=some fr→aN P f fr
def bW (P:Program) (CU:Nat→List W→Option V):Prop:= ∀f us v,CU f us=some v→Fn P f us [] v []∧v.cq=true
theorem rW {gY:Nat→Option bp} {CU:Nat→List W→Option V} {fuel:Nat} (ED:DM P gY) (B3:bW P CU): ∀d,nc P (cE false P gY CU fuel d).1∧j5 P (cE false P gY CU fuel d).2
 |0=>⟨fun f us hp ctr K h=>by simp[cE]at h,fun f us hp ctr K h=>by simp[cE]at h⟩
 |d+1=>by
  obtain⟨Qq,Qp⟩:=rW ED B3 (fuel:=fuel) d
  refine⟨fun f us hp ctr K h=>?_,fun f us hp ctr K h=>?_⟩
  · simp only[cE]at h
    split at h
    · rename_i fr hfr
      have hok:=ED f fr hfr
      cases hi:fr.inl with
      |true=>
       rw[hi]at h
       exact pL Qq Qp hok h
      |false=>
       rw[hi]at h
       simp only[gi]at h
       cases hT:tg us with
       |true=>
        rw[hT]at h
        simp only at h
        split at h
        · rename_i v hv
          rw[dB]at h
          obtain⟨h1,h2⟩:=B3 f us v hv
          exact⟨v,hp,ctr+4,mY (fh h2 hT h1),h⟩
        · obtain⟨v,h1,h2,h3⟩:=gy Qq Qp hok h
          rw[dB]at h3
          exact⟨v,hp,ctr+4,mY (fh h2 hT h1),h3⟩
       |false=>
        rw[hT]at h
        simp only at h
        cases hfl:(fr.flat&& (bK (bM hp) us).isSome)with
        |true=>
         rw[hfl]at h
         simp only at h
         obtain⟨ts,hts,h⟩:=kG (fun x k h=>Di h) h
         split at h
         · rename_i v hv
           have Ez:v.flat=true∧(nq (ctr+4) fun c=>K v hp c)=true:=bu h
           rw[dB]at Ez
           obtain⟨h1,h2⟩:=B3 f ts v hv
           exact⟨v,hp,ctr+4,lK h2 hts Ez.1 h1,Ez.2⟩
         · obtain⟨v,h1,h2,h3⟩:=gy Qq Qp hok h
           have Ez:v.flat=true∧(nq (ctr+4) fun c=>K v hp c)=true:=bu h3
           rw[dB]at Ez
           exact⟨v,hp,ctr+4,lK h2 hts Ez.1 h1,Ez.2⟩
        |false=>
         rw[hfl]at h
         exact pL Qq Qp hok h
    · simp at h
  · simp only[cE]at h
    split at h
    · rename_i fr hfr
      have hok:=ED f fr hfr
      cases hT:tg us with
      |true=>
       rw[hT]at h
       simp only[gi]at h
       split at h
       · rename_i v hv
         obtain⟨h1,h2⟩:=B3 f us v hv
         exact⟨v,hp,fh h2 hT h1,h⟩
       · obtain⟨v,h1,h2,h3⟩:=gy Qq Qp hok h
         exact⟨v,hp,fh h2 hT h1,h3⟩
      |false=>
       rw[hT]at h
       simp only[gi]at h
       split at h
       · rename_i ts hts
         split at h
         · rename_i v hv
           have Ez:v.flat=true∧K v hp=true:=bu h
           obtain⟨h1,h2⟩:=B3 f ts v hv
           exact⟨v,hp,sx h2 hts Ez.1 h1,Ez.2⟩
         · obtain⟨v,h1,h2,h3⟩:=gy Qq Qp hok h
           have Ez:v.flat=true∧K v hp=true:=bu h3
           exact⟨v,hp,sx h2 hts Ez.1 h1,Ez.2⟩
       · simp at h
    · simp at h
def He:Value→Value→Bool
 | .int k a, .int k' b=>Nat.beq (BZ k) (BZ k')&&OW a b
 | .bool a, .bool b=>a==b
 | .string a, .string b=>a.data.toList==b.data.toList
 | .slice none 0 0, .slice none 0 0=>true
 |_,_=>false
theorem G9 {a b:Value} (h:He a b=true):a=b:=by
 unfold He at h
 split at h
 · simp only[Bool.and_eq_true,Hg,beq_iff_eq]at h
   rw[Dc h.1,h.2]
 · simp only[beq_iff_eq]at h;rw[h]
 · rename_i a b
   simp only[beq_iff_eq]at h
   congr 1
   cases a;cases b
   congr 1
   exact Array.toList_inj.1 h
 · rfl
 · simp at h
mutual
def OV:T→T→Bool
 | .val a, .val b=>He a b
 | .aA sz xs, .aA sz' ys=>Nat.beq sz sz'&&xK xs ys
 |_,_=>false
def EV:List T→List T→Bool
 | [],[]=>true
 |a::r,b::s=>OV a b&&EV r s
 |_,_=>false
def xK:Lz→Lz→Bool
 | [],[]=>true
 |a::r,b::s=>EV a b&&xK r s
 |_,_=>false
end
mutual
theorem Hf: ∀ {a b:T},OV a b=true→a=b
 | .val a, .val b,h=>by simp only[OV]at h;rw[G9 h]
 | .aA sz xs, .aA sz' ys,h=>by
   simp only[OV,Bool.and_eq_true,Nat.beq_eq]at h
   rw[h.1,AZ h.2]
 | .val _, .aA ..,h=>by simp[OV]at h
 | .aA .., .val _,h=>by simp[OV]at h
theorem Ds: ∀ {a b:List T},EV a b=true→a=b
 | [],[],_=>rfl
 |a::r,b::s,h=>by
  simp only[EV,Bool.and_eq_true]at h
  rw[Hf h.1,Ds h.2]
 | [],_::_,h=>by simp[EV]at h
 |_::_,[],h=>by simp[EV]at h
theorem AZ: ∀ {a b:Lz},xK a b=true→a=b
 | [],[],_=>rfl
 |a::r,b::s,h=>by
  simp only[xK,Bool.and_eq_true]at h
  rw[Ds h.1,AZ h.2]
 | [],_::_,h=>by simp[xK]at h
 |_::_,[],h=>by simp[xK]at h
end
def eqC:C→C→Bool
 | .t a, .t b=>OV a b
 |_,_=>false
def EW:List C→List C→Bool
 | [],[]=>true
 |a::r,b::s=>eqC a b&&EW r s
 |_,_=>false
def eqW:W→W→Bool
 | .one a, .one b=>eqC a b
 | .agg a, .agg b=>EW a b
 |_,_=>false
def AY:List W→List W→Bool
 | [],[]=>true
 |a::r,b::s=>eqW a b&&AY r s
 |_,_=>false
def eqV:V→V→Bool
 | .w a, .w b=>eqW a b
 | .ep a, .ep b=>AY a b
 |_,_=>false
theorem Hh {a b:C} (h:eqC a b=true):a=b:=by
 cases a<;>cases b<;>simp[eqC]at h
 rw[Hf h]
theorem Dt: ∀ {a b:List C},EW a b=true→a=b
 | [],[],_=>rfl
 |a::r,b::s,h=>by
  simp only[EW,Bool.and_eq_true]at h
  rw[Hh h.1,Dt h.2]
 | [],_::_,h=>by simp[EW]at h
 |_::_,[],h=>by simp[EW]at h
theorem G8 {a b:W} (h:eqW a b=true):a=b:=by
 cases a<;>cases b<;>simp[eqW]at h
 · rw[Hh h]
 · rw[Dt h]
theorem zg: ∀ {a b:List W},AY a b=true→a=b
 | [],[],_=>rfl
 |a::r,b::s,h=>by
  simp only[AY,Bool.and_eq_true]at h
  rw[G8 h.1,zg h.2]
 | [],_::_,h=>by simp[AY]at h
 |_::_,[],h=>by simp[AY]at h
theorem OU {a b:V} (h:eqV a b=true):a=b:=by
 cases a<;>cases b<;>simp[eqV]at h
 · rw[G8 h]
 · rw[zg h]
theorem bf {gY:Nat→Option bp} {CU:Nat→List W→Option V} {fuel d:Nat} (ED:DM P gY) (B3:bW P CU) {f:FuncId} {fr:bp} (hfr:gY f=some fr) {us:List W} {v:V}
 (h:oq false P (cE false P gY CU fuel d).1 (cE false P gY CU fuel d).2 fuel fr us (fun v'=>eqV v' v)=true):Fn P f us [] v []∧v.cq=true:=by
 obtain⟨h1,h2⟩:=rW ED B3 (fuel:=fuel) d
 obtain⟨v',h3,h4,h5⟩:=gy h1 h2 (ED f fr hfr) h
 have:=OU h5
 subst this
 exact⟨h3,h4⟩
end Go.aU
end
section
namespace Go.aU.Cd
open Go
abbrev t (n:Nat):dP:= .t n
abbrev k (n:Int):dP:= .c (iV .i64 n)
abbrev kb (b:Bool):dP:= .c (bV b)
abbrev kn:dP:= .c (.w (.one (.t (.val (.slice none 0 0)))))
abbrev p (d:Nat) (r:Ro):gv:=⟨some d,none,r⟩
abbrev q (r:Ro):gv:=⟨none,none,r⟩
abbrev i (n:Int):T:= .val (.int .i64 n)
abbrev u (n:Int):T:= .val (.int .u32 n)
abbrev bo (b:Bool):T:= .val (.bool b)
abbrev nl:T:= .val (.slice none 0 0)
abbrev Mv (d s:Nat):gv:=p d (.kF (t s))
abbrev Ld (d s:Nat):gv:=p d (.load none (t s))
abbrev Lo (z d s:Nat):gv:=p d (.load (some z) (t s))
abbrev Fa (d o s:Nat):gv:=p d (.xJ o (t s))
abbrev Le (d s:Nat):gv:=p d (.len (t s))
abbrev Ia (d z a b:Nat):gv:=p d (.fJ z (t a) (t b))
abbrev So (z a b:Nat):gv:=q (.store z (t a) (t b))
abbrev Mk (d:Nat) (n:Int):gv:=p d (.kF (k n))
abbrev Bt (d:Nat) (o:BinOp) (a b:Nat):gv:=p d (.bin o (t a) (t b))
abbrev Bi (d:Nat) (o:BinOp) (a:Nat) (n:Int):gv:=p d (.bin o (t a) (k n))
abbrev Et (d s n:Nat):gv:=p d (.extract (t s) n)
abbrev Pt (d a b:Nat):gv:=p d (.pick (t a) (kb true) (t b))
abbrev Pf (d a b:Nat):gv:=p d (.pick (t a) (t b) (kb false))
abbrev Bx (d s:Nat):gv:=p d (.box (t s))
abbrev Nt (d s:Nat):gv:=p d (.not (t s))
abbrev Mb (d:Nat) (b:Bool):gv:=p d (.kF (kb b))
abbrev Mn (d:Nat):gv:=p d (.kF kn)
abbrev zi:C:= .t (.val (.int .i64 0))
abbrev zn:C:= .t (.val (.slice none 0 0))
abbrev zb:C:= .t (.val (.bool false))
abbrev Ga (g:Nat) (r:gv):gv:=⟨r.dst,some (g,false),r.op⟩
abbrev Gb (g:Nat) (r:gv):gv:=⟨r.dst,some (g,true),r.op⟩
abbrev Rg (l:List gv):Rc:= .region l
abbrev Dr (l:List gv) (e:List (List Nat)):Rc:= .draw l e
abbrev Sq (a b:Rc):Rc:= .seq a b
abbrev Cn (n:Nat) (a b:Rc):Rc:= .cond (t n) a b
abbrev Bk (n:Nat) (b:Rc):Rc:= .block n b
abbrev Lp (b:Rc):Rc:= .loop b
abbrev Ex (n:Nat):Rc:= .exit n
abbrev Sk:Rc:= .skip
abbrev Rt:Rc:= .ret
variable {P:Program}
def HO (P:Program):List (Nat×bp)→Prop
 | []=>True
 |(f,fr)::r=>aN P f fr∧HO P r
theorem AT: ∀ {l:List (Nat×bp)},HO P l→DM P (find l)
 | [],_,f,fr,h=>by simp[find]at h
 |(g,gr)::r,hl,f,fr,h=>by
  rw[av]at h
  split at h
  · rename_i e
    subst e
    simp only[Option.some.injEq]at h
    subst h
    exact hl.1
  · exact AT hl.2 f fr h
def bR:List (Nat×List W×V)→Nat→List W→Option V
 | [],_,_=>none
 |(g,ar,v)::r,f,us=>gi (Nat.beq g f&&AY ar us) (some v) (bR r f us)
theorem Iy:bW P (bR []):=fun f us v h=>by simp[bR]at h
theorem aV {l:List (Nat×List W×V)} {g:Nat} {ar:List W} {v:V} (h:bW P (bR l)) (he:Fn P g ar [] v []∧v.cq=true):bW P (bR ((g,ar,v)::l)):=by
 intro f us v' hv
 simp only[bR]at hv
 cases hc:(Nat.beq g f&&AY ar us)with
 |true=>
  rw[hc]at hv
  simp only[gi,Option.some.injEq]at hv
  subst hv
  simp only[Bool.and_eq_true,Nat.beq_eq]at hc
  obtain⟨rfl,h2⟩:=hc
  rw[←zg h2]
  exact he
 |false=>
  rw[hc]at hv
  exact h f us v' hv
end Go.aU.Cd
end
section
namespace Go.aU
open Go
variable {P:Program} {M A:Nat→Prop} {ρ:Env} {F:Nat→Prop} {st:St} {a:Act} {w:World}
theorem kT.MB {ops:Array Oper} {i:Nat} {K:St→Nat→Prop} {ctr:Nat} (h:kT P ops i K st ctr): ∃st' c',K st' c'∧kT P ops i (fun s c=>s=st'∧c=c') st ctr:=by
 unfold kT at h⊢
 split at h
 · exact⟨st,ctr,h,⟨rfl,rfl⟩⟩
 · obtain⟨hd,h⟩:=h
   split at h
   · exact h.elim
   · rename_i hg
     exact⟨_,_,h,hd,by simp only[hg];exact⟨trivial,trivial⟩⟩
   · rename_i hg
     rcases h with h|h
     · obtain⟨g,us,hc,he,v,heap',c',h1,h2⟩:=h
       exact⟨_,_,h2,hd,by simp only[hg];refine .inl ⟨g,us,hc,he,v,heap',c',h1,?_⟩;first|trivial|exact⟨rfl,rfl⟩|exact⟨trivial,trivial⟩⟩
     · obtain⟨v,heap',h1,h2⟩:=h
       exact⟨_,_,h2,hd,by simp only[hg];refine .inr ⟨v,heap',h1,?_⟩;first|trivial|exact⟨rfl,rfl⟩|exact⟨trivial,trivial⟩⟩
theorem JE.toWp {ops:Array Oper} {o:Oper} {i n:Nat} {x:Ro} {g:Option (Nat×Bool)} {ctr:Nat} {tm:TS} {hp:HS} {K:TS→HS→Nat→Prop}
 (hi:ops[i]? =some o) (hx:bk P o=some x) (hgd:gU ops o g) (h:JE P n ⟨o.dst,g,x⟩ tm hp ctr K):
 ∃bh,(∀t,find bh t=find tm t)∧kT P ops i (nD n K) ⟨n,bh,hp⟩ ctr:=by
 unfold JE at h
 split at h
 · exact h.elim
 · rename_i hd
   simp only at hd
   have gE: ∀ {bh:TS},(∀t,find bh t=find tm t)→aY ops o bh=some false→K (eJ bh o.dst (.ep [])) hp ctr→ ∃bh,(∀t,find bh t=find tm t)∧kT P ops i (nD n K) ⟨n,bh,hp⟩ ctr:=by
    intro bh he jk hK
    refine⟨bh,he,?_⟩
    unfold kT
    simp only[hi]
    refine⟨hd,?_⟩
    simp only[jk,kB]
    exact⟨rfl,hK⟩
   have wanted: ∀ {bh:TS},(∀t,find bh t=find tm t)→aY ops o bh=some true→wN P n ⟨o.dst,g,x⟩ bh hp ctr K→ ∃bh,(∀t,find bh t=find tm t)∧kT P ops i (nD n K) ⟨n,bh,hp⟩ ctr:=by
    intro bh he jk hX
    exact⟨bh,he,wN.wpOp (st:=⟨n,bh,hp⟩) hi hx hd jk hX⟩
   rcases hgd with⟨BB,rfl⟩|⟨j,want,d,BB,hj,rfl⟩
   · simp only at h
     exact wanted (fun _=>rfl) (by simp[aY,BB]) h
   · have eR: ∀ {bh:TS} {b:Bool},find bh d=some (bV b)→aY ops o bh=some (b==want):=by
      intro bh b hf
      simp only[aY,BB,hj,hf]
     simp only at h
     split at h
     · rename_i b hf
       have lit: ∀ {c:Bool},b=c→ ∀t,find ((d,bV c)::tm) t=find tm t:=by
        intro c hb t
        subst hb
        simp only[av]
        split
        · rename_i e;subst e;exact hf.symm
        · rfl
       split at h
       · rcases jg h with⟨hb,h⟩|⟨hb,h⟩
         · exact wanted (lit hb) (by rw[eR (b:=true) (by simp[av])];rfl) h
         · exact gE (lit hb) (by rw[eR (b:=false) (by simp[av])];rfl) h
       · rcases jg h with⟨hb,h⟩|⟨hb,h⟩
         · exact gE (lit hb) (by rw[eR (b:=true) (by simp[av])];rfl) h
         · exact wanted (lit hb) (by rw[eR (b:=false) (by simp[av])];rfl) h
     · rename_i hf
       exact gE (fun _=>rfl) (by simp only[aY,BB,hj,hf]) h
     · exact h.elim
theorem zR {K:TS→HS→Nat→Prop} {Q:Exit→TS→HS→Nat→Prop} {e:Exit} (h:e≠ .normal):gZ K Q e=Q e:=by
 cases e<;>first|rfl|exact absurd rfl h
theorem Fw {K:St→Nat→Prop} {Q:Exit→St→Nat→Prop} {e:Exit} (h:e≠ .normal):Fx K Q e=Q e:=by
 cases e<;>first|rfl|exact absurd rfl h
theorem DQ {id:Nat} {Q:Exit→TS→HS→Nat→Prop} {e:Exit} (h: ∀i,e≠ .exit i):xW id Q e=Q e:=by
 cases e<;>first|rfl|exact absurd rfl (h _)
theorem E3 {id:Nat} {Q:Exit→St→Nat→Prop} {e:Exit} (h: ∀i,e≠ .exit i):rj id Q e=Q e:=by
 cases e<;>first|rfl|exact absurd rfl (h _)
def Is (st':St) (c':Nat):St→Nat→Prop:=fun s c=>s=st'∧c=c'
theorem th.MB {ops:Array Oper} {n:Nat} {K:TS→HS→Nat→Prop}: ∀ {l:List Oper} {rs:List gv} {k:Nat} {tm:TS} {hp:HS} {ctr:Nat},
 (∀j,ops[k+j]? =l[j]?)→aW P ops l=some rs→th P n rs tm hp ctr K→
 ∃st' c',nD n K st' c'∧ ∀ (M A:Nat→Prop) (ρ:Env) (a:Act) (w:World) (Q:Exit→Act→World→Prop),Rel M A ρ (bC ctr) ⟨n,tm,hp⟩ a w→(∀a' w',Post M A ρ w (Is st' c') a' w'→Q .normal a' w')→
  wpOps P ops Q (List.range' k l.length) a w
 | [],rs,k,tm,hp,ctr,hl,eP,h=>by
   simp only[aW,Option.some.injEq]at eP
   subst eP
   exact⟨⟨n,tm,hp⟩,ctr,⟨rfl,h⟩,fun M A ρ a w Q hr hq=>hq _ _ (Post.here hr ⟨rfl,rfl⟩)⟩
 |o::l,rs,k,tm,hp,ctr,hl,eP,h=>by
  simp only[aW]at eP
  split at eP
  · rename_i x l' hx hl'
    have hi:ops[k]? =some o:=by simpa using hl 0
    obtain⟨g,rfl,hgd⟩:=jv eP
    simp only[th]at h
    obtain⟨bh,he,hw⟩:=JE.toWp (ops:=ops) hi hx hgd h
    obtain⟨st1,c1,⟨tA,hK1⟩,Ey⟩:=kT.MB hw
    obtain⟨n1,ny,hp1⟩:=st1
    simp only at tA hK1
    subst tA
    obtain⟨st2,c2,hK2,hw2⟩:=th.MB (k:=k+1) (fun j=>by have:=hl (j+1);rw[show k+1+j=k+(j+1) by omega,this];simp) hl' hK1
    refine⟨st2,c2,hK2,fun M A ρ a w Q hr hq=>?_⟩
    rw[List.length_cons,List.range'_succ,wpOps_cons]
    have dn:Rel M A ρ (bC ctr) ⟨n1,bh,hp⟩ a w:=hr.forget rfl (fun t v hv=>by rw[←he t];exact hv) (fun _ _ hb=>hb)
    refine kT.sound Ey dn fun a' w' aH=>?_
    obtain⟨st',c',A',ρ',⟨rfl,rfl⟩,h2,h3,h4,h5⟩:=aH
    exact hw2 M A' ρ' a' w' Q h2 fun a2 w2 hp2=>hq _ _ (hp2.trans h3 h4 h5)
  · simp at eP
theorem X.MB {n:Nat}: ∀ {c:Code} {r:Rc},ae P c=some r→ ∀ {Q:Exit→TS→HS→Nat→Prop} {tm:TS} {hp:HS} {ctr:Nat},X P n r Q tm hp ctr→
 ∃e st' c',nD n (Q e) st' c'∧Wp P c (fun e2 s c=>e2=e∧Is st' c' s c) ⟨n,tm,hp⟩ ctr:=by
 intro c
 induction c with
 |skip=>
  intro r hr Q tm hp ctr h
  simp only[ae,Option.some.injEq]at hr
  subst hr
  exact⟨.normal,⟨n,tm,hp⟩,ctr,⟨rfl,h⟩,Wp.skip ⟨rfl,rfl,rfl⟩⟩
 |ret=>
  intro r hr Q tm hp ctr h
  simp only[ae,Option.some.injEq]at hr
  subst hr
  exact⟨.ret,⟨n,tm,hp⟩,ctr,⟨rfl,h⟩,Wp.ret ⟨rfl,rfl,rfl⟩⟩
 |exit id=>
  intro r hr Q tm hp ctr h
  simp only[ae,Option.some.injEq]at hr
  subst hr
  exact⟨.exit id,⟨n,tm,hp⟩,ctr,⟨rfl,h⟩,Wp.exit ⟨rfl,rfl,rfl⟩⟩
 |seq x y Gi Gh=>
  intro r hr Q tm hp ctr h
  simp only[ae]at hr
  split at hr
  · rename_i rx ry hx hy
    simp only[Option.some.injEq]at hr
    subst hr
    simp only[X]at h
    obtain⟨e1,st1,c1,⟨tA,h1⟩,w1⟩:=Gi hx h
    obtain⟨n1,ny,hp1⟩:=st1
    simp only at tA h1
    subst tA
    by_cases mN:e1= .normal
    · subst mN
      obtain⟨e2,st2,c2,h2,w2⟩:=Gh hy h1
      refine⟨e2,st2,c2,h2,Wp.seq (w1.mono ?_)⟩
      rintro e s c ⟨rfl,rfl,rfl⟩
      exact w2
    · rw[zR mN]at h1
      refine⟨e1,⟨n1,ny,hp1⟩,c1,⟨rfl,h1⟩,Wp.seq (w1.mono ?_)⟩
      rintro e s c ⟨rfl,rfl,rfl⟩
      rw[Fw mN]
      exact⟨rfl,rfl,rfl⟩
  · simp at hr
 |cond c x y Gi Gh=>
  intro r hr Q tm hp ctr h
  simp only[ae]at hr
  split at hr
  · rename_i rx ry hx hy
    simp only[Option.some.injEq]at hr
    subst hr
    simp only[X]at h
    split at h
    · rename_i b hb
      have hb':((⟨n,tm,hp⟩:St).get c).gp =some b:=by rw[←bj];exact hb
      rcases jg h with⟨rfl,h⟩|⟨rfl,h⟩
      · obtain⟨e,s,c',h1,h2⟩:=Gi hx h
        exact⟨e,s,c',h1,Wp.cond hb' h2⟩
      · obtain⟨e,s,c',h1,h2⟩:=Gh hy h
        exact⟨e,s,c',h1,Wp.cond hb' h2⟩
    · exact h.elim
  · simp at hr
 |block id b ih=>
  intro r hr Q tm hp ctr h
  simp only[ae]at hr
  split at hr
  · rename_i rb hb
    simp only[Option.some.injEq]at hr
    subst hr
    simp only[X]at h
    obtain⟨e1,st1,c1,⟨tA,h1⟩,w1⟩:=ih hb h
    cases e1 with
    |exit id'=>
     simp only[xW]at h1
     split at h1
     · rename_i bN
       refine⟨_,_,_,⟨tA,h1⟩,Wp.block (w1.mono ?_)⟩
       rintro e s c ⟨rfl,rfl,rfl⟩
       simp only[rj,bN,if_true]
       exact⟨trivial,rfl,rfl⟩
     · rename_i bN
       refine⟨_,_,_,⟨tA,h1⟩,Wp.block (w1.mono ?_)⟩
       rintro e s c ⟨rfl,rfl,rfl⟩
       simp only[rj,bN,if_false]
       exact⟨trivial,rfl,rfl⟩
    |_=>
     rw[DQ (by simp)]at h1
     refine⟨_,st1,c1,⟨tA,h1⟩,Wp.block (w1.mono ?_)⟩
     rintro e s c ⟨rfl,rfl,rfl⟩
     rw[E3 (by simp)]
     exact⟨rfl,rfl,rfl⟩
  · simp at hr
 |loop b ih=>
  intro r hr Q tm hp ctr h
  simp only[ae]at hr
  split at hr
  · rename_i rb hb
    simp only[Option.some.injEq]at hr
    subst hr
    simp only[X]at h
    obtain⟨I,apE,B4⟩:=h
    obtain⟨sH,oZ,c0,HX,m,hI⟩:=apE.get
    have key: ∀ (m:Nat) (tm:TS) (hp:HS) (c:Nat),I m tm hp c→ ∃e st' c',nD n (Q e) st' c'∧ ∀ (M A:Nat→Prop) (ρ:Env) (a:Act) (w:World) (b':Frame) (kk:List _) (cs:List _),Rel M A ρ (bC c) ⟨n,tm,hp⟩ a w→
     ∃a' w',Post M A ρ w (Is st' c') a' w'∧Arrives P (lone (b'.at a (.code b:: .inLoop b::kk)) cs w) b' kk cs e a' w':=by
     intro m
     induction m using Nat.strongRecOn with
     |_ m ihm=>
      intro tm hp c hI
      obtain⟨e1,st1,c1,⟨tA,h1⟩,w1⟩:=ih hb (B4 m tm hp c hI)
      obtain⟨n1,ny,hp1⟩:=st1
      simp only at tA h1
      subst tA
      by_cases mN:e1= .normal
      · subst mN
        obtain⟨tm3,hp3,c3,hw3,m',hm',Td⟩:=bQ.get h1
        obtain⟨e2,st2,c2,h2,rV⟩:=ihm m' hm' _ _ _ Td
        refine⟨e2,st2,c2,h2,fun M A ρ a w b' kk cs hr=>?_⟩
        obtain⟨e,a1,It,⟨rfl,st',c',A',ρ',⟨rfl,rfl⟩,r2,r3,r4,r5⟩,jJ⟩:=(by
         obtain⟨e,a1,It,hp1,jJ⟩:=w1 M A ρ a w hr b' (.inLoop b::kk) cs
         obtain⟨st',c',A',ρ',⟨he,hs⟩,r⟩:=hp1
         exact⟨e,a1,It,⟨he,st',c',A',ρ',hs,r⟩,jJ⟩: ∃e a1 It,(e=Exit.normal∧ ∃st' c' A' ρ',Is ⟨n1,ny,hp1⟩ c1 st' c'∧Rel M A' ρ' (bC c') st' a1 It∧df M w It∧iO ρ ρ'∧fP M A A' w)∧Arrives P (lone (b'.at a (.code b:: .inLoop b::kk)) cs w) b' (.inLoop b::kk) cs e a1 It)
        obtain⟨A2,ρ2,uN,Df,xA⟩:=hw3 _ _ _ _ _ _ r2
        obtain⟨a2,w2,hp2,AN⟩:=rV M A2 ρ2 a1 It b' kk cs uN
        exact⟨a2,w2,hp2.trans r3 (r4.trans Df) (r5.trans xA r3.size), .of_steps (Steps.trans jJ (.one step_inLoop)) AN⟩
      · rw[zR mN]at h1
        refine⟨e1,⟨n1,ny,hp1⟩,c1,⟨rfl,h1⟩,fun M A ρ a w b' kk cs hr=>?_⟩
        obtain⟨e,a1,It,aoA,jJ⟩:=w1 M A ρ a w hr b' (.inLoop b::kk) cs
        obtain⟨st',c',A',ρ',⟨rfl,hs⟩,r⟩:=aoA
        refine⟨a1,It,⟨st',c',A',ρ',hs,r⟩,?_⟩
        cases e with
        |normal=>exact absurd rfl mN
        |_=>exact .pass (x:= .inLoop b) rfl (fun _ _=> .inl (by simp)) jJ
    obtain⟨e,st',c',h1,h2⟩:=key m _ _ _ hI
    refine⟨e,st',c',h1,Wp.Fs (st:=⟨n,tm,hp⟩) HX ?_⟩
    intro M A ρ a w hr b' kk cs
    obtain⟨a',w',aH,jJ⟩:=h2 M A ρ a w b' kk cs hr
    obtain⟨s1,s2,s3,s4,s5,s6⟩:=aH
    exact⟨e,a',w',⟨s1,s2,s3,s4,⟨rfl,s5⟩,s6⟩, .of_steps (.one step_loop) jJ⟩
  · simp at hr
 |region id ops d=>
  intro r hr Q tm hp ctr h
  cases d with
  |true=>
   simp only[ae]at hr
   split at hr
   · rename_i l hl
     split at hr
     · rename_i hc
       simp only[Bool.and_eq_true]at hc
       simp only[Option.some.injEq]at hr
       subst hr
       simp only[X]at h
       obtain⟨tmT,hpT,v,fs,⟨q0,q1⟩,_,q3,q4,q5⟩:=qd.trace (P:=P) (ops:=ops) (n:=n) (base:=ctr) (k:=0) (fun j=>by simp) hl rfl (by simpa using h)
       simp only[Nat.zero_add]at q1 q5
       refine⟨.normal,⟨n,tmT ops.size,hpT ops.size⟩,ctr+4 * ops.size,⟨rfl,by simpa using q1⟩,?_⟩
       intro M A ρ a w cH
       have AF:Rel M A ρ (bC ctr) ⟨n,tmT 0,hpT 0⟩ a w:=cH.forget rfl (fun t u hu=>by rw[←q3 t];exact hu) (fun k b hb=>by rw[q4]at hb;exact hb)
       refine vw hc.1 (fun i o ho=>q5 i o (by simpa using ho)) (fun i o ho e he=>?_) q0 AF ?_
       · have:=je hc.2 i (bg o) (by simp[ho]) e he
         omega
       · rintro a' w' ⟨st',c',A',ρ',⟨rfl,rfl⟩,h2⟩
         exact⟨_,_,A',ρ',⟨rfl,rfl,rfl⟩,h2⟩
     · simp at hr
   · simp at hr
  |false=>
   simp only[ae]at hr
   split at hr
   · rename_i l hl
     simp only[Option.some.injEq]at hr
     subst hr
     simp only[X]at h
     obtain⟨st',c',h1,h2⟩:=th.MB (P:=P) (ops:=ops) (k:=0) (l:=ops.toList) (fun j=>by simp) hl h
     refine⟨.normal,st',c',h1,fun M A ρ a w cH=>wp_region ?_⟩
     have:=h2 M A ρ a w (fun e a' w'=>Post M A ρ w (fun s c=>e= .normal∧Is st' c' s c) a' w') cH (fun a' w' hp=>by
      obtain⟨s1,s2,s3,s4,s5,s6⟩:=hp
      exact⟨s1,s2,s3,s4,⟨rfl,s5⟩,s6⟩)
     rw[List.range_eq_range']
     simpa using this
   · simp at hr
 |_=>intro r hr;simp[ae]at hr
def agA (P:Program) (rs:List ResultVar) (Good:List W→Prop):Exit→TS→HS→Nat→Prop
 | .normal,tm,hp,_| .ret,tm,hp,_=> ∃us ts,aP P hp tm rs=some us∧bK (bM hp) us=some ts∧Good ts
 |_,_,_,_=>False
theorem ah {f:FuncId} {fn:Func} {c:Code} {r:Rc} {args:List W} {n:Nat} {rs:List ResultVar} {Good:List W→Prop} (hf:P.funcs[f]? =some fn) (hb:fn.body=some c) (hr:ae P c=some r)
 (hn:fn.ntmps=n) (eP:fn.results.toList=rs) (hl:args.length≤n) (h:X P n r (agA P rs Good) (de 0 args) [] 4): ∃ts,Fn P f args [] (aT ts) []∧(aT ts).cq=true∧Good ts:=by
 subst hn
 subst eP
 obtain⟨e,st',c',⟨hn',hq⟩,hw⟩:=X.MB hr h
 obtain⟨n',bh,aH⟩:=st'
 simp only at hn' hq
 subst hn'
 have main: ∀us ts,rR e→aP P aH bh fn.results.toList=some us→bK (bM aH) us=some ts→Good ts→ ∃ts,Fn P f args [] (aT ts) []∧(aT ts).cq=true∧Good ts:=by
  intro vs ts he fZ hts hg
  refine⟨ts,?_,uf ?_,hg⟩
  · intro w A ρ xs hH hxs
    refine calls_of_wp hf hb ?_
    have hl':args.length=xs.size:=by simpa using hxs.1
    have cH:Rel (fun b=>o3 ρ [] b∨w.heap.size≤b) A ρ (bC 4) ⟨fn.ntmps,de 0 args,[]⟩ {tmps:=xs++Array.replicate (fn.ntmps - xs.size) undef,defers:=[]} w:=by
     refine⟨by simp;omega,rfl,fun t v hv=>?_,hH.heap,hH.inj,hH.fresh,hH.bound,hH.may,hH.dW⟩
     obtain⟨_,u,hu,rfl⟩:=eE _ _ _ _ hv
     simp only[Nat.sub_zero]at hu
     have ht:t < xs.size:=by rw[←hl'];exact(List.getElem?_eq_some_iff.1 hu).1
     have AD:xs.toList[t]? =some xs[t]:=by simp[ht]
     have:=hxs.2 t u _ hu AD
     have e:(xs++Array.replicate (fn.ntmps - xs.size) undef).getD t undef=xs[t]:=by simp[Array.getD_eq_getD_getElem?,Array.getElem?_append_left ht,ht]
     rw[e]
     exact this
    refine wp_mono (hw _ A ρ _ w cH) ?_
    rintro e2 a' w' ⟨st2,c2,A',ρ',⟨rfl,rfl,rfl⟩,dn,dJ,cI,QC⟩
    have jk:=xC hH.bound QC
    obtain⟨ws,hvs,hR⟩:=eu dn fZ
    have hm:(fn.results.mapM fun(r:ResultVar)=>match r with
     | .tmp t=>(pure (a'.tmps.getD t undef):Sem Value)
     | .cell b t=>do loadVar t (←asAddr (a'.tmps.getD b undef))).run P w'= .ok ws.toArray w':=by
     rw[Array.mapM_eq_mapM_toList]
     simp only[Sem.run_map]
     exact(congrArg (fun r:Result (List Value)=>Result.andThen r fun a w'=>Result.ok a.toArray w') hvs).trans rfl
    have hrun:(results fn a'.tmps).run P w'= .ok (if h:ws.toArray.size=1 then ws.toArray[0]else .tuple ws.toArray) w':=by
     show(Bind.bind (fn.results.mapM fun(r:ResultVar)=>match r with
      | .tmp t=>(pure (a'.tmps.getD t undef):Sem Value)
      | .cell b t=>do loadVar t (←asAddr (a'.tmps.getD b undef))) fun vs=>Pure.pure (if h:vs.size=1 then vs[0]else .tuple vs)).run P w'=_
     rw[Sem.run_bind,hm]
     rfl
    have hB: ∀id blk b,find aH id=some blk→ρ' id=some (.fN b)→¬A b:=by
     intro id blk b hf hρ hA
     have hM:=(Rel.own dn hf hρ).1
     rcases hM with⟨id',fz,me,_⟩|hM
     · simp[find]at me
     · have:=hH.bound b hA
       omega
    have hlen:=gK hts
    have one: ∀ (k:Nat) (u:W) (y:Value),ts[k]? =some u→(∀v,vs[k]? =some v→RW w' A' ρ' v y)→RW w' A ρ u y:=by
     intro k u y hu hv
     obtain⟨v,jW,EC⟩:=ew hts k u hu
     exact iy dn (fun b hb=>jk.1 b hb) hB EC (hv v jW) ρ
    have fin:a'.defers=[]∧ ∃v,(results fn a'.tmps).run P w'= .ok v w'∧ ∃x A' ρ' F',Ending.returned v= .returned x∧RV w' A' ρ' (aT ts) x∧HR (fun b=>o3 ρ [] b∨w.heap.size≤b) A' ρ' F' [] w'∧
     df (fun b=>o3 ρ [] b∨w.heap.size≤b) w w'∧iO ρ ρ'∧bJ A A' w:=by
     refine⟨dn.defers,_,hrun,_,A,ρ,bC 4,rfl,?_,⟨rfl,rfl,fun t v hv=>by simp[find]at hv,fun id blk hb=>by simp[find]at hb,fun id id' b b' q hb=>by simp[find]at hb,hH.fresh,fun b hb=>Nat.lt_of_lt_of_le (hH.bound b hb) dJ.size,fun b hb=> .inr (Nat.le_trans dJ.size hb),hH.dW.ET dJ (fun _ _ h=>h)⟩,dJ,iO.refl _,bJ.refl _ _⟩
     match vs,ws,ts,hR,hlen,one with
     | [],[],[],_,_,_=>exact⟨#[],by simp,rfl,by simp⟩
     | [u],[v],[t],hR,_,one=>exact one 0 t v rfl (fun v' jW=>by simp only[List.getElem?_cons_zero,Option.some.injEq]at jW;subst jW;exact hR.2 0 u v rfl rfl)
     |u::u2::r,v::v2::s,t::t2::q,hR,hlen,one=>
      have hne:¬ (v::v2::s).toArray.size=1:=by simp
      simp only[hne,dite_false]
      refine⟨_,rfl,?_,fun k x y hx hy=>one k x y hx (fun v' jW=>hR.2 k v' y jW (by simpa using hy))⟩
      have:=hR.1
      simp at this hlen⊢
      omega
     | [],_::_,_,hR,_,_=>exact absurd hR.1 (by simp)
     |_::_,[],_,hR,_,_=>exact absurd hR.1 (by simp)
     | [_],_::_::_,_,hR,_,_=>exact absurd hR.1 (by simp)
     |_::_::_,[_],_,hR,_,_=>exact absurd hR.1 (by simp)
     | [],[],_::_,_,hlen,_=>simp at hlen
     | [_],[_],[],_,hlen,_=>simp at hlen
     | [_],[_],_::_::_,_,hlen,_=>simp at hlen
     |_::_::_,_::_::_,[],_,hlen,_=>simp at hlen
     |_::_::_,_::_::_,[_],_,hlen,_=>simp at hlen
    rcases he with rfl|rfl
    · exact fin
    · exact fin
  · rw[List.all_eq_true]
    intro u hu
    obtain⟨k',hk',hke⟩:=List.getElem_of_mem hu
    obtain⟨v,_,EC⟩:=ew hts k' u (by rw[←hke];simp[hk'])
    exact gj EC
 cases e with
 |normal=>obtain⟨us,ts,h1,h2,h3⟩:=hq;exact main us ts (.inl rfl) h1 h2 h3
 |ret=>obtain⟨us,ts,h1,h2,h3⟩:=hq;exact main us ts (.inr rfl) h1 h2 h3
 |_=>exact hq.elim
end Go.aU
end
section
namespace Go.aU
open Go
variable {P:Program} {M A:Nat→Prop} {ρ:Env} {F:Nat→Prop} {st:St} {a:Act} {w:World}
theorem HB.az {M2:Nat→Prop} {ρ2:Env} {f:Nat→Option Nat} {id k:Nat} {blk:bD} (h:HB w M A ρ id blk) (hρ: ∀id k l,f id=some k→ρ id=some l→ρ2 k=some l)
 (hk: ∀l,ρ id=some l→ρ2 k=some l) (hM: ∀b,ρ id=some (.fN b)→M b→M2 b):HB w M2 A ρ2 k (blk.az f):=by
 cases blk with
 |row sz xs=>
  obtain⟨q1,q2⟩:=h
  refine⟨fun e he=>?_,?_⟩
  · simp only[List.mem_map]at he
    obtain⟨e',he',rfl⟩:=he
    simpa using q1 e' he'
  · rcases q2 with⟨b,c,e,k1,k2,k3,k4,k5,k6⟩|⟨k1,k2⟩
    · refine .inl ⟨b,c,e,hk _ k1,hM b k1 k2,k3,k4,by simpa using k5,fun i el j q hi hj=>?_⟩
      simp only[List.getElem?_map,Option.map_eq_some_iff]at hi
      obtain⟨BE,AK,rfl⟩:=hi
      simp only[List.getElem?_map,Option.map_eq_some_iff]at hj
      obtain⟨q',De,rfl⟩:=hj
      obtain⟨y,hy,dn,h1⟩:=k6 i BE j q' AK De
      exact⟨y,hy,dn.az hρ,h1⟩
    · exact .inr ⟨hk _ k1,by rw[k2];rfl⟩
 |mp es clock=>
  obtain⟨b,en,k1,k2,k3,k4,k5,k6⟩:=h
  refine⟨b,en,hk _ k1,hM b k1 k2,k3,k4,by simpa using k5,fun i k c n hi=>?_⟩
  simp only[List.getElem?_map,Option.map_eq_some_iff]at hi
  obtain⟨⟨k',c',n'⟩,hi',he⟩:=hi
  simp only[Prod.mk.injEq]at he
  obtain⟨rfl,rfl,rfl⟩:=he
  obtain⟨e,h1,h2,h3,h4,h5⟩:=k6 i k' c' n' hi'
  exact⟨e,h1,h2,h3,h4.az hρ,h5.az⟩
theorem HB.some {id:Nat} {blk:bD} (h:HB w M A ρ id blk): ∃l,ρ id=some l:=by
 cases blk with
 |row sz xs=>rcases h.2 with⟨b,c,e,k1,_⟩|⟨k1,_⟩<;>exact⟨_,k1⟩
 |mp es clock=>obtain⟨b,en,k1,_⟩:=h;exact⟨_,k1⟩
def bB:List Nat→Nat→Option Nat
 | [],_=>none
 |x::r,id=>if x=id then some 0 else(bB r id).map (· +1)
theorem dV: ∀ {ids:List Nat} {id k:Nat},bB ids id=some k→ids[k]? =some id
 | [],id,k,h=>by simp[bB]at h
 |x::r,id,k,h=>by
  simp only[bB]at h
  split at h
  · rename_i e;simp only[Option.some.injEq]at h;subst h;subst e;rfl
  · simp only[Option.map_eq_some_iff]at h
    obtain⟨k',h',rfl⟩:=h
    simpa using dV h'
theorem iw: ∀ {ids:List Nat} {id:Nat},bB ids id=none→ ∀k:Nat,ids[k]? ≠some id
 | [],id,_,k=>by simp
 |x::r,id,h,k=>by
  simp only[bB]at h
  split at h
  · simp at h
  · rename_i e
    simp only[Option.map_eq_none_iff]at h
    cases k with
    |zero=>simpa using e
    |succ k=>simpa using iw h k
def gb (ids:List Nat) (ctr j:Nat):Option Nat:=if j < 4 then some ((ids[j]?).getD (ctr+j))else none
def cL (f:Nat→Option Nat) (hp:List (Nat×bD)):Nat→List Nat→List (Nat×bD)
 |_,[]=>[]
 |j,id::r=>match find hp id with
  |some b=>(j,b.az f)::cL f hp (j+1) r
  |none=>cL f hp (j+1) r
theorem cr {f:Nat→Option Nat} {hp:List (Nat×bD)}: ∀ {ids:List Nat} {j k:Nat} {b:bD},find (cL f hp j ids) k=some b→ ∃i id b',k=j+i∧ids[i]? =some id∧find hp id=some b'∧b=b'.az f
 | [],j,k,b,h=>by simp[cL,find]at h
 |id::r,j,k,b,h=>by
  simp only[cL]at h
  have tl:find (cL f hp (j+1) r) k=some b→ ∃i id', ∃b',k=j+i∧(id::r)[i]? =some id'∧find hp id'=some b'∧b=b'.az f:=by
   intro h
   obtain⟨i,id',b',h1,h2,h3,h4⟩:=cr h
   exact⟨i+1,id',b',by omega,by simpa using h2,h3,h4⟩
  split at h
  · rename_i b0 hb0
    rw[av]at h
    split at h
    · rename_i e
      simp only[Option.some.injEq]at h
      exact⟨0,id,b0,by omega,rfl,hb0,h.symm⟩
    · exact tl h
  · exact tl h
def iS (ids:List Nat):List (Nat×bD)→List (Nat×bD)
 | []=>[]
 |p::r=>match bB ids p.1 with
  |some _=>iS ids r
  |none=>p::iS ids r
theorem jZ {ids:List Nat}: ∀ {hp:List (Nat×bD)} {k:Nat} {b:bD},find (iS ids hp) k=some b→bB ids k=none∧find hp k=some b
 | [],k,b,h=>by simp[iS,find]at h
 |(q,c)::r,k,b,h=>by
  simp only[iS]at h
  split at h
  · rename_i j hj
    obtain⟨h1,h2⟩:=jZ h
    refine⟨h1,?_⟩
    rw[av]
    split
    · rename_i e
      subst e
      rw[hj]at h1
      simp at h1
    · exact h2
  · rename_i hj
    rw[av]at h⊢
    split at h
    · rename_i e
      subst e
      rw[if_pos rfl]
      exact⟨hj,h⟩
    · rename_i e
      obtain⟨h1,h2⟩:=jZ h
      rw[if_neg e]
      exact⟨h1,h2⟩
def eK (g:Nat→Option Nat):List (Nat×bD)→List (Nat×bD)
 | []=>[]
 |p::r=>match g p.1 with
  |some k=>(k,p.2.az g)::eK g r
  |none=>eK g r
theorem iL {g:Nat→Option Nat} (hinj: ∀i j k,g i=some k→g j=some k→i=j): ∀ {hout:List (Nat×bD)} {k:Nat} {b:bD},find (eK g hout) k=some b→ ∃j b',g j=some k∧find hout j=some b'∧b=b'.az g
 | [],k,b,h=>by simp[eK,find]at h
 |(q,c)::r,k,b,h=>by
  simp only[eK]at h
  split at h
  · rename_i k' hk'
    rw[av]at h
    split at h
    · rename_i e
      subst e
      simp only[Option.some.injEq]at h
      exact⟨q,c,hk',by rw[av,if_pos rfl],h.symm⟩
    · rename_i e
      obtain⟨j,b',h1,h2,h3⟩:=iL hinj h
      refine⟨j,b',h1,?_,h3⟩
      rw[av,if_neg]
      · exact h2
      · intro e'
        subst e'
        rw[hk']at h1
        exact e (Option.some.inj h1)
  · rename_i hk'
    obtain⟨j,b',h1,h2,h3⟩:=iL hinj h
    refine⟨j,b',h1,?_,h3⟩
    rw[av,if_neg]
    · exact h2
    · intro e'
      subst e'
      rw[hk']at h1
      simp at h1
def uK (ids:List Nat) (ctr:Nat):Bool:=decide (ids.length≤4)&&ids.all (fun id=>decide (id < ctr))&&decide ids.Nodup
theorem zz {f:FuncId} {us args:List W} {hp hin hout:List (Nat×bD)} {ctr:Nat} {res:V} (ids:List Nat) (hok:uK ids ctr=true) (hfn:Fn P f args hin res hout)
 (ha:us.map (W.az (bB ids))=args) (hh:cL (bB ids) hp 0 ids=hin):
 fQ P f us hp ctr (res.az (gb ids ctr)) (eK (gb ids ctr) hout++iS ids hp) (ctr+4):=by
 subst ha
 subst hh
 simp only[uK,Bool.and_eq_true,decide_eq_true_eq,List.all_eq_true]at hok
 obtain⟨⟨hlen,hlt⟩,EA⟩:=hok
 have hidx: ∀ {i j id:Nat},ids[i]? =some id→ids[j]? =some id→i=j:=by
  intro i j id h1 h2
  obtain⟨hi,e1⟩:=List.getElem?_eq_some_iff.1 h1
  obtain⟨hj,e2⟩:=List.getElem?_eq_some_iff.1 h2
  exact(List.getElem_inj EA).1 (e1.trans e2.symm)
 have hinv: ∀ {j id:Nat},ids[j]? =some id→bB ids id=some j:=by
  intro j id h
  cases hi:bB ids id with
  |none=>exact absurd h (iw hi j)
  |some k=>rw[hidx (dV hi) h]
 have jH: ∀ {j id:Nat},ids[j]? =some id→id < ctr:=fun h=>hlt _ (List.mem_of_getElem? h)
 have Bz: ∀ {j id:Nat},ids[j]? =some id→j < 4:=fun h=>by have:=(List.getElem?_eq_some_iff.1 h).1;omega
 intro M A ρ a w n L xs hr hx
 let ρ0:Env:=fun j=>(ids[j]?).bind ρ
 have Of: ∀id k l,bB ids id=some k→ρ id=some l→ρ0 k=some l:=by
  intro id k l h1 h2
  simp only[ρ0,dV h1,Option.bind_some,h2]
 let M':Nat→Prop:=fun b=>o3 ρ0 (cL (bB ids) hp 0 ids) b∨w.heap.size≤b
 have Jk: ∀b,b < w.heap.size→M' b→M b∧A b:=by
  intro b hb hm
  rcases hm with⟨j,blk,hf,hρ⟩|hm
  · obtain⟨i,id,b',rfl,h2,h3,_⟩:=cr hf
    simp only[Nat.zero_add,ρ0,h2,Option.bind_some]at hρ
    exact((hr.heap id b' h3).lt hρ).2
  · omega
 have hH:HR M' A ρ0 (bC 4) (cL (bB ids) hp 0 ids) w:=by
  refine⟨rfl,rfl,fun t v hv=>by simp[find]at hv,fun j blk hf=>?_,fun j j' blk fz b h1 h2 r1 r2=>?_,fun j hj=>?_,hr.bound,fun b hb=> .inr hb,hr.dW.sub (fun b hb hm=>(Jk b hb hm).1) (fun _ h=>h)⟩
  · obtain⟨i,id,b',rfl,h2,h3,rfl⟩:=cr hf
    refine(hr.heap id b' h3).az Of (fun l hl=>by simp only[Nat.zero_add,ρ0,h2,Option.bind_some,hl]) (fun b hb _=> .inl ⟨0+i,_,hf,by simp only[Nat.zero_add,ρ0,h2,Option.bind_some,hb]⟩)
  · obtain⟨i,id,b1,rfl,h3,h4,_⟩:=cr h1
    obtain⟨i',id',b2,rfl,KG,OF,_⟩:=cr h2
    simp only[Nat.zero_add,ρ0,h3,KG,Option.bind_some]at r1 r2
    have:=hr.inj id id' b1 b2 b h4 OF r1 r2
    subst this
    rw[hidx h3 KG]
  · simp only[ρ0]
    rw[List.getElem?_eq_none (by simp only[bC]at hj;omega)]
    rfl
 have hx':tE w A ρ0 (us.map (W.az (bB ids))) xs.toList:=by
  refine⟨by simpa using hx.1,fun k u y hu hy=>?_⟩
  simp only[List.getElem?_map,Option.map_eq_some_iff]at hu
  obtain⟨u',yR,rfl⟩:=hu
  exact(hx.2 k u' y yR hy).az Of
 refine(hfn w A ρ0 xs hH hx').mono ?_
 rintro e w' ⟨x,A',ρ',F',rfl,hv,dn,dJ,cI,hg⟩
 let ρ2:Env:=fun k=>match bB ids k with
  |some j=>ρ' j
  |none=>if ctr≤k∧k < ctr+4 then ρ' (k - ctr)else ρ k
 have KE: ∀j k l,gb ids ctr j=some k→ρ' j=some l→ρ2 k=some l:=by
  intro j k l h1 h2
  simp only[gb]at h1
  split at h1
  · rename_i hj
    simp only[Option.some.injEq]at h1
    cases hi:ids[j]? with
    |some id=>
     rw[hi]at h1
     simp only[Option.getD_some]at h1
     subst h1
     simp only[ρ2,hinv hi]
     exact h2
    |none=>
     rw[hi]at h1
     simp only[Option.getD_none]at h1
     subst h1
     have hn:bB ids (ctr+j)=none:=by
      cases hq:bB ids (ctr+j)with
      |none=>rfl
      |some q=>have:=jH (dV hq);omega
     simp only[ρ2,hn]
     rw[if_pos ⟨by omega,by omega⟩,show ctr+j - ctr=j by omega]
     exact h2
  · simp at h1
 have KD: ∀i j k,gb ids ctr i=some k→gb ids ctr j=some k→i=j:=by
  intro i j k h1 h2
  simp only[gb]at h1 h2
  split at h1
  · split at h2
    · simp only[Option.some.injEq]at h1 h2
      cases hi:ids[i]? with
      |some id=>
       cases hj:ids[j]? with
       |some id'=>
        rw[hi]at h1;rw[hj]at h2
        simp only[Option.getD_some]at h1 h2
        subst h1;subst h2
        exact hidx hi hj
       |none=>
        rw[hi]at h1;rw[hj]at h2
        simp only[Option.getD_some,Option.getD_none]at h1 h2
        have:=jH hi
        omega
      |none=>
       cases hj:ids[j]? with
       |some id'=>
        rw[hi]at h1;rw[hj]at h2
        simp only[Option.getD_some,Option.getD_none]at h1 h2
        have:=jH hj
        omega
       |none=>
        rw[hi]at h1;rw[hj]at h2
        simp only[Option.getD_none]at h1 h2
        omega
    · simp at h2
  · simp at h1
 have hE:cW ρ ρ2:=by
  intro id l hl
  simp only[ρ2]
  cases hi:bB ids id with
  |some j=>
   have hj:=Bz (dV hi)
   exact cI j l hj (Of id j l hi hl)
  |none=>
   simp only
   rw[if_neg]
   · exact hl
   · rintro⟨h1,_⟩
     have:=hr.fresh id h1
     rw[this]at hl
     simp at hl
 have AJ:df M w w':=dJ.weaken (fun i hi ho=>(Jk i hi ho).1)
 have hk:dY A A' w w':=⟨dJ.size,fun b hb Gv=>⟨dJ.block b hb (fun hm=>Gv (Jk b hb hm).2),fun h=>Gv (hg.2 b hb h)⟩⟩
 have hM': ∀b,M' b→M b:=fun b hm=>by
  rcases Nat.lt_or_ge b w.heap.size with hlt|hge
  · exact(Jk b hlt hm).1
  · exact hr.may b hge
 refine⟨x,A',ρ2,rfl,⟨hr.size,hr.defers,fun t v hv=>(hr.tmps t v hv).keeps hk dJ.shape hE,fun k blk hf=>?_,fun k k' blk fz b h1 h2 r1 r2=>?_,fun k hk'=>?_,dn.bound,fun b hb=>hr.may b (Nat.le_trans dJ.size hb),hr.dW.ET AJ hg.2⟩,hv.az KE,AJ,hE,hg⟩
 · simp only[cO,Option.or_eq_some_iff]at hf
   rcases hf with hf|⟨_,hf⟩
   · obtain⟨j,b',h1,h2,rfl⟩:=iL KD hf
     exact(dn.heap j b' h2).az KE (fun l hl=>KE j k l h1 hl) (fun b _ hm=>hM' b hm)
   · obtain⟨h1,h2⟩:=jZ hf
     have hb:=hr.heap k blk h2
     refine hb.keeps hk dJ.shape hE hg.1 (fun b BD=>dJ.block b (hb.lt BD).1 ?_)
     intro hm
     rcases hm with⟨j,bl,hfj,Sl⟩|hm
     · obtain⟨i,id,b',rfl,q2,q3,_⟩:=cr hfj
       simp only[Nat.zero_add,ρ0,q2,Option.bind_some]at Sl
       have:=hr.inj k id blk b' b h2 q3 BD Sl
       subst this
       exact iw h1 i q2
     · have:=(hb.lt BD).1
       omega
 · have old: ∀ {k:Nat} {bl:bD} {b:Nat},find (iS ids hp) k=some bl→ρ2 k=some (.fN b)→find hp k=some bl∧ρ k=some (.fN b)∧bB ids k=none∧b < w.heap.size:=by
    intro k bl b hf hρ
    obtain⟨g1,g2⟩:=jZ hf
    obtain⟨l,hl⟩:=(hr.heap k bl g2).some
    have:=hE k l hl
    rw[this]at hρ
    simp only[Option.some.injEq]at hρ
    subst hρ
    exact⟨g2,hl,g1,((hr.heap k bl g2).lt hl).1⟩
   have new: ∀ {k:Nat} {bl:bD} {b:Nat},find (eK (gb ids ctr) hout) k=some bl→ρ2 k=some (.fN b)→ ∃j b',gb ids ctr j=some k∧find hout j=some b'∧ρ' j=some (.fN b):=by
    intro k bl b hf hρ
    obtain⟨j,b',g1,g2,_⟩:=iL KD hf
    obtain⟨l,hl⟩:=(dn.heap j b' g2).some
    have:=KE j k l g1 hl
    rw[this]at hρ
    simp only[Option.some.injEq]at hρ
    subst hρ
    exact⟨j,b',g1,g2,hl⟩
   have MC: ∀ {k k':Nat} {bl zO:bD} {b:Nat},find (eK (gb ids ctr) hout) k=some bl→ρ2 k=some (.fN b)→find (iS ids hp) k'=some zO→ρ2 k'=some (.fN b)→False:=by
    intro k k' bl zO b h1 r1 h2 r2
    obtain⟨j,b',g1,g2,g3⟩:=new h1 r1
    obtain⟨q1,q2,q3,q4⟩:=old h2 r2
    have hm:=((dn.heap j b' g2).lt g3).2.1
    rcases hm with⟨i,QK,hfi,hρi⟩|hm
    · obtain⟨i',id,b2,rfl,p2,p3,_⟩:=cr hfi
      simp only[Nat.zero_add,ρ0,p2,Option.bind_some]at hρi
      have:=hr.inj k' id zO b2 b q1 p3 q2 hρi
      subst this
      exact iw q3 i' p2
    · omega
   simp only[cO,Option.or_eq_some_iff]at h1 h2
   rcases h1 with h1|⟨_,h1⟩<;>rcases h2 with h2|⟨_,h2⟩
   · obtain⟨j,b',g1,g2,g3⟩:=new h1 r1
     obtain⟨j',b'',g1',g2',g3'⟩:=new h2 r2
     have:=dn.inj j j' b' b'' b g2 g2' g3 g3'
     subst this
     rw[g1]at g1'
     exact Option.some.inj g1'
   · exact(MC h1 r1 h2 r2).elim
   · exact(MC h2 r2 h1 r1).elim
   · obtain⟨q1,q2,_⟩:=old h1 r1
     obtain⟨q1',q2',_⟩:=old h2 r2
     exact hr.inj k k' _ _ b q1 q1' q2 q2'
 · simp only[bC]at hk'
   have hn:bB ids k=none:=by
    cases hq:bB ids k with
    |none=>rfl
    |some q=>have:=jH (dV hq);omega
   simp only[ρ2,hn]
   rw[if_neg (by omega)]
   exact hr.fresh k (by simp only[bC];omega)
theorem sy {f:FuncId} {us args:List W} {hp hin hout:List (Nat×bD)} {ctr:Nat} {res:V} (ids:List Nat) (hok:uK ids ctr=true) (hfn:Fn P f args hin res hout)
 (ha:us.map (W.az (bB ids))=args) (hh:cL (bB ids) hp 0 ids=hin):
 eo P f us hp ctr (res.az (gb ids ctr)) (eK (gb ids ctr) hout++iS ids hp) (ctr+4):=
 (zz ids hok hfn ha hh).m
theorem Cx {f:FuncId} {us args:List W} {hp hin:List (Nat×bD)} {res:V} (ids:List Nat) (hlen:ids.length≤4) (EA:ids.Nodup) (hsub: ∀id,id∈ids→id∈us.flatMap W.ids) (hfn:Fn P f args hin res hin)
 (ha:us.map (W.az (bB ids))=args) (hh:cL (bB ids) hp 0 ids=hin)
 (AM: ∀id,id∈ids→ ∃b,find hp id=some b∧(b.az (bB ids)).az (fun j=>ids[j]?)=b):
 HN P hp f us (res.az (fun j=>ids[j]?)):=by
 subst ha
 have hidx: ∀ {i j id:Nat},ids[i]? =some id→ids[j]? =some id→i=j:=by
  intro i j id h1 h2
  obtain⟨hi,e1⟩:=List.getElem?_eq_some_iff.1 h1
  obtain⟨hj,e2⟩:=List.getElem?_eq_some_iff.1 h2
  exact(List.getElem_inj EA).1 (e1.trans e2.symm)
 have hinv: ∀ {j id:Nat},ids[j]? =some id→bB ids id=some j:=by
  intro j id h
  cases hi:bB ids id with
  |none=>exact absurd h (iw hi j)
  |some k=>rw[hidx (dV hi) h]
 have Bz: ∀ {j id:Nat},ids[j]? =some id→j < 4:=fun h=>by have:=(List.getElem?_eq_some_iff.1 h).1;omega
 intro hp2 hag M A ρ F a w n L xs hr hx
 have Cc: ∀id,id∈ids→find hp2 id=find hp id:=fun id bN=>hag id (hsub id bN)
 have hsame: ∀ (l:List Nat) (j:Nat),(∀id,id∈l→id∈ids)→cL (bB ids) hp2 j l=cL (bB ids) hp j l:=by
  intro l
  induction l with
  |nil=>intro j _;rfl
  |cons x l ih=>
   intro j hl
   simp only[cL]
   rw[Cc x (hl x List.mem_cons_self),ih (j+1) (fun id bN=>hl id (List.mem_cons_of_mem _ bN))]
 rw[←hsame ids 0 (fun _ h=>h)]at hh
 subst hh
 let ρ0:Env:=fun j=>(ids[j]?).bind ρ
 have Of: ∀id k l,bB ids id=some k→ρ id=some l→ρ0 k=some l:=by
  intro id k l h1 h2
  simp only[ρ0,dV h1,Option.bind_some,h2]
 let M':Nat→Prop:=fun b=>o3 ρ0 (cL (bB ids) hp2 0 ids) b∨w.heap.size≤b
 have Jk: ∀b,b < w.heap.size→M' b→M b∧A b:=by
  intro b hb hm
  rcases hm with⟨j,blk,hf,hρ⟩|hm
  · obtain⟨i,id,b',rfl,h2,h3,_⟩:=cr hf
    simp only[Nat.zero_add,ρ0,h2,Option.bind_some]at hρ
    exact((hr.heap id b' h3).lt hρ).2
  · omega
 have hH:HR M' A ρ0 (bC 4) (cL (bB ids) hp2 0 ids) w:=by
  refine⟨rfl,rfl,fun t v hv=>by simp[find]at hv,fun j blk hf=>?_,fun j j' blk fz b h1 h2 r1 r2=>?_,fun j hj=>?_,hr.bound,fun b hb=> .inr hb,hr.dW.sub (fun b hb hm=>(Jk b hb hm).1) (fun _ h=>h)⟩
  · obtain⟨i,id,b',rfl,h2,h3,rfl⟩:=cr hf
    refine(hr.heap id b' h3).az Of (fun l hl=>by simp only[Nat.zero_add,ρ0,h2,Option.bind_some,hl]) (fun b hb _=> .inl ⟨0+i,_,hf,by simp only[Nat.zero_add,ρ0,h2,Option.bind_some,hb]⟩)
  · obtain⟨i,id,b1,rfl,h3,h4,_⟩:=cr h1
    obtain⟨i',id',b2,rfl,KG,OF,_⟩:=cr h2
    simp only[Nat.zero_add,ρ0,h3,KG,Option.bind_some]at r1 r2
    have:=hr.inj id id' b1 b2 b h4 OF r1 r2
    subst this
    rw[hidx h3 KG]
  · simp only[ρ0]
    rw[List.getElem?_eq_none (by simp only[bC]at hj;omega)]
    rfl
 have hx':tE w A ρ0 (us.map (W.az (bB ids))) xs.toList:=by
  refine⟨by simpa using hx.1,fun k u y hu hy=>?_⟩
  simp only[List.getElem?_map,Option.map_eq_some_iff]at hu
  obtain⟨u',yR,rfl⟩:=hu
  exact(hx.2 k u' y yR hy).az Of
 refine(hfn w A ρ0 xs hH hx').mono ?_
 rintro e w' ⟨x,A',ρ',F',rfl,hv,dn,dJ,cI,hg⟩
 let ρ2:Env:=fun k=>match bB ids k with
  |some j=>ρ' j
  |none=>ρ k
 have KE: ∀j k l,ids[j]? =some k→ρ' j=some l→ρ2 k=some l:=by
  intro j k l h1 h2
  simp only[ρ2,hinv h1]
  exact h2
 have hE:cW ρ ρ2:=by
  intro id l hl
  simp only[ρ2]
  cases hi:bB ids id with
  |some j=>exact cI j l (Bz (dV hi)) (Of id j l hi hl)
  |none=>exact hl
 have AJ:df M w w':=dJ.weaken (fun i hi ho=>(Jk i hi ho).1)
 have hk:dY A A' w w':=⟨dJ.size,fun b hb Gv=>⟨dJ.block b hb (fun hm=>Gv (Jk b hb hm).2),fun h=>Gv (hg.2 b hb h)⟩⟩
 have hM': ∀b,M' b→M b:=fun b hm=>by
  rcases Nat.lt_or_ge b w.heap.size with hlt|hge
  · exact(Jk b hlt hm).1
  · exact hr.may b hge
 have amN: ∀ (l:List Nat) (s i id:Nat) (b:bD),l.Nodup→l[i]? =some id→find hp2 id=some b→find (cL (bB ids) hp2 s l) (s+i)=some (b.az (bB ids)):=by
  intro l
  induction l with
  |nil=>intro s i id b _ h;simp at h
  |cons y l ih=>
   intro s i id b EA h hf
   cases i with
   |zero=>
    simp only[List.getElem?_cons_zero,Option.some.injEq]at h
    subst h
    simp only[cL,hf,find,Nat.add_zero,if_true]
   |succ i=>
    simp only[List.getElem?_cons_succ]at h
    have:=ih (s+1) i id b (List.nodup_cons.1 EA).2 h hf
    rw[show s+(i+1)=s+1+i by omega]
    simp only[cL]
    split
    · rw[av,if_neg (by omega)];exact this
    · exact this
 have same: ∀ {k:Nat} {l:_},ρ k=some l→ρ2 k=some l:=fun h=>hE _ _ h
 refine⟨x,A',ρ2,rfl,⟨hr.size,hr.defers,fun t v hv=>(hr.tmps t v hv).keeps hk dJ.shape hE,fun k blk hf=>?_,fun k k' blk fz b h1 h2 r1 r2=>?_,fun k hk'=>?_,dn.bound,fun b hb=>hr.may b (Nat.le_trans dJ.size hb),hr.dW.ET AJ hg.2⟩,hv.az KE,AJ,hE,hg⟩
 · cases hi:bB ids k with
   |some j=>
    have Ow:=dV hi
    have B7:=amN ids 0 j k blk EA Ow hf
    rw[Nat.zero_add]at B7
    have hb:=dn.heap j _ B7
    have:=hb.az (f:=fun j=>ids[j]?) (ρ2:=ρ2) (M2:=M) (k:=k) KE (fun l hl=>KE j k l Ow hl) (fun b _ hm=>hM' b hm)
    obtain⟨b0,hb0,jc⟩:=AM k (List.mem_of_getElem? Ow)
    rw[←Cc k (List.mem_of_getElem? Ow),hf]at hb0
    rw[←Option.some.inj hb0]at jc
    rw[jc]at this
    exact this
   |none=>
    have hb:=hr.heap k blk hf
    refine hb.keeps hk dJ.shape hE hg.1 (fun b BD=>dJ.block b (hb.lt BD).1 ?_)
    intro hm
    rcases hm with⟨j,bl,hfj,Sl⟩|hm
    · obtain⟨i,id,b',rfl,q2,q3,_⟩:=cr hfj
      simp only[Nat.zero_add,ρ0,q2,Option.bind_some]at Sl
      have:=hr.inj k id blk b' b hf q3 BD Sl
      subst this
      exact iw hi i q2
    · have:=(hb.lt BD).1
      omega
 · obtain⟨l,hl⟩:=(hr.heap k blk h1).some
   obtain⟨l',hl'⟩:=(hr.heap k' fz h2).some
   have e1:=same hl
   have e2:=same hl'
   rw[e1]at r1
   rw[e2]at r2
   simp only[Option.some.injEq]at r1 r2
   subst r1
   subst r2
   exact hr.inj k k' blk fz b h1 h2 hl hl'
 · have h0:=hr.fresh k hk'
   cases hi:bB ids k with
   |none=>simp only[ρ2,hi];exact h0
   |some j=>
    exfalso
    have Ow:=dV hi
    obtain⟨b0,hb0,_⟩:=AM k (List.mem_of_getElem? Ow)
    rw[←Cc k (List.mem_of_getElem? Ow)]at hb0
    obtain⟨l,hl⟩:=(hr.heap k b0 hb0).some
    rw[h0]at hl
    simp at hl
end Go.aU
end
