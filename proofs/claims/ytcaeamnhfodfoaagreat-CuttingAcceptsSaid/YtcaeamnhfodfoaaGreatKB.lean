import Derived.Test.YtcaeamnhfodfoaaGreatKA
import Derived.Laws.Strings
import Derived.Test.YtcaeamnhfodfoaaGreatProg
set_option linter.all false
section
namespace Go.aS
open Go
variable {P:Program} {M A:Nat→Prop} {ρ:Env} {F:Nat→Prop} {a:Act} {w:World}
def ud (ids:List Nat) (src h:HS):HS:=
 ids.foldl (fun h id=>match find src id with|some b=>(id,b)::del h id|none=>del h id) h
theorem gf (src:HS) (id:Nat): ∀ (ids:List Nat) (h:HS),find (ud ids src h) id=if id∈ids then find src id else find h id
 | [],h=>by simp[ud]
 |k::r,h=>by
  have ih:=gf src id r (match find src k with|some b=>(k,b)::del h k|none=>del h k)
  simp only[ud,List.foldl_cons]at ih⊢
  rw[ih]
  by_cases hr:id∈r
  · simp[hr]
  · simp only[hr,if_false,List.mem_cons,or_false]
    by_cases hk:id=k
    · subst hk
      simp only[if_true]
      cases hs:find src id with
      |none=>simp[de]
      |some b=>simp[aq]
    · simp only[hk,if_false]
      have hk':¬k=id:=fun e=>hk e.symm
      cases hs:find src k with
      |none=>simp[de,hk]
      |some b=>simp[aq,de,hk,hk']
section
variable (dst:Nat→Option Nat) (v:Nat→V) (wr:Nat→List Nat) (hpT:Nat→HS) (sI:TS) (o6:HS)
def nE (L:Nat→Bool):Nat→TS
 |0=>sI
 |i+1=>if L i then eL (nE L i) (dst i) (v i)else nE L i
def nJ (L:Nat→Bool):Nat→HS
 |0=>o6
 |i+1=>if L i then ud (wr i) (hpT (i+1)) (nJ L i)else nJ L i
theorem gh (tm:TS) (d:Option Nat) (u:V) (t:Nat):find (eL tm d u) t=if d=some t then some u else find tm t:=by
 cases d with
 |none=>simp[eL]
 |some d=>simp only[eL,aq,Option.some.injEq]
theorem mu (L1 L2:Nat→Bool) (t:Nat): ∀k,(∀i,i < k→dst i=some t→L1 i=L2 i)→find (nE dst v sI L1 k) t=find (nE dst v sI L2 k) t
 |0,_=>rfl
 |k+1,h=>by
  have ih:=mu L1 L2 t k (fun i hi=>h i (by omega))
  simp only[nE]
  by_cases hd:dst k=some t
  · rw[h k (by omega) hd]
    split
    · simp only[gh,hd,if_true]
    · exact ih
  · have e: ∀ (L:Nat→Bool),find (if L k then eL (nE dst v sI L k) (dst k) (v k)else nE dst v sI L k) t=find (nE dst v sI L k) t:=by
     intro L
     split
     · simp only[gh,hd,if_false]
     · rfl
    rw[e L1,e L2,ih]
theorem yt (L:Nat→Bool) (t i:Nat) (hd:dst i=some t) (hL:L i=true): ∀k,i < k→(∀j,i < j→j < k→dst j=some t→L j=false)→find (nE dst v sI L k) t=some (v i)
 |0,h,_=>by omega
 |k+1,h,hj=>by
  simp only[nE]
  by_cases e:i=k
  · subst e
    simp only[hL,if_true,gh,hd]
  · have ih:=yt L t i hd hL k (by omega) (fun j h1 h2=>hj j h1 (by omega))
    by_cases hk:dst k=some t
    · rw[hj k (by omega) (by omega) hk]
      exact ih
    · split
      · simp only[gh,hk,if_false];exact ih
      · exact ih
theorem mN (L1 L2:Nat→Bool) (id:Nat): ∀k,(∀i,i < k→id∈wr i→L1 i=L2 i)→find (nJ wr hpT o6 L1 k) id=find (nJ wr hpT o6 L2 k) id
 |0,_=>rfl
 |k+1,h=>by
  have ih:=mN L1 L2 id k (fun i hi=>h i (by omega))
  simp only[nJ]
  by_cases hd:id∈wr k
  · rw[h k (by omega) hd]
    split
    · simp only[gf,hd,if_true]
    · exact ih
  · have e: ∀ (L:Nat→Bool),find (if L k then ud (wr k) (hpT (k+1)) (nJ wr hpT o6 L k)else nJ wr hpT o6 L k) id=find (nJ wr hpT o6 L k) id:=by
     intro L
     split
     · simp only[gf,hd,if_false]
     · rfl
    rw[e L1,e L2,ih]
theorem zi (L:Nat→Bool) (id i:Nat) (hd:id∈wr i) (hL:L i=true): ∀k,i < k→(∀j,i < j→j < k→id∈wr j→L j=false)→find (nJ wr hpT o6 L k) id=find (hpT (i+1)) id
 |0,h,_=>by omega
 |k+1,h,hj=>by
  simp only[nJ]
  by_cases e:i=k
  · subst e
    simp only[hL,if_true,gf,hd]
  · have ih:=zi L id i hd hL k (by omega) (fun j h1 h2=>hj j h1 (by omega))
    by_cases hk:id∈wr k
    · rw[hj k (by omega) (by omega) hk]
      exact ih
    · split
      · simp only[gf,hk,if_false];exact ih
      · exact ih
theorem pb (tmT:Nat→TS) (N:Nat) (h0:tmT 0=sI) (hs: ∀i,i < N→ ∀t,find (tmT (i+1)) t=find (eL (tmT i) (dst i) (v i)) t) (L:Nat→Bool) (t:Nat): ∀k,k≤N→(∀i,i < k→L i=true)→find (nE dst v sI L k) t=find (tmT k) t
 |0,_,_=>by rw[h0];rfl
 |k+1,hk,hL=>by
  simp only[nE,hL k (by omega),if_true]
  rw[hs k (by omega) t,gh,gh,pb tmT N h0 hs L t k (by omega) (fun i hi=>hL i (by omega))]
theorem pR (N:Nat) (h0:hpT 0=o6) (hs: ∀i,i < N→ ∀id,¬id∈wr i→find (hpT (i+1)) id=find (hpT i) id) (L:Nat→Bool) (id:Nat): ∀k,k≤N→(∀i,i < k→L i=true)→find (nJ wr hpT o6 L k) id=find (hpT k) id
 |0,_,_=>by rw[h0];rfl
 |k+1,hk,hL=>by
  simp only[nJ,hL k (by omega),if_true,gf]
  split
  · rfl
  · rename_i hn
    rw[pR N h0 hs L id k (by omega) (fun i hi=>hL i (by omega)),hs k (by omega) id hn]
theorem tS (i:Nat) (t:Nat): ∀k,i≤k→find (nE dst v sI (fun j=>decide (j < i)) k) t=find (nE dst v sI (fun j=>decide (j < i)) i) t
 |0,h=>by have:i=0:=by omega
          subst this;rfl
 |k+1,h=>by
  by_cases e:i=k+1
  · subst e;rfl
  · have ih:=tS i t k (by omega)
    have hn:decide (k < i)=false:=by simp;omega
    simp only[nE]
    rw[if_neg (by simp;omega)]
    exact ih
theorem uV (i:Nat) (id:Nat): ∀k,i≤k→find (nJ wr hpT o6 (fun j=>decide (j < i)) k) id=find (nJ wr hpT o6 (fun j=>decide (j < i)) i) id
 |0,h=>by have:i=0:=by omega
          subst this;rfl
 |k+1,h=>by
  by_cases e:i=k+1
  · subst e;rfl
  · have ih:=uV i id k (by omega)
    simp only[nJ]
    rw[if_neg (by simp;omega)]
    exact ih
end
theorem fg.sound {ops:Array Oper} {o:Oper} {i n nid:Nat} {tm:TS} {hp aF:HS} {v:V} {Q:Exit→Act→World→Prop} {K':Act→World→Prop} (hi:ops[i]? =some o)
 (h:fg P ops o n tm hp nid v aF) (hr:Rel M A ρ F ⟨n,tm,hp⟩ a w) (hF: ∀k,nid≤k→k < nid+4→F k)
 (hk: ∀a' w' A' ρ',Rel M A' ρ' (Sub F nid) ⟨n,eL tm o.dst v,aF⟩ a' w'→df M w w'→cU ρ ρ'→bE A A' w→K' a' w'):wpOp P ops Q i K' a w:=by
 obtain⟨hd,h⟩:=h
 have zp:=jA hd
 unfold wpOp
 simp only[hi]
 have fin: ∀ {a2:Act} {w2:World} {A2:Nat→Prop} {ρ2:Env} {x:Value} {hp2:HS},Rel M A2 ρ2 (Sub F nid) ⟨n,tm,hp2⟩ a2 w2→RV w2 A2 ρ2 v x→Rel M A2 ρ2 (Sub F nid) ⟨n,eL tm o.dst v,hp2⟩ (a2.put o.dst x) w2:=by
  intro a2 w2 A2 ρ2 x hp2 r1 r2
  have:=r1.put (dst:=o.dst) r2 zp
  rw[kA]at this
  exact this
 split at h
 · exact h.elim
 · rename_i hg
   have:=cW hr hg
   simp only[this,Bool.false_eq_true,if_false]
   obtain⟨rfl,rfl⟩:=h
   exact hk _ _ A ρ (fin (hr.sub fun id h=>h.1) qt) (df.refl _ _) (cU.refl _) (bE.refl _ _)
 · rename_i hg
   have:=cW hr hg
   simp only[this,if_true]
   refine .inl ?_
   split at h
   · rename_i g us hc
     obtain⟨he,YB⟩:=h
     obtain⟨xs,hx,hxs⟩:=lM (P:=P) hr hc he
     simp only[Oper.wp,hx,Oper.upon]
     refine(eu.sound hr hF YB hxs).mono ?_
     rintro e w' ⟨x,A',ρ',rfl,r1,r2,r3,r4,r5⟩
     exact hk _ _ A' ρ' (fin r1 r2) r3 r4 r5
   · obtain⟨x,w',A',ρ',hrun,r1,r2,r3,r4,r5⟩:=lH h hr (hF nid (Nat.le_refl _) (by omega))
     rcases hrun with hrun|⟨hrun,rfl⟩
     · simp only[Oper.wp,hrun,Oper.upon]
       exact hk _ _ A' ρ' (fin r1 r2) r3 r4 r5
     · simp only[Oper.wp,hrun,Oper.upon]
       exact hk _ _ A' ρ' (fin r1 r2) r3 r4 r5
def bc (o:Oper):List Nat:=(o.after.toList.filter (Region.binds .any)).map (·.on)
def ko:List (List Nat)→List Nat→List Nat
 | [],acc=>acc
 |es::r,acc=>ko r (acc++[es.foldl (fun s e=>s|||2 ^ e|||acc.getD e 0) 0])
theorem BF: ∀ (r:List (List Nat)) (acc:List Nat), ∃tail,ko r acc=acc++tail∧tail.length=r.length
 | [],acc=>⟨[],by simp[ko]⟩
 |es::r,acc=>by
  obtain⟨tail,h1,h2⟩:=BF r (acc++[es.foldl (fun s e=>s|||2 ^ e|||acc.getD e 0) 0])
  exact⟨_::tail,by simp only[ko];rw[h1,List.append_assoc];rfl,by simp[h2]⟩
theorem BG: ∀ (r:List (List Nat)) (acc:List Nat) (k:Nat) (es:List Nat),r[k]? =some es→(∀e,e∈es→e < acc.length+k)→
 (ko r acc).getD (acc.length+k) 0=es.foldl (fun s e=>s|||2 ^ e|||(ko r acc).getD e 0) 0
 | [],acc,k,es,h,_=>by simp at h
 |HL::r,acc,0,es,h,he=>by
  simp only[List.getElem?_cons_zero,Option.some.injEq]at h
  subst h
  simp only[ko,Nat.add_zero]
  obtain⟨tail,h1,_⟩:=BF r (acc++[HL.foldl (fun s e=>s|||2 ^ e|||acc.getD e 0) 0])
  rw[h1]
  have e1: ∀e,e∈HL→(acc++[HL.foldl (fun s e=>s|||2 ^ e|||acc.getD e 0) 0]++tail).getD e 0=acc.getD e 0:=by
   intro e hm
   have:=he e hm
   simp only[List.getD_eq_getElem?_getD,List.append_assoc]
   rw[List.getElem?_append_left (by omega)]
  have e2:(acc++[HL.foldl (fun s e=>s|||2 ^ e|||acc.getD e 0) 0]++tail).getD acc.length 0=HL.foldl (fun s e=>s|||2 ^ e|||acc.getD e 0) 0:=by
   simp[List.getD_eq_getElem?_getD]
  rw[e2]
  have gen: ∀ (l:List Nat) (s:Nat),(∀e,e∈l→e∈HL)→l.foldl (fun s e=>s|||2 ^ e|||acc.getD e 0) s=l.foldl (fun s e=>s|||2 ^ e|||(acc++[HL.foldl (fun s e=>s|||2 ^ e|||acc.getD e 0) 0]++tail).getD e 0) s:=by
   intro l
   induction l with
   |nil=>intro s _;rfl
   |cons x l ih=>
    intro s hs
    simp only[List.foldl_cons]
    rw[e1 x (hs x (by simp)),ih _ (fun e h=>hs e (by simp[h]))]
  exact gen HL 0 (fun _ h=>h)
 |HL::r,acc,k+1,es,h,he=>by
  have:=BG r (acc++[HL.foldl (fun s e=>s|||2 ^ e|||acc.getD e 0) 0]) k es (by simpa using h) (fun e hm=>by have:=he e hm;simp;omega)
  simp only[ko]
  rw[show acc.length+(k+1)=(acc++[HL.foldl (fun s e=>s|||2 ^ e|||acc.getD e 0) 0]).length+k by simp;omega]
  exact this
theorem nR (g:Nat→Nat) (j:Nat): ∀ (l:List Nat) (s:Nat),(l.foldl (fun s e=>s|||2 ^ e|||g e) s).testBit j=true→s.testBit j=true∨ ∃e,e∈l∧(j=e∨(g e).testBit j=true)
 | [],s,h=> .inl h
 |e::r,s,h=>by
  simp only[List.foldl_cons]at h
  rcases nR g j r _ h with h|⟨e',h1,h2⟩
  · simp only[Nat.testBit_or,Bool.or_eq_true,Nat.testBit_two_pow,decide_eq_true_eq]at h
    rcases h with(h|h)|h
    · exact .inl h
    · exact .inr ⟨e,by simp, .inl h.symm⟩
    · exact .inr ⟨e,by simp, .inr h⟩
  · exact .inr ⟨e',by simp[h1],h2⟩
theorem o4 {Es:List (List Nat)} (hE: ∀ (i:Nat) (es:List Nat),Es[i]? =some es→ ∀e,e∈es→e < i) {L:Nat→Bool}: ∀ (i:Nat),i < Es.length→
 (∀ (k:Nat) (es:List Nat),k < i→L k=true→Es[k]? =some es→ ∀e,e∈es→L e=true)→(∀ (es:List Nat),Es[i]? =some es→ ∀e,e∈es→L e=true)→ ∀j,((ko Es []).getD i 0).testBit j=true→L j=true∧j < i:=by
 intro i
 induction i using Nat.strongRecOn with
 |_ i ih=>
  intro hi ew hE' j hb
  obtain⟨es,jg⟩: ∃es,Es[i]? =some es:=⟨Es[i],by simp[hi]⟩
  have:=BG Es [] i es jg (fun e he=>by simpa using hE i es jg e he)
  simp only[List.length_nil,Nat.zero_add]at this
  rw[this]at hb
  rcases nR _ j es 0 hb with h|⟨e,he,h⟩
  · simp at h
  · have hlt:=hE i es jg e he
    have hLe:=hE' es jg e he
    rcases h with rfl|h
    · exact⟨hLe,hlt⟩
    · obtain⟨h1,h2⟩:=ih e hlt (by omega) (fun k es' hk=>ew k es' (by omega)) (fun es' Yv e' he'=>ew e es' hlt hLe Yv e' he') j h
      exact⟨h1,by omega⟩
def CL (l r:List Nat):Bool:=l.all fun x=> !r.contains x
theorem cL {l r:List Nat} (h:CL l r=true) {x:Nat} (hx:x∈l) (hy:x∈r):False:=by
 have:=List.all_eq_true.1 h x hx
 simp only[Bool.not_eq_true',List.contains_eq_mem]at this
 simp[hy]at this
structure gO where
 dst:Option Nat
 nm:List Nat
 rd:List Nat
 wr:List Nat
def gO.apart (f g:gO):Bool:=
 CL f.dst.toList g.nm&&CL g.dst.toList f.nm&&CL f.dst.toList g.dst.toList&&CL f.wr g.rd&&CL g.wr f.rd&&CL f.wr g.wr
def vD (Es:List (List Nat)) (fs:List gO):Bool:=
 let bits:=ko Es []
 (List.range fs.length).all fun j=>match fs[j]? with
   |some g=>(List.range j).all fun i=>match fs[i]? with
    |some f=>(bits.getD j 0).testBit i||f.apart g
    |none=>true
   |none=>true
theorem su {Es:List (List Nat)} {fs:List gO} (h:vD Es fs=true) {i j:Nat} {f g:gO} (hij:i < j) (hf:fs[i]? =some f) (hg:fs[j]? =some g):
 ((ko Es []).getD j 0).testBit i=true∨f.apart g=true:=by
 unfold vD at h
 have hj:j < fs.length:=(List.getElem?_eq_some_iff.1 hg).1
 have:=List.all_eq_true.1 h j (List.mem_range.2 hj)
 simp only[hg]at this
 have:=List.all_eq_true.1 this i (List.mem_range.2 hij)
 simp only[hf,Bool.or_eq_true]at this
 exact this
theorem exists_least {p:Nat→Bool}: ∀ {N:Nat},(∃i,i < N∧p i=false)→ ∃i,i < N∧p i=false∧ ∀j,j < i→p j=true
 |0,⟨i,h,_⟩=>by omega
 |N+1,⟨i,h,hp⟩=>by
  by_cases hq: ∃i,i < N∧p i=false
  · obtain⟨k,h1,h2,h3⟩:=exists_least hq
    exact⟨k,by omega,h2,h3⟩
  · have hi:i=N:=by
     rcases Nat.lt_or_ge i N with hl|hl
     · exact absurd ⟨i,hl,hp⟩ hq
     · omega
    subst hi
    refine⟨i,by omega,hp,fun j hj=>?_⟩
    cases hpj:p j with
    |true=>rfl
    |false=>exact absurd ⟨j,hj,hpj⟩ hq
def nc (L:Nat→Bool):Nat→Nat
 |0=>0
 |k+1=>nc L k+if L k then 0 else 1
theorem rh {L:Nat→Bool}: ∀ {k:Nat},nc L k=0→ ∀i,i < k→L i=true
 |0,_,i,hi=>by omega
 |k+1,h,i,hi=>by
  simp only[nc]at h
  by_cases e:i=k
  · subst e
    cases hL:L i with
    |true=>rfl
    |false=>simp[hL]at h
  · exact rh (k:=k) (by omega) i (by omega)
theorem vJ {L L':Nat→Bool} {i:Nat} (hi:L i=false) (hi':L' i=true) (hne: ∀j,j≠i→L' j=L j): ∀ {k:Nat},i < k→nc L' k+1=nc L k
 |0,h=>by omega
 |k+1,h=>by
  simp only[nc]
  by_cases e:i=k
  · subst e
    have same: ∀ {m:Nat},m≤i→nc L' m=nc L m:=by
     intro m
     induction m with
     |zero=>intro _;rfl
     |succ m ih=>intro hm;simp only[nc];rw[ih (by omega),hne m (by omega)]
    rw[same (Nat.le_refl _),hi,hi']
    simp
  · have:=vJ hi hi' hne (k:=k) (by omega)
    rw[hne k (fun e'=>e e'.symm)]
    omega
def D9 (M A:Nat→Prop) (ρ:Env) (w:World) (Q:St→Nat→Prop) (a':Act) (w':World):Prop:=
 ∃st' bA A' ρ',Q st' bA∧Rel M A' ρ' (bt bA) st' a' w'∧df M w w'∧cU ρ ρ'∧bE A A' w
theorem D9.K3 {Q:St→Nat→Prop} {a':Act} {w':World} (h:D9 M A ρ w Q a' w'):Post M A ρ w Q a' w':=by
 obtain⟨st',c',A',ρ',h1,h2,h3,h4,h5⟩:=h
 exact⟨st',c',A',ρ',h1,h2,h3,h4.K3,h5.m⟩
theorem Bp {ops:Array Oper} {n base:Nat} {tmT:Nat→TS} {hpT:Nat→HS} {v:Nat→V} {fs:List gO} {id:Nat} {Q:Exit→Act→World→Prop}
 (hfo:P.follows .mixedOrders=true)
 (hstep: ∀i o,ops[i]? =some o→fg P ops o n (tmT i) (hpT i) (base+4 * i) (v i) (hpT (i+1))∧(∀t,find (tmT (i+1)) t=find (eL (tmT i) o.dst (v i)) t)∧
   ∃f,fs[i]? =some f∧f.dst=o.dst∧(∀t,t∈names ops o→t∈f.nm)∧(∀k,k∈iS (St.get ⟨n,tmT i,hpT i⟩) o→k∈f.rd)∧(∀k,k∈tt (St.get ⟨n,tmT i,hpT i⟩) (base+4 * i) o→k∈f.wr))
 (hE: ∀i o,ops[i]? =some o→ ∀e,e∈bc o→e < i)
 (hok:vD (ops.toList.map bc) fs=true)
 (cE:Rel M A ρ (bt base) ⟨n,tmT 0,hpT 0⟩ a w)
 (hQ: ∀a' w',D9 M A ρ w (fun st c=>st=⟨n,tmT ops.size,hpT ops.size⟩∧c=base+4 * ops.size) a' w'→Q .normal a' w'):(Code.region id ops true).wp P Q a w:=by
 refine wp_region_any hfo ?_
 let N:=ops.size
 let dst:Nat→Option Nat:=fun i=>(ops[i]?).bind (·.dst)
 let wr:Nat→List Nat:=fun i=>((ops[i]?).map fun o=>tt (St.get ⟨n,tmT i,hpT i⟩) (base+4 * i) o).getD []
 have hop: ∀i,i < N→ ∃o,ops[i]? =some o:=fun i hi=>⟨ops[i],by simp[show i < ops.size from hi]⟩
 have vc: ∀i o,ops[i]? =some o→dst i=o.dst:=fun i o h=>by simp only[dst,h,Option.bind_some]
 have hwr: ∀i o,ops[i]? =some o→wr i=tt (St.get ⟨n,tmT i,hpT i⟩) (base+4 * i) o:=by
  intro i o h
  simp only[wr,h,Option.map_some,Option.getD_some]
 have uW: ∀i,i < N→ ∀k,¬k∈wr i→find (hpT (i+1)) k=find (hpT i) k:=by
  intro i hi k hk
  obtain⟨o,ho⟩:=hop i hi
  obtain⟨h1,_⟩:=hstep i o ho
  obtain⟨_,_,h3⟩:=h1.loc (tm2:=tmT i) (hp2:=hpT i) (fun _ _=>rfl) (fun _ _=>rfl) (fun _ _=>rfl)
  rw[hwr i o ho]at hk
  exact(h3.2 k hk).1
 have G6: ∀i,i < N→ ∀t,find (tmT (i+1)) t=find (eL (tmT i) (dst i) (v i)) t:=by
  intro i hi t
  obtain⟨o,ho⟩:=hop i hi
  rw[(hstep i o ho).2.1 t,vc i o ho]
 have TB: ∀ (i:Nat) (es:List Nat),(ops.toList.map bc)[i]? =some es→ ∀e,e∈es→e < i:=by
  intro i es h e he
  simp only[List.getElem?_map,Array.getElem?_toList,Option.map_eq_some_iff]at h
  obtain⟨o,ho,rfl⟩:=h
  exact hE i o ho e he
 let da:Array Bool→Nat→Bool:=fun listed i=>listed.getD i false
 let Fr:(Nat→Bool)→Nat→Prop:=fun L k=>base+4 * N≤k∨ ∃j,j < N∧L j=false∧base+4 * j≤k∧k < base+4 * j+4
 have ix: ∀ {L:Nat→Bool} {i:Nat},i < N→(∀k o,ops[k]? =some o→L k=true→ ∀e,e∈bc o→L e=true)→(∀o,ops[i]? =some o→ ∀e,e∈bc o→L e=true)→
  ∀j,((ko (ops.toList.map bc) []).getD i 0).testBit j=true→L j=true:=by
  intro L i hi ew IL j hb
  refine(o4 TB i (by simpa using hi) (fun k es _ E9 jg e he=>?_) (fun es jg e he=>?_) j hb).1
  · simp only[List.getElem?_map,Array.getElem?_toList,Option.map_eq_some_iff]at jg
    obtain⟨o,ho,rfl⟩:=jg
    exact ew k o ho E9 e he
  · simp only[List.getElem?_map,Array.getElem?_toList,Option.map_eq_some_iff]at jg
    obtain⟨o,ho,rfl⟩:=jg
    exact IL o ho e he
 have hNs:N=ops.size:=rfl
 have finish: ∀ (L:Nat→Bool) (a':Act) (w':World) (A':Nat→Prop) (ρ':Env),(∀i,i < N→L i=true)→
  Rel M A' ρ' (Fr L) ⟨n,nE dst v (tmT 0) L N,nJ wr hpT (hpT 0) L N⟩ a' w'→df M w w'→cU ρ ρ'→bE A A' w→Q .normal a' w':=by
  intro L a' w' A' ρ' hall hr dJ cF hg
  refine hQ _ _ ⟨⟨n,tmT ops.size,hpT ops.size⟩,base+4 * ops.size,A',ρ',⟨rfl,rfl⟩,?_,dJ,cF,hg⟩
  have h1:Rel M A' ρ' (Fr L) ⟨n,tmT ops.size,hpT ops.size⟩ a' w':=hr.forget rfl (fun t u hu=>by
   rw[show find (⟨n,nE dst v (tmT 0) L N,nJ wr hpT (hpT 0) L N⟩:St).tmps t=find (tmT N) t from pb dst v (tmT 0) tmT N rfl G6 L t N (Nat.le_refl _) hall];exact hu) (fun k b hb=>by
   rw[show find (⟨n,nE dst v (tmT 0) L N,nJ wr hpT (hpT 0) L N⟩:St).heap k=find (hpT N) k from pR wr hpT (hpT 0) N rfl uW L k N (Nat.le_refl _) hall];exact hb)
  exact h1.sub (fun k hk=> .inl hk)
 have main: ∀ (fuel:Nat) (listed:Array Bool) (a':Act) (w':World) (A':Nat→Prop) (ρ':Env),listed.size=N→nc (da listed) N≤fuel→
  (∀k o,ops[k]? =some o→da listed k=true→ ∀e,e∈bc o→da listed e=true)→
  Rel M A' ρ' (Fr (da listed)) ⟨n,nE dst v (tmT 0) (da listed) N,nJ wr hpT (hpT 0) (da listed) N⟩ a' w'→df M w w'→cU ρ ρ'→bE A A' w→
  wpAny P .any ops Q fuel listed a' w':=by
  intro fuel
  induction fuel with
  |zero=>
   intro listed a' w' A' ρ' hsz E7 ew hr dJ cF hg
   have hall:=rh (Nat.le_zero.1 E7)
   refine⟨?_,finish _ a' w' A' ρ' hall hr dJ cF hg⟩
   apply List.eq_nil_iff_forall_not_mem.2
   intro i hi
   rw[mem_ready]at hi
   obtain⟨h0,o,ho,_⟩:=hi
   have hlt:i < N:=(Array.getElem?_eq_some_iff.1 ho).1
   have:=hall i hlt
   simp only[da,Array.getD_eq_getD_getElem?]at this h0
   have jE:i < listed.size:=by omega
   simp[jE]at this h0
   simp[this]at h0
  |succ fuel ih=>
   intro listed a' w' A' ρ' hsz E7 ew hr dJ cF hg
   refine⟨fun AX=>?_,fun i hi=>?_⟩
   · by_cases hex: ∃i,i < N∧da listed i=false
     · exfalso
       obtain⟨i,hi,hL,Cu⟩:=exists_least hex
       obtain⟨o,ho⟩:=hop i hi
       have:i∈Region.ready .any ops listed:=by
        rw[mem_ready]
        refine⟨?_,o,ho,fun e he hb=>?_⟩
        · simp only[da,Array.getD_eq_getD_getElem?]at hL⊢
          have jE:i < listed.size:=by omega
          simpa[jE]using hL
        · have hm:e.on∈bc o:=by simp only[bc,List.mem_map,List.mem_filter];exact⟨e,⟨by simpa using he,hb⟩,rfl⟩
          exact Cu _ (hE i o ho _ hm)
       rw[AX]at this
       simp at this
     · exact finish _ a' w' A' ρ' (fun i hi=>by cases h:da listed i with|true=>rfl|false=>exact absurd ⟨i,hi,h⟩ hex) hr dJ cF hg
   · rw[mem_ready]at hi
     obtain⟨h0,o,ho,uZ⟩:=hi
     have zm:i < N:=(Array.getElem?_eq_some_iff.1 ho).1
     have Fa:da listed i=false:=by
      simp only[da,Array.getD_eq_getD_getElem?]at h0⊢
      have jE:i < listed.size:=by omega
      simpa[jE]using h0
     have IL: ∀e,e∈bc o→da listed e=true:=by
      intro e he
      simp only[bc,List.mem_map,List.mem_filter]at he
      obtain⟨ed,⟨h1,h2⟩,rfl⟩:=he
      exact uZ ed (by simpa using h1) h2
     obtain⟨hst,XE,f,hf,fd,fn,fr,fw⟩:=hstep i o ho
     have order: ∀j oj g,j≠i→ops[j]? =some oj→fs[j]? =some g→(f.apart g=true∨g.apart f=true)∨(j < i∧da listed j=true)∨(i < j∧da listed j=false):=by
      intro j oj g eF oP jf
      have hjN:j < N:=(Array.getElem?_eq_some_iff.1 oP).1
      rcases Nat.lt_or_gt_of_ne eF with hlt|hgt
      · rcases su hok hlt jf hf with hb|hb
        · exact .inr (.inl ⟨hlt,ix zm ew (fun o' wh=>by rw[ho]at wh;simp only[Option.some.injEq]at wh;subst wh;exact IL) j hb⟩)
        · exact .inl (.inr hb)
      · rcases su hok hgt hf jf with hb|hb
        · refine .inr (.inr ⟨hgt,?_⟩)
          cases YR:da listed j with
          |false=>rfl
          |true=>
           have:=ix hjN ew (fun o' wh=>ew j o' wh YR) i hb
           rw[Fa]at this
           simp at this
        · exact .inl (.inl hb)
     have vp: ∀j,j < N→ ∃oj g,ops[j]? =some oj∧fs[j]? =some g∧g.dst=dst j∧ ∀k,k∈wr j→k∈g.wr:=by
      intro j hj
      obtain⟨oj,oP⟩:=hop j hj
      obtain⟨_,_,g,g1,g2,_,_,g5⟩:=hstep j oj oP
      exact⟨oj,g,oP,g1,by rw[g2,vc j oj oP],fun k hk=>g5 k (by rw[hwr j oj oP]at hk;exact hk)⟩
     have apart_spec: ∀ {f g:gO},(f.apart g=true∨g.apart f=true)→(∀t,f.dst=some t→g.dst=some t→False)∧(∀t,g.dst=some t→t∈f.nm→False)∧(∀k,k∈g.wr→k∈f.rd→False)∧(∀k,k∈g.wr→k∈f.wr→False):=by
      intro f g h
      rcases h with h|h<;>simp only[gO.apart,Bool.and_eq_true]at h<;>obtain⟨⟨⟨⟨⟨h1,h2⟩,h3⟩,h4⟩,h5⟩,h6⟩:=h
      · exact⟨fun t a b=>cL (x:=t) h3 (by simp[a]) (by simp[b]),fun t a b=>cL (x:=t) h2 (by simp[a]) b,fun k a b=>cL h5 a b,fun k a b=>cL h6 b a⟩
      · exact⟨fun t a b=>cL (x:=t) h3 (by simp[b]) (by simp[a]),fun t a b=>cL (x:=t) h1 (by simp[a]) b,fun k a b=>cL h4 a b,fun k a b=>cL h6 a b⟩
     have CW: ∀t,t∈names ops o→find (nE dst v (tmT 0) (da listed) N) t=find (tmT i) t:=by
      intro t ht
      rw[mu dst v (tmT 0) (da listed) (fun j=>decide (j < i)) t N ?_,tS dst v (tmT 0) i t N (Nat.le_of_lt zm),pb dst v (tmT 0) tmT N rfl G6 _ t i (Nat.le_of_lt zm) (fun j hj=>by simpa using hj)]
      intro j hj zo
      by_cases eF:j=i
      · subst eF;rw[Fa];simp
      · obtain⟨oj,g,oP,jf,gd,gw⟩:=vp j hj
        rcases order j oj g eF oP jf with hap|⟨h1,h2⟩|⟨h1,h2⟩
        · exact((apart_spec hap).2.1 t (by rw[gd,zo]) (fn t ht)).elim
        · rw[h2];simp[h1]
        · rw[h2];simp;omega
     have vT: ∀k,(k∈f.rd∨k∈f.wr)→find (nJ wr hpT (hpT 0) (da listed) N) k=find (hpT i) k:=by
      intro k hk
      rw[mN wr hpT (hpT 0) (da listed) (fun j=>decide (j < i)) k N ?_,uV wr hpT (hpT 0) i k N (Nat.le_of_lt zm),pR wr hpT (hpT 0) N rfl uW _ k i (Nat.le_of_lt zm) (fun j hj=>by simpa using hj)]
      intro j hj zo
      by_cases eF:j=i
      · subst eF;rw[Fa];simp
      · obtain⟨oj,g,oP,jf,gd,gw⟩:=vp j hj
        rcases order j oj g eF oP jf with hap|⟨h1,h2⟩|⟨h1,h2⟩
        · rcases hk with hk|hk
          · exact((apart_spec hap).2.2.1 k (gw k zo) hk).elim
          · exact((apart_spec hap).2.2.2 k (gw k zo) hk).elim
        · rw[h2];simp[h1]
        · rw[h2];simp;omega
     have Ho: ∀k,k∈four (base+4 * i)→k∈f.wr:=fun k hk=>fw k (by simp only[tt,List.mem_append];exact .inl hk)
     obtain⟨mO,Nc,JZ⟩:=hst.loc (tm2:=nE dst v (tmT 0) (da listed) N) (hp2:=nJ wr hpT (hpT 0) (da listed) N) CW (fun k hk=>vT k (.inl (fr k hk))) (fun k hk=>vT k (.inr (Ho k hk)))
     rw[←hwr i o ho]at JZ
     refine fg.sound ho Nc hr (fun k h1 h2=> .inr ⟨i,zm,Fa,h1,h2⟩) ?_
     intro a2 w2 A2 ρ2 r1 r2 r3 r4
     have He: ∀j,da (listed.setIfInBounds i true) j=if j=i then true else da listed j:=by
      intro j
      by_cases eF:j=i
      · subst eF
        have:j < listed.size:=by omega
        simp[da,Array.getD_eq_getD_getElem?,this]
      · simp only[da,eF,if_false]
        exact getD_set_ne false (fun e=>eF e.symm)
     have vg:da (listed.setIfInBounds i true) i=true:=by rw[He];simp
     have lW: ∀j,j≠i→da (listed.setIfInBounds i true) j=da listed j:=fun j hj=>by rw[He,if_neg hj]
     have later: ∀j,i < j→j < N→(∀oj g,ops[j]? =some oj→fs[j]? =some g→(f.apart g=true∨g.apart f=true)→False)→da (listed.setIfInBounds i true) j=false:=by
      intro j h1 h2 h3
      obtain⟨oj,g,oP,jf,gd,gw⟩:=vp j h2
      rw[lW j (by omega)]
      rcases order j oj g (by omega) oP jf with hap|⟨h4,_⟩|⟨_,h5⟩
      · exact(h3 oj g oP jf hap).elim
      · omega
      · exact h5
     refine ih (listed.setIfInBounds i true) a2 w2 A2 ρ2 (by simpa using hsz) ?_ ?_ ?_ (dJ.trans r2) (cF.trans r3) (hg.trans r4 dJ.size)
     · have:=vJ (L:=da listed) (L':=da (listed.setIfInBounds i true)) Fa vg lW (k:=N) zm
       omega
     · intro k W6 sW E9 e he
       by_cases oR:k=i
       · subst oR
         rw[ho]at sW
         simp only[Option.some.injEq]at sW
         subst sW
         exact getD_set_true (IL e he)
       · rw[lW k oR]at E9
         exact getD_set_true (ew k W6 sW E9 e he)
     · refine(Rel.forget (st':=⟨n,nE dst v (tmT 0) (da (listed.setIfInBounds i true)) N,nJ wr hpT (hpT 0) (da (listed.setIfInBounds i true)) N⟩) r1 rfl (fun t u hu=>?_) (fun k b hb=>?_)).sub (fun k hk=>?_)
       · simp only[gh]
         split
         · rename_i hd
           have nY:=yt dst v (tmT 0) (da (listed.setIfInBounds i true)) t i (by rw[vc i o ho];exact hd) vg N zm (fun j h1 h2 h3=>later j h1 h2 (fun oj g oP jf hap=>by
            obtain⟨_,g',_,xN,gd,_⟩:=vp j h2
            rw[jf]at xN
            simp only[Option.some.injEq]at xN
            subst xN
            exact(apart_spec hap).1 t (by rw[fd];exact hd) (by rw[gd];exact h3)))
           rw[←nY];exact hu
         · rename_i hd
           rw[mu dst v (tmT 0) (da listed) (da (listed.setIfInBounds i true)) t N (fun j hj zo=>by
            by_cases eF:j=i
            · subst eF;rw[vc j o ho]at zo;exact absurd zo hd
            · exact(lW j eF).symm)]
           exact hu
       · by_cases hk:k∈wr i
         · have Yi:k∈f.wr:=fw k (by rw[←hwr i o ho];exact hk)
           have nY:=zi wr hpT (hpT 0) (da (listed.setIfInBounds i true)) k i hk vg N zm (fun j h1 h2 h3=>later j h1 h2 (fun oj g oP jf hap=>by
            obtain⟨_,g',_,xN,_,gw⟩:=vp j h2
            rw[jf]at xN
            simp only[Option.some.injEq]at xN
            subst xN
            exact(apart_spec hap).2.2.2 k (gw k h3) Yi))
           rw[JZ.1 k hk, ←nY];exact hb
         · rw[(JZ.2 k hk).2,mN wr hpT (hpT 0) (da listed) (da (listed.setIfInBounds i true)) k N (fun j hj zo=>by
            by_cases eF:j=i
            · subst eF;exact absurd zo hk
            · exact(lW j eF).symm)]
           exact hb
       · refine⟨?_,?_⟩
         · rcases hk with hk|⟨j,h1,h2,h3⟩
           · exact .inl hk
           · by_cases eF:j=i
             · subst eF;rw[vg]at h2;simp at h2
             · rw[lW j eF]at h2;exact .inr ⟨j,h1,h2,h3⟩
         · rintro⟨q1,q2⟩
           rcases hk with hk|⟨j,h1,h2,h3,h4⟩
           · omega
           · by_cases eF:j=i
             · subst eF;rw[vg]at h2;simp at h2
             · omega
 have h0: ∀i,da (Array.replicate ops.size false) i=false:=by
  intro i
  simp only[da,Array.getD_eq_getD_getElem?]
  by_cases hi:i < ops.size<;>simp[hi]
 refine main ops.size (Array.replicate ops.size false) a _ A ρ (by simp[N]) ?_ (fun k o _ hL=>by rw[h0]at hL;simp at hL) ?_ (df.drew M w) (cU.refl _) (bE.refl _ _)
 · have: ∀k,nc (da (Array.replicate ops.size false)) k=k:=by
    intro k
    induction k with
    |zero=>rfl
    |succ k ih=>simp only[nc,ih,h0];simp
   rw[this]
   exact Nat.le_refl _
 · have eT: ∀k,nE dst v (tmT 0) (da (Array.replicate ops.size false)) k=tmT 0:=by
    intro k
    induction k with
    |zero=>rfl
    |succ k ih=>simp only[nE,h0,Bool.false_eq_true,if_false,ih]
   have eH: ∀k,nJ wr hpT (hpT 0) (da (Array.replicate ops.size false)) k=hpT 0:=by
    intro k
    induction k with
    |zero=>rfl
    |succ k ih=>simp only[nJ,h0,Bool.false_eq_true,if_false,ih]
   rw[eT,eH]
   refine cE.drew.sub (fun k hk=>?_)
   simp only[bt]
   rcases hk with hk|⟨j,_,_,h3,_⟩<;>omega
theorem vC {ops:Array Oper} {n base:Nat} {tmT:Nat→TS} {hpT:Nat→HS} {v:Nat→V} {fs:List gO} {id:Nat} {Q:Exit→Act→World→Prop}
 (hfo:P.follows .mixedOrders=true)
 (hstep: ∀i o,ops[i]? =some o→fg P ops o n (tmT i) (hpT i) (base+4 * i) (v i) (hpT (i+1))∧(∀t,find (tmT (i+1)) t=find (eL (tmT i) o.dst (v i)) t)∧
   ∃f,fs[i]? =some f∧f.dst=o.dst∧(∀t,t∈names ops o→t∈f.nm)∧(∀k,k∈iS (St.get ⟨n,tmT i,hpT i⟩) o→k∈f.rd)∧(∀k,k∈tt (St.get ⟨n,tmT i,hpT i⟩) (base+4 * i) o→k∈f.wr))
 (hE: ∀i o,ops[i]? =some o→ ∀e,e∈bc o→e < i)
 (hok:vD (ops.toList.map bc) fs=true)
 (cE:Rel M A ρ (bt base) ⟨n,tmT 0,hpT 0⟩ a w)
 (hQ: ∀a' w',Post M A ρ w (fun st c=>st=⟨n,tmT ops.size,hpT ops.size⟩∧c=base+4 * ops.size) a' w'→Q .normal a' w'):(Code.region id ops true).wp P Q a w:=
 Bp hfo hstep hE hok cE fun a' w' h=>hQ a' w' h.K3
end Go.aS
end
section
namespace Go.aS
open Go
inductive Rc where
 |skip
 |ret
 |exit (id:Nat)
 |seq (a b:Rc)
 |cond (c:dO) (a b:Rc)
 |block (id:Nat) (b:Rc)
 |loop (b:Rc)
 |region (ops:List kr)
 |draw (ops:List kr) (es:List (List Nat))
def aT (P:Program) (all:Array Oper):List Oper→Option (List kr)
 | []=>some []
 |o::r=>
  match aY P o,aT P all r with
  |some x,some l=>
   match o.guard with
   |none=>some (⟨o.dst,none,x⟩::l)
   |some (j,want)=>
    match(all[j]?).bind (·.dst)with
    |some d=>some (⟨o.dst,some (d,want),x⟩::l)
    |none=>none
  |_,_=>none
def tE:Nat→List (List Nat)→Bool
 |_,[]=>true
 |i,es::r=>es.all (fun e=>decide (e < i))&&tE (i+1) r
def aP (P:Program):Code→Option Rc
 | .skip=>some .skip
 | .ret=>some .ret
 | .exit id=>some (.exit id)
 | .seq a b=>match aP P a,aP P b with
   |some x,some y=>some (.seq x y)
   |_,_=>none
 | .cond c a b=>match aP P a,aP P b with
   |some x,some y=>some (.cond (dm c) x y)
   |_,_=>none
 | .block id b=>match aP P b with
   |some x=>some (.block id x)
   |none=>none
 | .loop b=>match aP P b with
   |some x=>some (.loop x)
   |none=>none
 | .region _ ops false=>match aT P ops ops.toList with
   |some l=>some (.region l)
   |none=>none
 | .region _ ops true=>match aT P ops ops.toList with
   |some l=>if P.follows .mixedOrders&&tE 0 (ops.toList.map bc)then some (.draw l (ops.toList.map bc))else none
   |none=>none
 |_=>none
def De (tm:TS):List dO→Option (List W)
 | []=>some []
 |x::r=>match x.get tm,De tm r with
  | .w u,some l=>some (u::l)
  |_,_=>none
def qS {α:Sort _} (n:Nat) (k:Nat→α):α:=
 match n with
 |0=>k 0
 |m+1=>k (Nat.succ m)
theorem iy {α:Sort _} (n:Nat) (k:Nat→α):qS n k=k n:=by cases n<;>rfl
def yM (tm:TS) (dst:Option Nat) (v:V) (K:TS→Prop):Prop:=
 match dst with
 |some d=>K ((d,v)::tm)
 |none=>K tm
theorem jN (tm:TS) (dst:Option Nat) (v:V) (K:TS→Prop):yM tm dst v K=K (eL tm dst v):=by cases dst<;>rfl
def U8 (v:V) (us:List W):Option (FuncId×List W):=
 match v with
 | .w (.one (.jY f cZ))=>some (f,us++cZ.map fun p=> .one (.ptr p.1 p.2.1 p.2.2.1 p.2.2.2))
 | .w (.one (.kP f true ts))=>some (f, .agg (ts.map .t)::us)
 | .w (.one (.kP f false [t]))=>some (f, .one (.t t)::us)
 | .w (.one (.t (.val (.func (.func f) first cZ))))=>if first.isEmpty&&cZ.isEmpty then some (f,us)else none
 |_=>none
def ZN (P:Program) (op:Op) (ty:TypeId) (tm:TS) (hp:HS) (ctr:Nat) (v:V) (aF:HS):Prop:=
 (∀get,bK get ⟨none,op,ty, "", #[],none⟩=none)∧ ∀ (n:Nat) (o:Oper),o.op=op→o.type=ty→ai P (St.get ⟨n,tm,hp⟩) hp ctr o=some (v,aF)
def LS (P:Program) (o:kr) (tm:TS) (hp:HS) (ctr:Nat) (K:TS→HS→Nat→Prop):Prop:=
 match o.op with
 | .call f args=>match De tm args with
   |some us=> ∃v aF,eu P hp ctr f us v aF∧rY v fun v=>yM tm o.dst v fun bf=>qS (ctr+4) fun c=>K bf aF c
   |none=>False
 | .jZ x args=>match De tm args with
   |some us=>match U8 (x.get tm) us with
    |some (f,fh)=>enters P f=true∧ ∃v aF,eu P hp ctr f fh v aF∧rY v fun v=>yM tm o.dst v fun bf=>qS (ctr+4) fun c=>K bf aF c
    |none=>False
   |none=>False
 | .raw op ty=> ∃v aF,ZN P op ty tm hp ctr v aF∧rY v fun v=>yM tm o.dst v fun bf=>qS (ctr+4) fun c=>K bf aF c
 |r=>XR r tm hp ctr fun v aF=>yM tm o.dst v fun bf=>qS (ctr+4) fun c=>K bf aF c
def gR (P:Program) (n:Nat) (op:Op) (ty:TypeId) (tm:TS) (hp:HS) (ctr:Nat) (v:V) (aF:HS):Prop:=
 ∀o:Oper,o.op=op→o.type=ty→Ir P o n tm hp ctr v aF
def wX (P:Program) (n:Nat) (o:kr) (tm:TS) (hp:HS) (ctr:Nat) (K:TS→HS→Nat→Prop):Prop:=
 match o.op with
 | .call f args=>match De tm args with
   |some us=> ∃v aF c',dK P f us hp ctr v aF c'∧rY v fun v=>yM tm o.dst v fun bf=>qS c' fun c=>K bf aF c
   |none=>False
 | .jZ x args=>match De tm args with
   |some us=>match U8 (x.get tm) us with
    |some (f,fh)=>enters P f=true∧ ∃v aF c',dK P f fh hp ctr v aF c'∧rY v fun v=>yM tm o.dst v fun bf=>qS c' fun c=>K bf aF c
    |none=>False
   |none=>False
 | .raw op ty=> ∃v aF,gR P n op ty tm hp ctr v aF∧rY v fun v=>yM tm o.dst v fun bf=>qS (ctr+4) fun c=>K bf aF c
 |r=>XR r tm hp ctr fun v aF=>yM tm o.dst v fun bf=>qS (ctr+4) fun c=>K bf aF c
def Kq (P:Program) (n:Nat) (o:kr) (tm:TS) (hp:HS) (ctr:Nat) (K:TS→HS→Nat→Prop):Prop:=
 match gj n o.dst with
 |false=>False
 |true=>
  match o.guard with
  |none=>wX P n o tm hp ctr K
  |some (d,want)=>
   match find tm d with
   |some (.w (.one (.t (.val (.bool b)))))=>
    match want with
    |true=>br b (wX P n o ((d,bV true)::tm) hp ctr K) (K (eL ((d,bV false)::tm) o.dst (.dQ [])) hp ctr)
    |false=>br b (K (eL ((d,bV true)::tm) o.dst (.dQ [])) hp ctr) (wX P n o ((d,bV false)::tm) hp ctr K)
   |some (.dQ [])=>K (eL tm o.dst (.dQ [])) hp ctr
   |_=>False
def tj (P:Program) (n:Nat):List kr→TS→HS→Nat→(TS→HS→Nat→Prop)→Prop
 | [],tm,hp,ctr,K=>K tm hp ctr
 |o::r,tm,hp,ctr,K=>Kq P n o tm hp ctr fun tm hp ctr=>tj P n r tm hp ctr K
def Ro.ii:Ro→List dO
 | .Sk x| .box x| .load _ x| .Bh _ x| .field _ _ x| .extract x _| .len x| .Ep x| .not x| .neg x| .conv _ x| .Ia x=>[x]
 | .pick c x y=>[c,x,y]
 | .alloc _=>[]
 | .build _ ps=>ps.map (·.2.2)
 | .vN _ _ ps=>ps.map (·.2)
 | .store _ x y| .AS _ x y| .uT _ _ x y| .make _ _ x y| .append _ _ x y| .bin _ x y| .Ic _ x y| .NS _ _ x y| .En x y| .Eo x y| .Gb x y=>[x,y]
 | .slice _ x lo hi=>x::(lo.toList++hi.toList)
 | .jY _ cZ=>cZ
 | .call _ xs=>xs
 | .jZ x xs=>x::xs
 | .raw op _=>op.operands.toList.map dm
def Ro.looks:Ro→Bool
 | .raw op _=>Go.aS.looks op
 | .load .. | .store .. | .append .. | .len .. | .Ep .. | .En .. | .Eo .. | .call .. | .jZ .. | .conv .. | .Ia .. =>true
 |_=>false
def Ro.UD:Ro→Bool
 | .raw op _=>writes op
 | .store .. | .append .. =>true
 |_=>false
def R4:dO→Option Nat
 | .t n=>some n
 | .c _=>none
def dF (o:kr) (tm:TS) (ctr:Nat):gO:=
 let rd:=if o.op.looks then o.op.ii.flatMap fun x=>(x.get tm).ids else []
 ⟨o.dst,o.op.ii.filterMap R4++(o.guard.map (·.1)).toList,rd,four ctr++if o.op.UD then rd else []⟩
def Ii (P:Program) (n:Nat) (o:kr) (tm:TS) (hp:HS) (ctr:Nat) (K:gO→TS→HS→Nat→Prop):Prop:=
 match gj n o.dst with
 |false=>False
 |true=>
  match o.guard with
  |none=>LS P o tm hp ctr (K (dF o tm ctr))
  |some (d,want)=>
   match find tm d with
   |some (.w (.one (.t (.val (.bool b)))))=>
    match want with
    |true=>br b (LS P o ((d,bV true)::tm) hp ctr (K (dF o ((d,bV true)::tm) ctr))) (K (dF o ((d,bV false)::tm) ctr) (eL ((d,bV false)::tm) o.dst (.dQ [])) hp (ctr+4))
    |false=>br b (K (dF o ((d,bV true)::tm) ctr) (eL ((d,bV true)::tm) o.dst (.dQ [])) hp (ctr+4)) (LS P o ((d,bV false)::tm) hp ctr (K (dF o ((d,bV false)::tm) ctr)))
   |some (.dQ [])=>K (dF o tm ctr) (eL tm o.dst (.dQ [])) hp (ctr+4)
   |_=>False
def qg (P:Program) (n:Nat):List kr→List gO→TS→HS→Nat→(List gO→TS→HS→Nat→Prop)→Prop
 | [],fs,tm,hp,ctr,K=>K fs tm hp ctr
 |o::r,fs,tm,hp,ctr,K=>Ii P n o tm hp ctr fun f tm hp ctr=>qg P n r (fs++[f]) tm hp ctr K
def gU (K:TS→HS→Nat→Prop) (Q:Exit→TS→HS→Nat→Prop):Exit→TS→HS→Nat→Prop
 | .normal=>K
 |e=>Q e
def yl (id:Nat) (Q:Exit→TS→HS→Nat→Prop):Exit→TS→HS→Nat→Prop
 | .exit id'=>if id'=id then Q .normal else Q (.exit id')
 |e=>Q e
def dP (tm:TS) (hp:HS) (ctr:Nat) (bf:TS) (aF:HS) (c':Nat):Prop:=
 ∀ (M A:Nat→Prop) (ρ:Env) (n:Nat) (a:Act) (w:World),Rel M A ρ (bt ctr) ⟨n,tm,hp⟩ a w→ ∃A' ρ',Rel M A' ρ' (bt c') ⟨n,bf,aF⟩ a w∧iJ ρ ρ'∧fM M A A' w
theorem dP.ak {tm:TS} {hp:HS} {ctr:Nat} {S:Ren} (hok:S.ok=true):dP tm hp ctr (S.tm tm) (S.hp hp) S.ctr:=fun M A _ _ _ w hr=>by
 obtain⟨ρ',h1,h2⟩:=hr.ak hok
 exact⟨A,ρ',h1,h2,fM.refl M A w⟩
theorem dP.refl {tm:TS} {hp:HS} {ctr:Nat}:dP tm hp ctr tm hp ctr:=fun M A ρ _ _ w hr=>⟨A,ρ,hr,iJ.refl _,fM.refl M A w⟩
theorem dP.trans {tm nF tm2:TS} {hp hp1 hp2:HS} {c c1 c2:Nat} (h:dP tm hp c nF hp1 c1) (k:dP nF hp1 c1 tm2 hp2 c2):dP tm hp c tm2 hp2 c2:=by
 intro M A ρ n a w hr
 obtain⟨A1,ρ1,h1,e1,g1⟩:=h M A ρ n a w hr
 obtain⟨A2,ρ2,h2,e2,g2⟩:=k M A1 ρ1 n a w h1
 exact⟨A2,ρ2,h2,e1.trans e2,g1.trans g2 (Nat.le_refl _)⟩
inductive bM (J:TS→HS→Nat→Prop):TS→HS→Nat→Prop
 |mk {tm:TS} {hp:HS} {ctr:Nat} (S:Ren) (hok:S.ok=true) (h:J (S.tm tm) (S.hp hp) S.ctr):bM J tm hp ctr
 |sem {tm:TS} {hp:HS} {ctr:Nat} {bf:TS} {aF:HS} {c':Nat} (hw:dP tm hp ctr bf aF c') (h:bM J bf aF c'):bM J tm hp ctr
theorem bM.mk' {J:TS→HS→Nat→Prop} {tm:TS} {hp:HS} {ctr:Nat} (h: ∃S:Ren,S.ok=true∧J (S.tm tm) (S.hp hp) S.ctr):bM J tm hp ctr:=by
 obtain⟨S,h1,h2⟩:=h
 exact .mk S h1 h2
theorem bM.get {J:TS→HS→Nat→Prop} {tm:TS} {hp:HS} {ctr:Nat} (h:bM J tm hp ctr): ∃bf aF c',dP tm hp ctr bf aF c'∧J bf aF c':=by
 induction h with
 |mk S hok h=>exact⟨_,_,_,dP.ak hok,h⟩
 |sem hw _ ih=>
  obtain⟨bf,aF,c',h1,h2⟩:=ih
  exact⟨bf,aF,c',hw.trans h1,h2⟩
def X (P:Program) (n:Nat):Rc→(Exit→TS→HS→Nat→Prop)→TS→HS→Nat→Prop
 | .skip,Q,tm,hp,ctr=>Q .normal tm hp ctr
 | .ret,Q,tm,hp,ctr=>Q .ret tm hp ctr
 | .exit id,Q,tm,hp,ctr=>Q (.exit id) tm hp ctr
 | .seq a b,Q,tm,hp,ctr=>X P n a (gU (X P n b Q) Q) tm hp ctr
 | .cond c a b,Q,tm,hp,ctr=>
   match(c.get tm).gk with
   |some v=>br v (X P n a Q tm hp ctr) (X P n b Q tm hp ctr)
   |none=>False
 | .block id b,Q,tm,hp,ctr=>X P n b (yl id Q) tm hp ctr
 | .loop b,Q,tm,hp,ctr=> ∃I:Nat→TS→HS→Nat→Prop,bM (fun tm hp c=> ∃m,I m tm hp c) tm hp ctr∧
    ∀m tm hp c,I m tm hp c→X P n b (gU (bM fun tm hp c=> ∃m',m' < m∧I m' tm hp c) Q) tm hp c
 | .region ops,Q,tm,hp,ctr=>tj P n ops tm hp ctr (Q .normal)
 | .draw ops es,Q,tm,hp,ctr=>qg P n ops [] tm hp ctr fun fs tm hp ctr=>vD es fs=true∧Q .normal tm hp ctr
variable {P:Program} {M A:Nat→Prop} {ρ:Env} {F:Nat→Prop} {st:St} {a:Act} {w:World}
theorem oq (st:St): ∀ (xs:List Operand),De st.tmps (xs.map dm)=ot st.get xs
 | []=>rfl
 |x::r=>by simp only[List.map_cons,De,ot,bh,oq st r];rfl
def nH (n:Nat) (K:TS→HS→Nat→Prop):St→Nat→Prop:=fun st c=>st.n=n∧K st.tmps st.heap c
theorem wu {o:Oper} {f:FuncId} {args:List dO} (h:aI P o=some (.call f args)):
 ∃ff ia,o.op= .call ⟨.value (.func f),ff,ia⟩∧args=ff.toList.map dm∧enters P f=true:=by
 obtain⟨dst,op,ty,pos,after,guard⟩:=o
 cases op
 case call c=>
  obtain⟨callee,ff,ia⟩:=c
  simp only[aI]at h
  split at h
  · split at h
    · split at h
      · simp at h
      · simp at h
      · simp at h
    · simp at h
  · split at h
    · simp at h
    · simp at h
  · split at h
    · simp at h
    · simp at h
  · split at h
    · split at h
      · split at h
        · split at h
          · simp at h
          · simp at h
        · simp at h
      · simp at h
    · simp at h
  · rename_i g
    split at h
    · rename_i he
      simp only[Option.some.injEq,Ro.call.injEq]at h
      obtain⟨rfl,rfl⟩:=h
      exact⟨ff,ia,rfl,rfl,he⟩
    · simp at h
  · simp at h
 all_goals
  exfalso
  simp only[aI]at h
  repeat' (split at h)
  all_goals first
   |contradiction
   |(simp at h;done)
   |(simp[Option.map_eq_some_iff]at h;done)
theorem lq {o:Oper} {f:FuncId} {args:List dO} (h:aY P o=some (.call f args)):
 ∃ff ia,o.op= .call ⟨.value (.func f),ff,ia⟩∧args=ff.toList.map dm∧enters P f=true:=by
 unfold aY at h
 split at h
 · rename_i r' dr
   replace dr:=dG dr
   simp only[Option.some.injEq]at h
   subst h
   exact wu dr
 · simp only[Option.some.injEq]at h
   rcases kz o with⟨t,args,ia,_,e⟩|e
   · rw[e]at h;simp at h
   · rw[e]at h;simp at h
theorem uj {o:Oper} {x:dO} {args:List dO} (h:aI P o=some (.jZ x args)):False:=by
 obtain⟨dst,op,ty,pos,after,guard⟩:=o
 cases op<;>simp only[aI]at h
 all_goals (repeat' split at h)
 all_goals simp at h
theorem yI {o:Oper} {op:Op} {ty:TypeId} (h:aI P o=some (.raw op ty)):False:=by
 obtain⟨dst,op,ty,pos,after,guard⟩:=o
 cases op<;>simp only[aI]at h
 all_goals (repeat' split at h)
 all_goals simp at h
theorem j6 {o:Oper} {x:dO} {args:List dO} (h:aY P o=some (.jZ x args)): ∃t ff ia,o.op= .call ⟨.value (.tmp t),ff,ia⟩∧x= .t t∧args=ff.toList.map dm:=by
 unfold aY at h
 split at h
 · rename_i r hr
   replace hr:=dG hr
   simp only[Option.some.injEq]at h
   subst h
   exfalso
   exact uj hr
 · simp only[Option.some.injEq]at h
   rcases kz o with⟨t,ff,ia,ho,e⟩|e
   · rw[e]at h
     simp only[Ro.jZ.injEq]at h
     exact⟨t,ff,ia,ho,h.1.symm,h.2.symm⟩
   · rw[e]at h;simp at h
theorem jL {o:Oper} {op:Op} {ty:TypeId} (h:aY P o=some (.raw op ty)):op=o.op∧ty=o.type:=by
 unfold aY at h
 split at h
 · rename_i r hr
   replace hr:=dG hr
   simp only[Option.some.injEq]at h
   subst h
   exfalso
   exact yI hr
 · simp only[Option.some.injEq]at h
   rcases kz o with⟨t,ff,ia,ho,e⟩|e
   · rw[e]at h;simp at h
   · rw[e]at h
     simp only[Ro.raw.injEq]at h
     exact⟨h.1.symm,h.2.symm⟩
theorem wX.wpOp {ops:Array Oper} {o:Oper} {i:Nat} {x:Ro} {g:Option (Nat×Bool)} {ctr:Nat} {K:TS→HS→Nat→Prop} (hi:ops[i]? =some o) (hx:aY P o=some x)
 (hd:gj st.n o.dst=true) (hg:aW ops o st.tmps=some true) (h:wX P st.n ⟨o.dst,g,x⟩ st.tmps st.heap ctr K):kS P ops i (nH st.n K) st ctr:=by
 unfold kS
 simp only[hi]
 refine⟨hd,?_⟩
 simp only[hg]
 unfold wX at h
 split at h
 · rename_i f args kI
   simp only at kI
   subst kI
   obtain⟨ff,ia,ho,rfl,mP⟩:=lq hx
   simp only[oq]at h
   split at h
   · rename_i us fR
     obtain⟨v,aF,c',hc,hK⟩:=h
     rw[dN,jN,iy]at hK
     have wJ:bK st.get o=some (f,us):=by
      unfold bK
      rw[ho]
      simp only[St.get,V.ofValue,fR]
      rfl
     exact .inl ⟨f,us,wJ,mP,v,aF,c',hc,by rw[tw];exact⟨rfl,hK⟩⟩
   · exact h.elim
 · rename_i y args kI
   simp only at kI
   subst kI
   obtain⟨t,ff,ia,ho,rfl,rfl⟩:=j6 hx
   simp only[oq]at h
   split at h
   · rename_i us fR
     split at h
     · rename_i f fh hf
       obtain⟨mP,v,aF,c',hc,hK⟩:=h
       rw[dN,jN,iy]at hK
       have hv:st.get (.tmp t)=(dO.t t).get st.tmps:=(bh st (.tmp t)).symm
       have wJ:bK st.get o=some (f,fh):=by
        unfold bK
        rw[ho]
        unfold U8 at hf
        split at hf
        · rename_i jT
          simp only[Option.some.injEq,Prod.mk.injEq]at hf
          obtain⟨rfl,rfl⟩:=hf
          simp only[hv,jT,fR]
        · rename_i jT
          simp only[Option.some.injEq,Prod.mk.injEq]at hf
          obtain⟨rfl,rfl⟩:=hf
          simp only[hv,jT,fR,mD,Option.map_some]
        · rename_i jT
          simp only[Option.some.injEq,Prod.mk.injEq]at hf
          obtain⟨rfl,rfl⟩:=hf
          simp only[hv,jT,fR,mD,Option.map_some]
        · rename_i jT
          simp only[hv,jT,fR]
          exact hf
        · simp at hf
       exact .inl ⟨f,fh,wJ,mP,v,aF,c',hc,by rw[tw];exact⟨rfl,hK⟩⟩
     · exact h.elim
   · exact h.elim
 · rename_i op ty kI
   simp only at kI
   subst kI
   obtain⟨rfl,rfl⟩:=jL hx
   obtain⟨v,aF,XV,hK⟩:=h
   rw[dN,jN,iy]at hK
   exact .inr ⟨v,aF,XV o rfl rfl,by rw[tw];exact⟨rfl,hK⟩⟩
 · simp only[jN,iy]at h
   obtain⟨h1,v,heap',h2,h3⟩:=vU hx h
   exact .inr ⟨v,heap',lI h2,by rw[tw];exact⟨rfl,h3⟩⟩
theorem Rel.lit {n:Nat} {tm:TS} {hp:HS} {d:Nat} {b c:Bool} (h:Rel M A ρ F ⟨n,tm,hp⟩ a w) (hf:find tm d=some (bV b)) (hb:b=c):Rel M A ρ F ⟨n,(d,bV c)::tm,hp⟩ a w:=by
 subst hb
 refine h.forget rfl (fun t v hv=>?_) (fun _ _ h=>h)
 simp only[aq]at hv
 split at hv
 · rename_i e;subst e;rw[←hv];exact hf
 · exact hv
theorem Kq.sound {ops:Array Oper} {o:Oper} {i n:Nat} {x:Ro} {g:Option (Nat×Bool)} {ctr:Nat} {tm:TS} {hp:HS} {K:TS→HS→Nat→Prop} {Q:Exit→Act→World→Prop} {K':Act→World→Prop}
 (hi:ops[i]? =some o) (hx:aY P o=some x) (hgd:(o.guard=none∧g=none)∨ ∃j want d,o.guard=some (j,want)∧(ops[j]?).bind (·.dst)=some d∧g=some (d,want))
 (h:Kq P n ⟨o.dst,g,x⟩ tm hp ctr K) (hr:Rel M A ρ (bt ctr) ⟨n,tm,hp⟩ a w) (hk: ∀a' w',Post M A ρ w (nH n K) a' w'→K' a' w'):wpOp P ops Q i K' a w:=by
 unfold Kq at h
 split at h
 · exact h.elim
 · rename_i hd
   simp only at hd
   have gx: ∀ {bf:TS},Rel M A ρ (bt ctr) ⟨n,bf,hp⟩ a w→aW ops o bf=some false→K (eL bf o.dst (.dQ [])) hp ctr→wpOp P ops Q i K' a w:=by
    intro bf dr jf hK
    refine kS.sound (K:=nH n K) (ctr:=ctr) ?_ dr hk
    unfold kS
    simp only[hi]
    refine⟨hd,?_⟩
    simp only[jf,kA]
    exact⟨rfl,hK⟩
   have wanted: ∀ {bf:TS},Rel M A ρ (bt ctr) ⟨n,bf,hp⟩ a w→aW ops o bf=some true→wX P n ⟨o.dst,g,x⟩ bf hp ctr K→wpOp P ops Q i K' a w:=by
    intro bf dr jf hX
    exact kS.sound (K:=nH n K) (ctr:=ctr) (wX.wpOp (st:=⟨n,bf,hp⟩) hi hx hd jf hX) dr hk
   rcases hgd with⟨BS,rfl⟩|⟨j,want,d,BS,hj,rfl⟩
   · simp only at h
     exact wanted hr (by simp[aW,BS]) h
   · have eS: ∀ {bf:TS} {b:Bool},find bf d=some (bV b)→aW ops o bf=some (b==want):=by
      intro bf b hf
      simp only[aW,BS,hj,hf]
     simp only at h
     split at h
     · rename_i b hf
       split at h
       · rcases jd h with⟨hb,h⟩|⟨hb,h⟩
         · exact wanted (hr.lit hf hb) (by rw[eS (b:=true) (by simp[aq])];rfl) h
         · exact gx (hr.lit hf hb) (by rw[eS (b:=false) (by simp[aq])];rfl) h
       · rcases jd h with⟨hb,h⟩|⟨hb,h⟩
         · exact gx (hr.lit hf hb) (by rw[eS (b:=true) (by simp[aq])];rfl) h
         · exact wanted (hr.lit hf hb) (by rw[eS (b:=false) (by simp[aq])];rfl) h
     · rename_i hf
       exact gx hr (by simp only[aW,BS,hj,hf]) h
     · exact h.elim
theorem tj.sound {ops:Array Oper} {n:Nat} {K:TS→HS→Nat→Prop} {Q:Exit→Act→World→Prop}: ∀ {l:List Oper} {rs:List kr} {k:Nat} {M A:Nat→Prop} {ρ:Env} {tm:TS} {hp:HS} {a:Act} {w:World} {ctr:Nat},
 (∀j,ops[k+j]? =l[j]?)→aT P ops l=some rs→tj P n rs tm hp ctr K→Rel M A ρ (bt ctr) ⟨n,tm,hp⟩ a w→(∀a' w',Post M A ρ w (nH n K) a' w'→Q .normal a' w')→
 wpOps P ops Q (List.range' k l.length) a w
 | [],rs,k,M,A,ρ,tm,hp,a,w,ctr,hl,eA,h,hr,hq=>by
   simp only[aT,Option.some.injEq]at eA
   subst eA
   exact hq _ _ (Post.here hr ⟨rfl,h⟩)
 |o::l,rs,k,M,A,ρ,tm,hp,a,w,ctr,hl,eA,h,hr,hq=>by
  simp only[aT]at eA
  split at eA
  · rename_i x l' hx hl'
    have hi:ops[k]? =some o:=by simpa using hl 0
    have rest: ∀ {g:Option (Nat×Bool)},rs=⟨o.dst,g,x⟩::l'→((o.guard=none∧g=none)∨ ∃j want d,o.guard=some (j,want)∧(ops[j]?).bind (·.dst)=some d∧g=some (d,want))→wpOps P ops Q (List.range' k (l.length+1)) a w:=by
     intro g Nf hgd
     subst Nf
     simp only[tj]at h
     rw[List.range'_succ,wpOps_cons]
     refine Kq.sound hi hx hgd h hr (fun a' w' aF=>?_)
     obtain⟨st',c',A',ρ',⟨h1,IN⟩,h2,h3,h4,h5⟩:=aF
     subst h1
     exact tj.sound (k:=k+1) (fun j=>by have:=hl (j+1);rw[show k+1+j=k+(j+1) by omega,this];simp) hl' IN h2 (fun a2 w2 hp2=>hq _ _ (hp2.trans h3 h4 h5))
    split at eA
    · rename_i hg
      simp only[Option.some.injEq]at eA
      exact rest eA.symm (.inl ⟨hg,rfl⟩)
    · rename_i j want hg
      split at eA
      · rename_i d hd
        simp only[Option.some.injEq]at eA
        exact rest eA.symm (.inr ⟨j,want,d,hg,hd,rfl⟩)
      · simp at eA
  · simp at eA
theorem AR (v:Value):(V.ofValue v).ids=[]:=by
 cases v with
 |agg cs=>
  simp only[V.ofValue]
  split
  · simp only[V.ids,W.ids,List.flatMap_eq_nil_iff,List.mem_map]
    rintro c ⟨x,_,rfl⟩
    rfl
  · rfl
 |_=>rfl
theorem oG {place:Nat→Option (Nat×Nat)}: ∀ {ps:List (Nat×Operand)} {l:List (Nat×Nat×dO)},mH place ps=some l→ ∀p,p∈ps→dm p.2∈l.map (·.2.2)
 | [],l,h,p,hp=>by simp at hp
 |(i,x)::r,l,h,p,hp=>by
  simp only[mH]at h
  split at h
  · rename_i off size l' h1 h2
    simp only[Option.some.injEq]at h
    subst h
    rcases List.mem_cons.1 hp with rfl|hp
    · simp
    · simp only[List.map_cons,List.mem_cons];exact .inr (oG h2 p hp)
  · simp at h
theorem wq {o:Oper} {r:Ro} (h:aI P o=some r):(∀x,x∈o.op.operands→dm x∈r.ii∨ ∃f,x= .func f)∧(looks o.op=true→r.looks=true)∧(writes o.op=true→r.UD=true):=by
 obtain⟨dst,op,ty,pos,after,guard⟩:=o
 cases op
 case call c=>
  obtain⟨callee,args,ia⟩:=c
  simp only[aI]at h
  split at h
  · split at h
    · rename_i x t hx ht
      split at h
      · simp only[Option.some.injEq]at h
        subst h
        refine⟨fun y hy=>?_,fun _=>rfl,fun hw=>by simp[writes]at hw⟩
        have:y∈args.toList:=by simpa[Op.operands,Call.operands]using hy
        rw[hx]at this
        simp only[List.mem_singleton]at this
        subst this
        exact .inl (by simp[Ro.ii])
      · simp only[Option.some.injEq]at h
        subst h
        refine⟨fun y hy=>?_,fun _=>rfl,fun hw=>by simp[writes]at hw⟩
        have:y∈args.toList:=by simpa[Op.operands,Call.operands]using hy
        rw[hx]at this
        simp only[List.mem_singleton]at this
        subst this
        exact .inl (by simp[Ro.ii])
      · simp at h
    · simp at h
  · split at h
    · rename_i x y hx
      simp only[Option.some.injEq]at h
      subst h
      refine⟨fun z hz=>?_,fun _=>rfl,fun hw=>by simp[writes]at hw⟩
      have:z∈args.toList:=by simpa[Op.operands,Call.operands]using hz
      rw[hx]at this
      simp only[List.mem_cons,List.not_mem_nil,or_false]at this
      rcases this with rfl|rfl
      · exact .inl (by simp[Ro.ii])
      · exact .inl (by simp[Ro.ii])
    · simp at h
  · split at h
    · rename_i x y hx
      simp only[Option.some.injEq]at h
      subst h
      refine⟨fun z hz=>?_,fun _=>rfl,fun hw=>by simp[writes]at hw⟩
      have:z∈args.toList:=by simpa[Op.operands,Call.operands]using hz
      rw[hx]at this
      simp only[List.mem_cons,List.not_mem_nil,or_false]at this
      rcases this with rfl|rfl
      · exact .inl (by simp[Ro.ii])
      · exact .inl (by simp[Ro.ii])
    · simp at h
  · split at h
    · rename_i s x t t' hx ht
      split at h
      · split at h
        · split at h
          · simp only[Option.some.injEq]at h
            subst h
            refine⟨fun y hy=>?_,fun _=>rfl,fun _=>rfl⟩
            have:y∈args.toList:=by simpa[Op.operands,Call.operands]using hy
            rw[hx]at this
            simp only[List.mem_cons,List.not_mem_nil,or_false]at this
            rcases this with rfl|rfl
            · exact .inl (by simp[Ro.ii])
            · exact .inl (by simp[Ro.ii])
          · simp at h
        · simp at h
      · simp at h
    · simp at h
  · rename_i f
    split at h
    · simp only[Option.some.injEq]at h
      subst h
      refine⟨fun y hy=>?_,fun _=>rfl,fun hw=>by simp[writes]at hw⟩
      simp only[Op.operands,Call.operands,Array.mem_append]at hy
      rcases hy with hy|hy
      · exact .inr ⟨f,by simpa using hy⟩
      · exact .inl (by simp only[Ro.ii,List.mem_map];exact⟨y,by simpa using hy,rfl⟩)
    · simp at h
  · simp at h
 case build t ps=>
  simp only[aI]at h
  split at h
  · split at h
    · simp only[Option.map_eq_some_iff]at h
      obtain⟨l,hl,rfl⟩:=h
      refine⟨fun y hy=>?_,fun hl=>by simp[looks]at hl,fun hw=>by simp[writes]at hw⟩
      simp[Op.operands]at hy
      obtain⟨i,hi⟩:=hy
      exact .inl (oG hl (i,y) (by simpa using hi))
    · simp at h
  · split at h
    · simp only[Option.map_eq_some_iff]at h
      obtain⟨l,hl,rfl⟩:=h
      refine⟨fun y hy=>?_,fun hl=>by simp[looks]at hl,fun hw=>by simp[writes]at hw⟩
      simp[Op.operands]at hy
      obtain⟨i,hi⟩:=hy
      exact .inl (oG hl (i,y) (by simpa using hi))
    · simp at h
  · simp at h
 case buildSlice t len ps=>
  simp only[aI]at h
  split at h
  · split at h
    · split at h
      · simp only[Option.some.injEq]at h
        subst h
        refine⟨fun y hy=>?_,fun hl=>by simp[looks]at hl,fun hw=>by simp[writes]at hw⟩
        simp[Op.operands]at hy
        obtain⟨i,hi⟩:=hy
        refine .inl ?_
        simp only[Ro.ii,List.map_map,List.mem_map]
        exact⟨(i,y),by simpa using hi,rfl⟩
      · simp at h
    · simp at h
  · simp at h
 case makeFunc fn first captured=>
  cases fn with
  |func f=>
   simp only[aI]at h
   split at h
   · rename_i hc
     simp only[Option.some.injEq]at h
     subst h
     simp only[Bool.and_eq_true,Array.isEmpty_iff]at hc
     obtain⟨rfl,_⟩:=hc
     refine⟨fun y hy=>?_,fun hl=>by simp[looks]at hl,fun hw=>by simp[writes]at hw⟩
     refine .inl ?_
     simp only[Ro.ii,List.mem_map]
     exact⟨y,by simpa[Op.operands]using hy,rfl⟩
   · simp at h
  |_=>simp[aI]at h
 case slice t x lo hi mx=>
  cases mx with
  |some m=>simp[aI]at h
  |none=>
   simp only[aI]at h
   split at h
   · simp only[Option.map_eq_some_iff]at h
     obtain⟨n,hn,rfl⟩:=h
     refine⟨fun y hy=>?_,fun hl=>by simp[looks]at hl,fun hw=>by simp[writes]at hw⟩
     refine .inl ?_
     cases lo<;>cases hi<;>simp[Op.operands,Ro.ii]at hy⊢ <;>(first|(rcases hy with rfl|rfl|rfl<;>simp)|(rcases hy with rfl|rfl<;>simp)|(subst hy;simp))
   · simp at h
 case unOp op t x=>
  cases op<;>simp only[aI]at h<;>try (simp at h;done)
  all_goals
   simp only[Option.some.injEq]at h
   subst h
   refine⟨fun y hy=>?_,fun hl=>by simp[looks]at hl,fun hw=>by simp[writes]at hw⟩
   simp[Op.operands]at hy
   subst hy
   simp[Ro.ii]
 all_goals
  simp only[aI]at h
  repeat' (split at h)
  all_goals first
   |contradiction
   |(simp at h;done)
   |(simp only[Option.some.injEq]at h
     subst h
     refine⟨fun y hy=>?_,fun hl=>by first|rfl|(simp[looks]at hl;done),fun hw=>by first|rfl|(simp[writes]at hw;done)⟩
     first
      |(simp[Op.operands]at hy;done)
      |(simp[Op.operands]at hy;rcases hy with rfl|rfl|rfl<;>simp[Ro.ii];done)
      |(simp[Op.operands]at hy;rcases hy with rfl|rfl<;>simp[Ro.ii];done)
      |(simp[Op.operands]at hy;subst hy;simp[Ro.ii];done))
   |(simp only[Option.map_eq_some_iff]at h
     obtain⟨q,hq,rfl⟩:=h
     refine⟨fun y hy=>?_,fun hl=>by first|rfl|(simp[looks]at hl;done),fun hw=>by first|rfl|(simp[writes]at hw;done)⟩
     first
      |(simp[Op.operands]at hy;done)
      |(simp[Op.operands]at hy;rcases hy with rfl|rfl|rfl<;>simp[Ro.ii];done)
      |(simp[Op.operands]at hy;rcases hy with rfl|rfl<;>simp[Ro.ii];done)
      |(simp[Op.operands]at hy;subst hy;simp[Ro.ii];done))
theorem LS.step {o:Oper} {x:Ro} {g:Option (Nat×Bool)} {n ctr:Nat} {tm:TS} {hp:HS} {K:TS→HS→Nat→Prop} (hx:aY P o=some x) (h:LS P ⟨o.dst,g,x⟩ tm hp ctr K):
 ∃v aF,(match bK (St.get ⟨n,tm,hp⟩) o with
  |some (g,us)=>enters P g=true∧eu P hp ctr g us v aF
  |none=>ai P (St.get ⟨n,tm,hp⟩) hp ctr o=some (v,aF))∧K (eL tm o.dst v) aF (ctr+4):=by
 unfold LS at h
 split at h
 · rename_i f args kI
   simp only at kI
   subst kI
   obtain⟨ff,ia,ho,rfl,mP⟩:=lq hx
   have EW:=oq ⟨n,tm,hp⟩ ff.toList
   simp only at EW
   rw[EW]at h
   split at h
   · rename_i us fR
     obtain⟨v,aF,hc,hK⟩:=h
     rw[dN,jN,iy]at hK
     have wJ:bK (St.get ⟨n,tm,hp⟩) o=some (f,us):=by
      unfold bK
      rw[ho]
      have hf:St.get ⟨n,tm,hp⟩ (.func f)= .w (.one (.t (.val (.func (.func f) #[] #[])))):=rfl
      simp only[hf,fR]
      rfl
     exact⟨v,aF,by rw[wJ];exact⟨mP,hc⟩,hK⟩
   · exact h.elim
 · rename_i y args kI
   simp only at kI
   subst kI
   obtain⟨t,ff,ia,ho,rfl,rfl⟩:=j6 hx
   have EW:=oq ⟨n,tm,hp⟩ ff.toList
   simp only at EW
   rw[EW]at h
   split at h
   · rename_i us fR
     split at h
     · rename_i f fh hf
       obtain⟨mP,v,aF,hc,hK⟩:=h
       rw[dN,jN,iy]at hK
       have hv:St.get ⟨n,tm,hp⟩ (.tmp t)=(dO.t t).get tm:=(bh ⟨n,tm,hp⟩ (.tmp t)).symm
       have wJ:bK (St.get ⟨n,tm,hp⟩) o=some (f,fh):=by
        unfold bK
        rw[ho]
        unfold U8 at hf
        split at hf
        · rename_i jT
          simp only[Option.some.injEq,Prod.mk.injEq]at hf
          obtain⟨rfl,rfl⟩:=hf
          simp only[hv,jT,fR]
        · rename_i jT
          simp only[Option.some.injEq,Prod.mk.injEq]at hf
          obtain⟨rfl,rfl⟩:=hf
          simp only[hv,jT,fR,mD,Option.map_some]
        · rename_i jT
          simp only[Option.some.injEq,Prod.mk.injEq]at hf
          obtain⟨rfl,rfl⟩:=hf
          simp only[hv,jT,fR,mD,Option.map_some]
        · rename_i jT
          simp only[hv,jT,fR]
          exact hf
        · simp at hf
       exact⟨v,aF,by rw[wJ];exact⟨mP,hc⟩,hK⟩
     · exact h.elim
   · exact h.elim
 · rename_i op ty kI
   simp only at kI
   subst kI
   obtain⟨rfl,rfl⟩:=jL hx
   obtain⟨v,aF,⟨wJ,dJ⟩,hK⟩:=h
   rw[dN,jN,iy]at hK
   have YC:bK (St.get ⟨n,tm,hp⟩) o=none:=by
    have:=wJ (St.get ⟨n,tm,hp⟩)
    unfold bK at this⊢
    exact this
   exact⟨v,aF,by rw[YC];exact dJ n o rfl rfl,hK⟩
 · rename_i r hne
   simp only[jN,iy]at h
   obtain⟨h1,v,aF,h2,h3⟩:=vU (st:=⟨n,tm,hp⟩) hx h
   exact⟨v,aF,by rw[h1];exact h2,h3⟩
theorem yH {o:Oper} {r:Ro} (h:aY P o=some r):(∀x,x∈o.op.operands→dm x∈r.ii∨ ∃f,x= .func f)∧(looks o.op=true→r.looks=true)∧(writes o.op=true→r.UD=true):=by
 unfold aY at h
 split at h
 · rename_i r' dr
   replace dr:=dG dr
   simp only[Option.some.injEq]at h
   subst h
   exact wq dr
 · simp only[Option.some.injEq]at h
   subst h
   rcases kz o with⟨t,args,ia,ho,e⟩|e
   · rw[e,ho]
     refine⟨fun x hx=> .inl ?_,fun _=>rfl,fun hw=>by simp[writes]at hw⟩
     have hx':x= .tmp t∨x∈args:=by simpa[Op.operands,Call.operands]using hx
     simp only[Ro.ii,List.mem_cons,List.mem_map]
     rcases hx' with rfl|hx'
     · exact .inl rfl
     · exact .inr ⟨x,by simpa using hx',rfl⟩
   · rw[e]
     refine⟨fun x hx=> .inl ?_,fun hl=>hl,fun hw=>hw⟩
     simp only[Ro.ii,List.mem_map]
     exact⟨x,by simpa using hx,rfl⟩
theorem xS {ops:Array Oper} {o:Oper} {x:Ro} {g:Option (Nat×Bool)} {n ctr:Nat} {tm:TS} {hp:HS} (hx:aY P o=some x)
 (hgd:(o.guard=none∧g=none)∨ ∃j want d,o.guard=some (j,want)∧(ops[j]?).bind (·.dst)=some d∧g=some (d,want)):
 (dF ⟨o.dst,g,x⟩ tm ctr).dst=o.dst∧(∀t,t∈names ops o→t∈ (dF ⟨o.dst,g,x⟩ tm ctr).nm)∧(∀k,k∈iS (St.get ⟨n,tm,hp⟩) o→k∈ (dF ⟨o.dst,g,x⟩ tm ctr).rd)∧
   (∀k,k∈tt (St.get ⟨n,tm,hp⟩) ctr o→k∈ (dF ⟨o.dst,g,x⟩ tm ctr).wr):=by
 obtain⟨h1,h2,h3⟩:=yH hx
 have hrd: ∀k,k∈iS (St.get ⟨n,tm,hp⟩) o→k∈ (dF ⟨o.dst,g,x⟩ tm ctr).rd:=by
  intro k hk
  simp only[iS]at hk
  split at hk
  · rename_i hl
    simp only[dF,h2 hl,if_true,List.mem_flatMap]
    simp only[List.mem_flatMap]at hk
    obtain⟨y,hy,UT⟩:=hk
    rw[←bh]at UT
    rcases h1 y (by simpa using hy)with hm|⟨f,rfl⟩
    · exact⟨dm y,hm,UT⟩
    · simp only[dm,dO.get,AR]at UT
      simp at UT
  · simp at hk
 refine⟨rfl,fun t ht=>?_,hrd,fun k hk=>?_⟩
 · simp only[names,List.mem_append,List.mem_filterMap]at ht
   simp only[dF,List.mem_append,List.mem_filterMap]
   rcases ht with⟨y,hy,Xs⟩|ht
   · left
     cases y with
     |tmp t'=>
      simp only[Option.some.injEq]at Xs
      subst Xs
      rcases h1 (.tmp t') (by simpa using hy)with hm|⟨f,hf⟩
      · exact⟨.t t',hm,rfl⟩
      · simp at hf
     |_=>simp at Xs
   · right
     rcases hgd with⟨hg,rfl⟩|⟨j,want,d,hg,hd,rfl⟩
     · simp[hg]at ht
     · simp only[hg,hd]at ht
       simpa using ht
 · simp only[tt,List.mem_append]at hk
   simp only[dF,List.mem_append]
   rcases hk with hk|hk
   · exact .inl hk
   · split at hk
     · rename_i hw
       right
       rw[if_pos (h3 hw)]
       exact hrd k hk
     · simp at hk
theorem Ii.step {ops:Array Oper} {o:Oper} {n ctr:Nat} {x:Ro} {g:Option (Nat×Bool)} {tm:TS} {hp:HS} {K:gO→TS→HS→Nat→Prop}
 (hx:aY P o=some x) (hgd:(o.guard=none∧g=none)∨ ∃j want d,o.guard=some (j,want)∧(ops[j]?).bind (·.dst)=some d∧g=some (d,want)) (h:Ii P n ⟨o.dst,g,x⟩ tm hp ctr K):
 ∃bf v aF,(∀t,find bf t=find tm t)∧fg P ops o n bf hp ctr v aF∧K (dF ⟨o.dst,g,x⟩ bf ctr) (eL bf o.dst v) aF (ctr+4):=by
 unfold Ii at h
 split at h
 · exact h.elim
 · rename_i hd
   simp only at hd
   have wanted: ∀ {bf:TS},(∀t,find bf t=find tm t)→aW ops o bf=some true→LS P ⟨o.dst,g,x⟩ bf hp ctr (K (dF ⟨o.dst,g,x⟩ bf ctr))→
    ∃bf v aF,(∀t,find bf t=find tm t)∧fg P ops o n bf hp ctr v aF∧K (dF ⟨o.dst,g,x⟩ bf ctr) (eL bf o.dst v) aF (ctr+4):=by
    intro bf he hg hX
    obtain⟨v,aF,h1,h2⟩:=LS.step (n:=n) hx hX
    exact⟨bf,v,aF,he,⟨hd,by rw[hg];exact h1⟩,h2⟩
   have gx: ∀ {bf:TS},(∀t,find bf t=find tm t)→aW ops o bf=some false→K (dF ⟨o.dst,g,x⟩ bf ctr) (eL bf o.dst (.dQ [])) hp (ctr+4)→
    ∃bf v aF,(∀t,find bf t=find tm t)∧fg P ops o n bf hp ctr v aF∧K (dF ⟨o.dst,g,x⟩ bf ctr) (eL bf o.dst v) aF (ctr+4):=by
    intro bf he hg hK
    exact⟨bf, .dQ [],hp,he,⟨hd,by rw[hg];exact⟨rfl,rfl⟩⟩,hK⟩
   rcases hgd with⟨BS,rfl⟩|⟨j,want,d,BS,hj,rfl⟩
   · simp only at h
     exact wanted (fun _=>rfl) (by simp[aW,BS]) h
   · have eS: ∀ {bf:TS} {b:Bool},find bf d=some (bV b)→aW ops o bf=some (b==want):=by
      intro bf b hf
      simp only[aW,BS,hj,hf]
     simp only at h
     split at h
     · rename_i b hf
       have lit: ∀ {c:Bool},b=c→ ∀t,find ((d,bV c)::tm) t=find tm t:=by
        intro c hb t
        subst hb
        simp only[aq]
        split
        · rename_i e;subst e;exact hf.symm
        · rfl
       split at h
       · rcases jd h with⟨hb,h⟩|⟨hb,h⟩
         · exact wanted (lit hb) (by rw[eS (b:=true) (by simp[aq])];rfl) h
         · exact gx (lit hb) (by rw[eS (b:=false) (by simp[aq])];rfl) h
       · rcases jd h with⟨hb,h⟩|⟨hb,h⟩
         · exact gx (lit hb) (by rw[eS (b:=true) (by simp[aq])];rfl) h
         · exact wanted (lit hb) (by rw[eS (b:=false) (by simp[aq])];rfl) h
     · rename_i hf
       exact gx (fun _=>rfl) (by simp only[aW,BS,hj,hf]) h
     · exact h.elim
theorem qg.trace {ops:Array Oper} {n base:Nat} {K:List gO→TS→HS→Nat→Prop}: ∀ {l:List Oper} {rs:List kr} {k:Nat} {Fc:List gO} {tm:TS} {hp:HS},(∀j,ops[k+j]? =l[j]?)→aT P ops l=some rs→
 Fc.length=k→qg P n rs Fc tm hp (base+4 * k) K→
 ∃ (tmT:Nat→TS) (hpT:Nat→HS) (v:Nat→V) (fs:List gO),K fs (tmT (k+l.length)) (hpT (k+l.length)) (base+4 * (k+l.length))∧(∀i,i < k→fs[i]? =Fc[i]?)∧(∀t,find (tmT k) t=find tm t)∧hpT k=hp∧
  ∀j o,l[j]? =some o→fg P ops o n (tmT (k+j)) (hpT (k+j)) (base+4 * (k+j)) (v (k+j)) (hpT (k+j+1))∧(∀t,find (tmT (k+j+1)) t=find (eL (tmT (k+j)) o.dst (v (k+j))) t)∧
   ∃f,fs[k+j]? =some f∧f.dst=o.dst∧(∀t,t∈names ops o→t∈f.nm)∧(∀q,q∈iS (St.get ⟨n,tmT (k+j),hpT (k+j)⟩) o→q∈f.rd)∧(∀q,q∈tt (St.get ⟨n,tmT (k+j),hpT (k+j)⟩) (base+4 * (k+j)) o→q∈f.wr)
 | [],rs,k,Fc,tm,hp,hl,eA,hk,h=>by
   simp only[aT,Option.some.injEq]at eA
   subst eA
   exact⟨fun _=>tm,fun _=>hp,fun _=> .undef,Fc,by simpa[qg]using h,fun _ _=>rfl,fun _=>rfl,rfl,fun j o hj=>by simp at hj⟩
 |o::l,rs,k,Fc,tm,hp,hl,eA,hk,h=>by
  simp only[aT]at eA
  split at eA
  · rename_i x l' hx hl'
    have hi:ops[k]? =some o:=by simpa using hl 0
    have jf: ∃g,rs=⟨o.dst,g,x⟩::l'∧((o.guard=none∧g=none)∨ ∃j want d,o.guard=some (j,want)∧(ops[j]?).bind (·.dst)=some d∧g=some (d,want)):=by
     split at eA
     · rename_i hg
       simp only[Option.some.injEq]at eA
       exact⟨_,eA.symm, .inl ⟨hg,rfl⟩⟩
     · rename_i j want hg
       split at eA
       · rename_i d hd
         simp only[Option.some.injEq]at eA
         exact⟨_,eA.symm, .inr ⟨j,want,d,hg,hd,rfl⟩⟩
       · simp at eA
    obtain⟨g,Nf,hgd⟩:=jf
    clear eA
    subst Nf
    · skip
      simp only[qg]at h
      obtain⟨bf,v0,aF,he,hst,hK⟩:=Ii.step (ops:=ops) hx hgd h
      have Hp:=xS (ops:=ops) (n:=n) (ctr:=base+4 * k) (tm:=bf) (hp:=hp) hx hgd
      rw[show base+4 * k+4=base+4 * (k+1) by omega]at hK
      obtain⟨tmT,hpT,v,fs,q1,q2,q3,q4,q5⟩:=qg.trace (k:=k+1) (fun j=>by have:=hl (j+1);rw[show k+1+j=k+(j+1) by omega,this];simp) hl' (by simp[hk]) hK
      have AZ:fs[k]? =some (dF ⟨o.dst,g,x⟩ bf (base+4 * k)):=by
       rw[q2 k (by omega),List.getElem?_append_right (by omega),hk];simp
      refine⟨fun i=>if i=k then bf else tmT i,fun i=>if i=k then hp else hpT i,fun i=>if i=k then v0 else v i,fs,?_,?_,?_,?_,?_⟩
      · have e1:k+(o::l).length=k+1+l.length:=by simp;omega
        have e2:¬k+1+l.length=k:=by omega
        simp only[e1,e2,if_false]
        exact q1
      · intro i hi'
        rw[q2 i (by omega),List.getElem?_append_left (by omega)]
      · intro t;simp only[if_true];exact he t
      · simp
      · intro j oj hj
        cases j with
        |zero=>
         simp only[List.getElem?_cons_zero,Option.some.injEq]at hj
         subst hj
         have e2:¬k+1=k:=by omega
         simp only[Nat.add_zero,if_true,e2,if_false,q4]
         exact⟨hst,fun t=>q3 t,_,AZ,Hp⟩
        |succ j=>
         have:=q5 j oj (by simpa using hj)
         have e1:¬k+(j+1)=k:=by omega
         have e2:¬k+(j+1)+1=k:=by omega
         simp only[e1,e2,if_false]
         rw[show k+(j+1)=k+1+j by omega]
         exact this
  · simp at eA
theorem jc: ∀ {Es:List (List Nat)} {k:Nat},tE k Es=true→ ∀i es,Es[i]? =some es→ ∀e,e∈es→e < k+i
 | [],k,h,i,es,hi,e,he=>by simp at hi
 |x::r,k,h,i,es,hi,e,he=>by
  simp only[tE,Bool.and_eq_true]at h
  cases i with
  |zero=>
   simp only[List.getElem?_cons_zero,Option.some.injEq]at hi
   subst hi
   have:=List.all_eq_true.1 h.1 e he
   simpa using this
  |succ i=>
   have:=jc h.2 i es (by simpa using hi) e he
   omega
theorem Wp.FW {c:Code} {Q:Exit→St→Nat→Prop} {ctr:Nat} {bf:TS} {aF:HS} {c':Nat} (hw:dP st.tmps st.heap ctr bf aF c') (h:Wp P c Q ⟨st.n,bf,aF⟩ c'):Wp P c Q st ctr:=by
 intro M A ρ a w hr
 obtain⟨A2,ρ2,qN,he,hg⟩:=hw M A ρ st.n a w hr
 exact wp_mono (h M A2 ρ2 a w qN) (fun e a' w' hp=>hp.trans (df.refl _ _) he hg)
theorem Wp.post {c:Code} {Q Q':Exit→St→Nat→Prop} {ctr:Nat} (h:Wp P c Q st ctr)
 (hq: ∀e st' c',Q e st' c'→Q' e st' c'∨ ∃tm2 hp2 c2,dP st'.tmps st'.heap c' tm2 hp2 c2∧Q' e ⟨st'.n,tm2,hp2⟩ c2):Wp P c Q' st ctr:=by
 intro M A ρ a w hr
 refine wp_mono (h M A ρ a w hr) ?_
 rintro e a' w' ⟨st',c',A',ρ',h1,h2,h3,h4,h5⟩
 rcases hq e st' c' h1 with h1|⟨tm2,hp2,c2,hw,h1⟩
 · exact⟨st',c',A',ρ',h1,h2,h3,h4,h5⟩
 · obtain⟨A2,ρ2,qN,he,hg⟩:=hw M A' ρ' st'.n a' w' h2
   exact⟨_,c2,A2,ρ2,h1,qN,h3,h4.trans he,h5.trans hg h3.size⟩
theorem X.sound {n:Nat}: ∀ {c:Code} {r:Rc},aP P c=some r→ ∀ {Q:Exit→TS→HS→Nat→Prop} {tm:TS} {hp:HS} {ctr:Nat},X P n r Q tm hp ctr→Wp P c (fun e=>nH n (Q e)) ⟨n,tm,hp⟩ ctr:=by
 intro c
 induction c with
 |skip=>
  intro r hr Q tm hp ctr h
  simp only[aP,Option.some.injEq]at hr
  subst hr
  exact Wp.skip ⟨rfl,h⟩
 |ret=>
  intro r hr Q tm hp ctr h
  simp only[aP,Option.some.injEq]at hr
  subst hr
  exact Wp.ret ⟨rfl,h⟩
 |exit id=>
  intro r hr Q tm hp ctr h
  simp only[aP,Option.some.injEq]at hr
  subst hr
  exact Wp.exit ⟨rfl,h⟩
 |seq x y G3 G2=>
  intro r hr Q tm hp ctr h
  simp only[aP]at hr
  split at hr
  · rename_i rx ry hx hy
    simp only[Option.some.injEq]at hr
    subst hr
    simp only[X]at h
    refine Wp.seq ((G3 hx h).mono ?_)
    rintro e st' c' ⟨h1,h2⟩
    subst h1
    cases e with
    |normal=>exact G2 hy h2
    |_=>exact⟨rfl,h2⟩
  · simp at hr
 |cond c x y G3 G2=>
  intro r hr Q tm hp ctr h
  simp only[aP]at hr
  split at hr
  · rename_i rx ry hx hy
    simp only[Option.some.injEq]at hr
    subst hr
    simp only[X]at h
    split at h
    · rename_i b hb
      have hb':((⟨n,tm,hp⟩:St).get c).gk =some b:=by rw[←bh];exact hb
      refine Wp.cond hb' ?_
      rcases jd h with⟨rfl,h⟩|⟨rfl,h⟩
      · exact G3 hx h
      · exact G2 hy h
    · exact h.elim
  · simp at hr
 |block id b ih=>
  intro r hr Q tm hp ctr h
  simp only[aP]at hr
  split at hr
  · rename_i rb hb
    simp only[Option.some.injEq]at hr
    subst hr
    simp only[X]at h
    refine Wp.block ((ih hb h).mono ?_)
    rintro e st' c' ⟨h1,h2⟩
    cases e with
    |exit id'=>
     simp only[yl]at h2
     simp only[rj]
     split
     · rename_i e;rw[if_pos e]at h2;exact⟨h1,h2⟩
     · rename_i e;rw[if_neg e]at h2;exact⟨h1,h2⟩
    |_=>exact⟨h1,h2⟩
  · simp at hr
 |loop b ih=>
  intro r hr Q tm hp ctr h
  simp only[aP]at hr
  split at hr
  · rename_i rb hb
    simp only[Option.some.injEq]at hr
    subst hr
    simp only[X]at h
    obtain⟨I,mP,Ct⟩:=h
    obtain⟨sI,o6,c0,ID,m,hI⟩:=mP.get
    refine Wp.FW (st:=⟨n,tm,hp⟩) ID ?_
    refine Wp.loop (fun m=>nH n (I m)) ?_ m _ _ ⟨rfl,hI⟩
    rintro m st' c' ⟨h1,h2⟩
    obtain⟨n',bf,aF⟩:=st'
    simp only at h1 h2
    subst h1
    refine Wp.post (ih hb (Ct m bf aF c' h2)) ?_
    rintro e st2 c2 ⟨h3,h4⟩
    cases e with
    |normal=>
     obtain⟨tm3,hp3,c3,Xy,m',hm',Ty⟩:=bM.get h4
     exact .inr ⟨tm3,hp3,c3,Xy,m',hm',h3,Ty⟩
    |_=>exact .inl ⟨h3,h4⟩
  · simp at hr
 |region id ops d=>
  intro r hr Q tm hp ctr h
  cases d with
  |true=>
   simp only[aP]at hr
   split at hr
   · rename_i l hl
     split at hr
     · rename_i hc
       simp only[Bool.and_eq_true]at hc
       simp only[Option.some.injEq]at hr
       subst hr
       simp only[X]at h
       intro M A ρ a w cE
       obtain⟨tmT,hpT,v,fs,⟨q0,q1⟩,_,q3,q4,q5⟩:=qg.trace (P:=P) (ops:=ops) (n:=n) (base:=ctr) (k:=0) (fun j=>by simp) hl rfl (by simpa using h)
       simp only[Nat.zero_add]at q1 q5
       have AV:Rel M A ρ (bt ctr) ⟨n,tmT 0,hpT 0⟩ a w:=cE.forget rfl (fun t u hu=>by rw[←q3 t];exact hu) (fun k b hb=>by rw[q4]at hb;exact hb)
       refine vC hc.1 (fun i o ho=>q5 i o (by simpa using ho)) (fun i o ho e he=>?_) q0 AV ?_
       · have:=jc hc.2 i (bc o) (by simp[ho]) e he
         omega
       · rintro a' w' ⟨st',c',A',ρ',⟨rfl,rfl⟩,h2⟩
         exact⟨_,_,A',ρ',⟨rfl,by simpa using q1⟩,h2⟩
     · simp at hr
   · simp at hr
  |false=>
   simp only[aP]at hr
   split at hr
   · rename_i l hl
     simp only[Option.some.injEq]at hr
     subst hr
     simp only[X]at h
     intro M A ρ a w cE
     refine wp_region ?_
     have:=tj.sound (P:=P) (ops:=ops) (k:=0) (l:=ops.toList) (Q:=fun e a' w'=>Post M A ρ w (nH n (Q e)) a' w') (fun j=>by simp) hl h cE (fun _ _ hp=>hp)
     rw[List.range_eq_range']
     simpa using this
   · simp at hr
 |_=>intro r hr;simp[aP]at hr
end Go.aS
end
section
namespace Go.aS
open Go
inductive Pn where
 |e
 |o (p:Pn)
 |i (p:Pn)
 deriving DecidableEq
def GR:Nat→Nat→Pn
 |0,_=> .e
 |f+1,n=>match n with
  |0=> .e
  |m+1=>match m % 2 with
   |0=> .o (GR f (m / 2))
   |_=> .i (GR f (m / 2))
def key (n:Nat):Pn:=GR n n
def Pn.dec:Pn→Nat
 | .e=>0
 | .o p=>2 * p.dec+1
 | .i p=>2 * p.dec+2
theorem pO: ∀ (f n:Nat),n≤f→(GR f n).dec=n
 |0,n,h=>by
  have:n=0:=by omega
  subst this
  rfl
 |f+1,0,_=>rfl
 |f+1,m+1,h=>by
  simp only[GR]
  have ih:=pO f (m / 2) (by omega)
  split
  · rename_i h0
    simp only[Pn.dec,ih]
    omega
  · rename_i h0
    simp only[Pn.dec,ih]
    have:m % 2≠0:=h0
    omega
theorem key_inj {a b:Nat} (h:key a=key b):a=b:=by
 have h1:=pO a a (Nat.le_refl _)
 have h2:=pO b b (Nat.le_refl _)
 unfold key at h
 rw[h,h2]at h1
 exact h1.symm
inductive Tr where
 |nil
 |node (v:Option V) (l r:Tr)
def Tr.get:Tr→Pn→Option V
 | .nil,_=>none
 | .node v l r,p=>match p with
   | .e=>v
   | .o q=>l.get q
   | .i q=>r.get q
def Tr.set:Pn→Tr→V→Tr
 | .e,t,x=>match t with
   | .nil=> .node (some x) .nil .nil
   | .node _ l r=> .node (some x) l r
 | .o p,t,x=>match t with
   | .nil=> .node none (Tr.set p .nil x) .nil
   | .node v l r=> .node v (Tr.set p l x) r
 | .i p,t,x=>match t with
   | .nil=> .node none .nil (Tr.set p .nil x)
   | .node v l r=> .node v l (Tr.set p r x)
def Tr.put {α:Type}:Pn→Tr→V→(Tr→α)→α
 | .e,t,x,k=>match t with
   | .nil=>k (.node (some x) .nil .nil)
   | .node _ l r=>k (.node (some x) l r)
 | .o p,t,x,k=>match t with
   | .nil=>Tr.put p .nil x fun l=>k (.node none l .nil)
   | .node v l r=>Tr.put p l x fun l=>k (.node v l r)
 | .i p,t,x,k=>match t with
   | .nil=>Tr.put p .nil x fun r=>k (.node none .nil r)
   | .node v l r=>Tr.put p r x fun r=>k (.node v l r)
theorem Tr.put_eq {α:Type}: ∀ (p:Pn) (t:Tr) (x:V) (k:Tr→α),Tr.put p t x k=k (Tr.set p t x)
 | .e,t,x,k=>by cases t<;>rfl
 | .o p,t,x,k=>by cases t<;>simp only[Tr.put,Tr.set,Tr.put_eq p]
 | .i p,t,x,k=>by cases t<;>simp only[Tr.put,Tr.set,Tr.put_eq p]
theorem Tr.tD (q:Pn):Tr.nil.get q=none:=by cases q<;>rfl
theorem Tr.zz: ∀ (p:Pn) (t:Tr) (x:V) (q:Pn),(Tr.set p t x).get q=if q=p then some x else t.get q
 | .e,t,x,q=>by cases t<;>cases q<;>simp[Tr.set,Tr.get]
 | .o p,t,x,q=>by cases t<;>cases q<;>simp[Tr.set,Tr.get,Tr.zz p,Tr.tD]
 | .i p,t,x,q=>by cases t<;>cases q<;>simp[Tr.set,Tr.get,Tr.zz p,Tr.tD]
def eD (tr:Tr) (L:TS):Prop:= ∀t,find L t=tr.get (key t)
def j7 {α:Type} (tm:Tr) (dst:Option Nat) (v:V) (k:Tr→α):α:=
 match dst with
 |some d=>Tr.put (key d) tm v k
 |none=>k tm
def uc (tm:Tr) (dst:Option Nat) (v:V):Tr:=
 match dst with
 |some d=>Tr.set (key d) tm v
 |none=>tm
theorem gD {α:Type} (tm:Tr) (dst:Option Nat) (v:V) (k:Tr→α):j7 tm dst v k=k (uc tm dst v):=by
 cases dst<;>simp[j7,uc,Tr.put_eq]
theorem eD.put {tr:Tr} {L:TS} (h:eD tr L) (dst:Option Nat) (v:V):eD (uc tr dst v) (eL L dst v):=by
 intro t
 cases dst with
 |none=>exact h t
 |some d=>
  simp only[uc,eL,Tr.zz,aq]
  by_cases e:d=t
  · subst e;simp
  · have:¬key t=key d:=fun h'=>e (key_inj h').symm
    simp[e,this,h t]
def gT (tm:Tr):dO→V
 | .t n=>(tm.get (key n)).getD .undef
 | .c v=>v
theorem kL {tr:Tr} {L:TS} (h:eD tr L):gT tr=fun x=>x.get L:=by
 funext x
 cases x with
 |t n=>simp only[gT,dO.get,h n]
 |c v=>rfl
def ny {α:Sort _} (n:Nat) (k:Nat→α):α:=
 match n with
 |0=>k 0
 |m+1=>k (Nat.succ m)
theorem dD {α:Sort _} (n:Nat) (k:Nat→α):ny n k=k n:=by cases n<;>rfl
def Fe {α:Sort _} (n:Int) (k:Int→α):α:=
 match n with
 | .ofNat m=>ny m fun m=>k (.ofNat m)
 | .negSucc m=>ny m fun m=>k (.negSucc m)
theorem CC {α:Sort _} (n:Int) (k:Int→α):Fe n k=k n:=by cases n<;>simp[Fe,dD]
def Ff {α:Sort _} (b:Bool) (k:Bool→α):α:=
 match b with
 |true=>k true
 |false=>k false
theorem oZ {α:Sort _} (b:Bool) (k:Bool→α):Ff b k=k b:=by cases b<;>rfl
def fW {α:Type} (b:Bool) (x y:α):α:=
 match b with
 |true=>x
 |false=>y
theorem bp {b:Bool} {x:Bool} (h:fW b x false=true):b=true∧x=true:=by cases b<;>simp_all[fW]
def nth {α:Type}:List α→Nat→Option α
 | [],_=>none
 |x::r,n=>match n with
  |0=>some x
  |m+1=>nth r m
theorem lB {α:Type}: ∀ (l:List α) (n:Nat),nth l n=l[n]?
 | [],n=>by simp[nth]
 |x::r,0=>by simp[nth]
 |x::r,n+1=>by simp[nth,lB r n]
theorem vP {a b:Nat} (h:Nat.blt a b=true):a < b:=Nat.le_of_ble_eq_true h
theorem MU {a b:Nat} (h:a < b):Nat.blt a b=true:=Nat.ble_eq_true_of_le h
theorem D2 (a b:Nat):Nat.blt a b=decide (a < b):=by
 by_cases h:a < b
 · rw[MU h,decide_eq_true h]
 · rw[decide_eq_false h]
   cases h':Nat.blt a b with
   |false=>rfl
   |true=>exact absurd (vP h') h
def mS (k:IntKind) (n:Int):Int:=
 match k with
 | .i64=>match n with
   | .ofNat m=>fW (Nat.blt m 9223372036854775808) (.ofNat m) (IntKind.wrap .i64 (.ofNat m))
   | .negSucc m=>fW (Nat.blt m 9223372036854775808) (.negSucc m) (IntKind.wrap .i64 (.negSucc m))
 | .u64=>match n with
   | .ofNat m=> .ofNat (m % 18446744073709551616)
   | .negSucc m=>IntKind.wrap .u64 (.negSucc m)
 | .u32=>match n with
   | .ofNat m=> .ofNat (m % 4294967296)
   | .negSucc m=>IntKind.wrap .u32 (.negSucc m)
 |k=>k.wrap n
theorem aa {n:Int} (h0: -9223372036854775808≤n) (h1:n < 9223372036854775808):IntKind.i64.wrap n=n:=by
 simp[IntKind.wrap,IntKind.bits,IntKind.signed]
 omega
theorem Ap (k:IntKind) (b:Bool) (n:Int) (h:b=true→k.wrap n=n):fW b n (k.wrap n)=k.wrap n:=by
 cases b with
 |false=>rfl
 |true=>exact(h rfl).symm
theorem mR (k:IntKind) (n:Int):mS k n=k.wrap n:=by
 unfold mS
 split
 · split
   · rename_i m
     refine Ap .i64 _ _ fun h=>aa ?_ ?_
     · have:=vP h;simp only[Int.ofNat_eq_natCast];omega
     · have:=vP h;simp only[Int.ofNat_eq_natCast];omega
   · rename_i m
     refine Ap .i64 _ _ fun h=>aa ?_ ?_
     · have:=vP h;omega
     · have:=vP h;omega
 · split
   · rename_i m
     simp only[IntKind.wrap,IntKind.bits,IntKind.signed,Bool.false_and,Int.ofNat_eq_natCast]
     simp
   · rfl
 · split
   · rename_i m
     simp only[IntKind.wrap,IntKind.bits,IntKind.signed,Bool.false_and,Int.ofNat_eq_natCast]
     simp
   · rfl
 · rfl
def EN (a b:Int):Bool:=
 match a,b with
 | .ofNat x, .ofNat y=>Nat.blt x y
 | .ofNat _, .negSucc _=>false
 | .negSucc _, .ofNat _=>true
 | .negSucc x, .negSucc y=>Nat.blt y x
theorem Cm (a b:Int):EN a b=decide (a < b):=by
 cases a with
 |ofNat x=>
  cases b with
  |ofNat y=>simp only[EN,D2];exact decide_eq_decide.2 (by simp only[Int.ofNat_eq_natCast];omega)
  |negSucc y=>simp only[EN];exact(decide_eq_false (by simp only[Int.ofNat_eq_natCast];omega)).symm
 |negSucc x=>
  cases b with
  |ofNat y=>simp only[EN];exact(decide_eq_true (by simp only[Int.ofNat_eq_natCast];omega)).symm
  |negSucc y=>simp only[EN,D2];exact decide_eq_decide.2 (by omega)
def NR (a b:Int):Bool:=
 match a,b with
 | .ofNat x, .ofNat y=>Nat.beq x y
 | .negSucc x, .negSucc y=>Nat.beq x y
 |_,_=>false
theorem HT (a b:Int):NR a b=(a==b):=by
 rw[Bool.eq_iff_iff,beq_iff_eq]
 cases a<;>cases b<;>simp[NR]
 omega
def Co:IntKind→Nat
 | .i8=>0| .i16=>1| .i32=>2| .i64=>3| .u8=>4| .u16=>5| .u32=>6| .u64=>7
theorem DF {k k':IntKind} (h:Nat.beq (Co k) (Co k')=true):k=k':=by
 cases k<;>cases k'<;>first|rfl|simp[Co]at h
def MA (n:Nat):Int:= .ofNat (2 ^ n)
theorem Jo (n:Nat):MA n=(2:Int) ^ n:=by simp[MA]
def Mp (a:Int) (n:Nat):Int:=
 match a with
 | .ofNat m=> .ofNat (m / 2 ^ n)
 |a=>a.fdiv (2 ^ n)
theorem Je (a:Int) (n:Nat):Mp a n=a.fdiv (2 ^ n):=by
 cases a with
 |ofNat m=>
  simp only[Mp]
  rw[Int.fdiv_eq_ediv_of_nonneg _ (by exact_mod_cast Nat.zero_le _)]
  simp
 |negSucc m=>rfl
def WZ (k:IntKind) (a b:Int):Int:=
 match a,b with
 | .ofNat x, .ofNat y=>fW (Nat.blt x (2 ^ k.bits)&&Nat.blt y (2 ^ k.bits)) (mS k (.ofNat (x|||y))) (k.wrap (BitVec.ofInt k.bits (.ofNat x)|||BitVec.ofInt k.bits (.ofNat y)).toNat)
 |a,b=>k.wrap (BitVec.ofInt k.bits a|||BitVec.ofInt k.bits b).toNat
theorem jP {w x:Nat} (h:x < 2 ^ w):(BitVec.ofInt w (Int.ofNat x)).toNat=x:=by
 rw[BitVec.toNat_ofInt]
 show((x:Int) % ((2 ^ w:Nat):Int)).toNat=x
 rw[←Int.natCast_emod,Int.toNat_natCast,Nat.mod_eq_of_lt h]
theorem MG (k:IntKind) (a b:Int):WZ k a b=k.wrap (BitVec.ofInt k.bits a|||BitVec.ofInt k.bits b).toNat:=by
 cases a<;>cases b<;>simp only[WZ]
 rename_i x y
 cases h:(Nat.blt x (2 ^ k.bits)&&Nat.blt y (2 ^ k.bits))with
 |false=>rfl
 |true=>
  simp only[Bool.and_eq_true,Nat.blt,Nat.ble_eq]at h
  simp only[fW,mR,BitVec.toNat_or]
  rw[jP (by omega),jP (by omega)]
  rfl
def N8 (k:IntKind) (a b:Int):Int:=
 match a,b with
 | .ofNat x, .ofNat y=>fW (Nat.blt x (2 ^ k.bits)&&Nat.blt y (2 ^ k.bits)) (mS k (.ofNat (x&&& y))) (k.wrap (BitVec.ofInt k.bits (.ofNat x)&&& BitVec.ofInt k.bits (.ofNat y)).toNat)
 |a,b=>k.wrap (BitVec.ofInt k.bits a&&& BitVec.ofInt k.bits b).toNat
theorem Kp (k:IntKind) (a b:Int):N8 k a b=k.wrap (BitVec.ofInt k.bits a&&& BitVec.ofInt k.bits b).toNat:=by
 cases a<;>cases b<;>simp only[N8]
 rename_i x y
 cases h:(Nat.blt x (2 ^ k.bits)&&Nat.blt y (2 ^ k.bits))with
 |false=>rfl
 |true=>
  simp only[Bool.and_eq_true,Nat.blt,Nat.ble_eq]at h
  simp only[fW,mR,BitVec.toNat_and]
  rw[jP (by omega),jP (by omega)]
  rfl
end Go.aS
end
section
namespace Go.aS
open Go
def yQ {α:Type} (bad:α) (g:dO→V):List (Nat×dO)→(List (Nat×W)→α)→α
 | [],k=>k []
 |(i,x)::r,k=>match g x with
  | .w u=>yQ bad g r fun l=>k ((i,u)::l)
  |_=>bad
theorem xB {tm:TS}: ∀ {ps:List (Nat×dO)} {k:List (Nat×W)→Bool},yQ false (fun x=>x.get tm) ps k=true→ ∃l,qG tm ps=some l∧k l=true
 | [],k,h=>⟨[],rfl,h⟩
 |(i,x)::r,k,h=>by
  simp only[yQ]at h
  split at h
  · rename_i u hu
    obtain⟨l,h1,h2⟩:=xB h
    exact⟨_,by simp only[qG,hu,h1],h2⟩
  · simp at h
def DP {α:Type} (bad:α) (g:dO→V):List C→List (Nat×Nat×dO)→(List C→α)→α
 |cells,[],k=>k cells
 |cells,(off,size,x)::rest,k=>
  match g x with
  | .w u=>fW (Nat.beq (cellsOf u).length size&&Nat.ble (off+size) cells.length) (gm (aX cells off (cellsOf u)) fun cs=>DP bad g cs rest k) bad
  |_=>bad
theorem Be {tm:TS}: ∀ {ps:List (Nat×Nat×dO)} {cells:List C} {k:List C→Bool},DP false (fun x=>x.get tm) cells ps k=true→ ∃l,vw tm cells ps=some l∧k l=true
 | [],cells,k,h=>⟨cells,rfl,h⟩
 |(off,size,x)::r,cells,k,h=>by
  simp only[DP]at h
  split at h
  · rename_i u hu
    obtain⟨hc,h⟩:=bp h
    rw[cu]at h
    simp only[Bool.and_eq_true,Nat.beq_eq,Nat.ble_eq]at hc
    obtain⟨l,h1,h2⟩:=Be h
    exact⟨l,by simp only[vw,hu,if_pos hc,h1],h2⟩
  · simp at h
def DZ {α:Type} (bad:α) (g:dO→V):List dO→(List (Nat×Nat×Nat×Nat)→α)→α
 | [],k=>k []
 |x::r,k=>match g x with
  | .w (.one (.ptr id sz i j))=>DZ bad g r fun l=>k ((id,sz,i,j)::l)
  |_=>bad
theorem BD {tm:TS}: ∀ {ps:List dO} {k:List (Nat×Nat×Nat×Nat)→Bool},DZ false (fun x=>x.get tm) ps k=true→ ∃l,xZ tm ps=some l∧k l=true
 | [],k,h=>⟨[],rfl,h⟩
 |x::r,k,h=>by
  simp only[DZ]at h
  split at h
  · rename_i id sz i j hu
    obtain⟨l,h1,h2⟩:=BD h
    exact⟨_,by simp only[xZ,hu,h1],h2⟩
  · simp at h
def Mc {α:Type} (bad:α) (g:dO→V):List dO→(List W→α)→α
 | [],k=>k []
 |x::r,k=>match g x with
  | .w u=>Mc bad g r fun l=>k (u::l)
  |_=>bad
theorem tL {tm:TS}: ∀ {ps:List dO} {k:List W→Bool},Mc false (fun x=>x.get tm) ps k=true→ ∃l,De tm ps=some l∧k l=true
 | [],k,h=>⟨[],rfl,h⟩
 |x::r,k,h=>by
  simp only[Mc]at h
  split at h
  · rename_i u hu
    obtain⟨l,h1,h2⟩:=tL h
    exact⟨_,by simp only[De,hu,h1],h2⟩
  · simp at h
def Ay {α:Type} (bad:α) (n:Option Nat) (cs:List C) (j:Nat) (K:V→α):α:=
 match n with
 |some n=>fW (Nat.ble (j+n) cs.length) (gm ((cs.drop j).take n) fun l=>K (.w (.agg l))) bad
 |none=>match nth cs j with
  |some c=>wL c fun c=>K (.w (.one c))
  |none=>bad
theorem pF {n:Option Nat} {cs:List C} {j:Nat} {K:V→Bool} (h:Ay false n cs j K=true):rK n cs j fun v=>K v=true:=by
 unfold Ay at h
 unfold rK
 split at h
 · obtain⟨hc,h⟩:=bp h
   simp only[Nat.ble_eq]at hc
   simp only[if_pos hc,cu]at h⊢
   exact h
 · split at h
   · rename_i c hc
     rw[lB]at hc
     simp only[hc,jV]at h⊢
     exact h
   · simp at h
def zK {α:Type} (bad:α) (hp:HS) (c:C) (k:List C→Nat→α):α:=
 match c with
 | .ptr id sz i j=>match find hp id with
   |some (.row sz' xs)=>match nth xs i with
    |some e=>fW (Nat.beq sz' sz) (k e j) bad
    |none=>bad
   |_=>bad
 | .rG e j=>k (e.map .t) j
 |_=>bad
theorem xX {hp:HS} {c:C} {k:List C→Nat→Bool} (h:zK false hp c k=true): ∃cs j,deref hp c=some (cs,j)∧k cs j=true:=by
 unfold zK at h
 split at h
 · split at h
   · rename_i hf
     split at h
     · rename_i e he
       obtain⟨hc,h⟩:=bp h
       rw[lB]at he
       simp only[Nat.beq_eq]at hc
       exact⟨_,_,by simp[deref,hf,hc,he],h⟩
     · simp at h
   · simp at h
 · exact⟨_,_,rfl,h⟩
 · simp at h
def Sx {α:Type} (bad:α) (c:C) (k:Nat→α):α:=
 match c.uO with
 |some n=>ny n k
 |none=>bad
def N5 {α:Type} (bad:α) (op:BinOp) (k:IntKind) (a b:Int) (K:V→α):α:=
 match op with
 | .add=>Fe (mS k (a+b)) fun n=>K (iV k n)
 | .sub=>Fe (mS k (a - b)) fun n=>K (iV k n)
 | .mul=>Fe (mS k (a * b)) fun n=>K (iV k n)
 | .eql=>Ff (NR a b) fun c=>K (bV c)
 | .neq=>Ff (!(NR a b)) fun c=>K (bV c)
 | .lss=>Ff (EN a b) fun c=>K (bV c)
 | .leq=>Ff (!(EN b a)) fun c=>K (bV c)
 | .gtr=>Ff (EN b a) fun c=>K (bV c)
 | .geq=>Ff (!(EN a b)) fun c=>K (bV c)
 | .quo=>fW (!(NR b 0)) (Fe (mS k (a.tdiv b)) fun n=>K (iV k n)) bad
 | .rem=>fW (!(NR b 0)) (Fe (a.tmod b) fun n=>K (iV k n)) bad
 | .shl=>fW (!(EN b 0)) (Fe (mS k (a * MA (min b.toNat k.bits))) fun n=>K (iV k n)) bad
 | .shr=>fW (!(EN b 0)) (Fe (Mp a (min b.toNat k.bits)) fun n=>K (iV k n)) bad
 | .and=>Fe (N8 k a b) fun n=>K (iV k n)
 | .or=>Fe (WZ k a b) fun n=>K (iV k n)
 |_=>bad
def ER {α:Type} (bad:α) (r:Ro) (g:dO→V) (hp:HS) (nid:Nat) (K:V→HS→α):α:=
 match r with
 | .Sk x=>rY (g x) fun v=>K v hp
 | .pick c x y=>match(g c).gk with
   |some b=>fW b (rY (g x) fun v=>K v hp) (rY (g y) fun v=>K v hp)
   |none=>bad
 | .alloc z=>K (.w (.one (.ptr nid z.length 0 0))) ((nid, .row z.length [z])::hp)
 | .box x=>match g x with
   | .w u=>gm (cellsOf u) fun cs=>K (.w (.one (.ptr nid cs.length 0 0))) ((nid, .row cs.length [cs])::hp)
   |_=>bad
 | .build z ps=>DP bad g z ps fun cs=>K (.w (.agg cs)) hp
 | .vN z len ps=>yQ bad g ps fun l=>match oc z.length (List.replicate len z) l with
    |some xs=>gm xs fun xs=>K (.w (.one (.own nid z.length 0 len))) ((nid, .row z.length xs)::hp)
    |none=>bad
 | .load n x=>match g x with
   | .w (.one c)=>zK bad hp c fun cs j=>Ay bad n cs j fun v=>K v hp
   |_=>bad
 | .store n x y=>match g x,g y with
   | .w (.one (.ptr id sz i j)), .w u=>match find hp id with
     |some (.row sz' xs)=>match nth xs i with
      |some el=>fW (Nat.beq sz' sz&&Nat.beq (cellsOf u).length n&&Nat.ble (j+n) el.length)
        (gm (aX el j (cellsOf u)) fun BX=>gm (xs.set i BX) fun xs'=>gm (jJ hp id (.row sz xs')) fun h=>K .undef h) bad
      |none=>bad
     |_=>bad
   |_,_=>bad
 | .Bh off x=>match g x with
   | .w (.one (.ptr id sz i j))=>ny (j+off) fun q=>K (.w (.one (.ptr id sz i q))) hp
   | .w (.one (.rG e j))=>ny (j+off) fun q=>K (.w (.one (.rG e q))) hp
   |_=>bad
 | .field off n x=>match g x with
   | .w (.agg cs)=>Ay bad n cs off fun v=>K v hp
   |_=>bad
 | .AS size x i=>match g x,(g i).fm with
   | .w (.one (.own id sz i0 len)),some (_, .ofNat n)=>fW (Nat.beq sz size&&Nat.blt n len) (ny (i0+n) fun q=>K (.w (.one (.ptr id sz q 0))) hp) bad
   | .w (.one (.t (.av sz xs))),some (_, .ofNat n)=>match nth xs n with
     |some e=>fW (Nat.beq sz size) (K (.w (.one (.rG e 0))) hp) bad
     |none=>bad
   |_,_=>bad
 | .uT len size x i=>match g x,(g i).fm with
   | .w (.one c),some (_, .ofNat n)=>match c.shift (n * size)with
     |some d=>fW (Nat.blt n len) (K (.w (.one d)) hp) bad
     |none=>bad
   |_,_=>bad
 | .slice size x lo hi=>match g x with
   | .w (.one c)=>match c.uO,c.Ml with
     |some len,some sz=>match fA (lo.map g) 0,fA (hi.map g) len with
       |some l,some h=>fW (Nat.beq sz size&&Nat.ble l h&&Nat.ble h len) (match wT c l h with
        |some d=>wL d fun d=>K (.w (.one d)) hp
        |none=>bad) bad
       |_,_=>bad
     |_,_=>bad
   |_=>bad
 | .make z bytes l c=>match(g l).fm,(g c).fm with
   |some (_, .ofNat l),some (_, .ofNat c)=>fW (Nat.ble l c&&Nat.ble c 4611686018427387904&&Nat.ble (c * bytes) 281474976710656)
     (gm (List.replicate l z) fun xs=>K (.w (.one (.own nid z.length 0 l))) ((nid, .row z.length xs)::hp)) bad
   |_,_=>bad
 | .extract x k=>match g x with
   | .dQ ws=>match nth ws k with
     |some u=>rY (.w u) fun v=>K v hp
     |none=>bad
   |_=>bad
 | .jY f cZ=>DZ bad g cZ fun l=>K (.w (.one (.jY f l))) hp
 | .len x=>match g x with
   | .w (.one c)=>Sx bad c fun n=>K (iV .i64 (.ofNat n)) hp
   |_=>bad
 | .append size bytes s x=>match g s,g x with
   | .w (.one s), .w (.one x)=>match q9 hp x with
     |some (_,[])=>match s.uO with
      |some _=>wL s fun s=>K (.w (.one s)) hp
      |none=>bad
     |some (sz,y::ys)=>match s with
      | .own id sz' 0 len=>match find hp id with
        |some (.row cV xs)=>
         fW (Nat.beq sz size&&Nat.beq sz' size&&Nat.beq cV size&&Nat.beq len xs.length&&Nat.ble ((len+(ys.length+1)) * bytes) aU&&Nat.ble (len+(ys.length+1)) maxLen)
          (gm (del hp id) fun hp=>gm (xs++y::ys) fun zs=>ny (len+(ys.length+1)) fun q=>K (.w (.one (.own nid size 0 q))) ((nid, .row size zs)::hp)) bad
        |_=>bad
      | .t (.val (.slice none 0 0))=>fW (Nat.beq sz size&&Nat.ble ((ys.length+1) * bytes) aU&&Nat.ble (ys.length+1) maxLen)
         (gm (y::ys) fun zs=>ny (ys.length+1) fun q=>K (.w (.one (.own nid size 0 q))) ((nid, .row size zs)::hp)) bad
      |_=>bad
     |none=>bad
   |_,_=>bad
 | .bin op x y=>match g x,g y with
   | .w (.one (.t (.val (.int k a)))), .w (.one (.t (.val (.int k' b))))=>fW (Nat.beq (Co k) (Co k')) (N5 bad op k a b fun v=>K v hp) bad
   | .w (.one (.t (.val (.string a)))), .w (.one (.t (.val (.string b))))=>match op with
     | .add=>fW (Nat.ble (a.data.toList.length+b.data.toList.length) 9223372036854775807) (gm (a.data.toList++b.data.toList) fun l=>K (.w (.one (.t (.val (.string ⟨⟨l⟩⟩))))) hp) bad
     | .eql=>Ff (a.data.toList==b.data.toList) fun c=>K (bV c) hp
     | .neq=>Ff (!(a.data.toList==b.data.toList)) fun c=>K (bV c) hp
     |_=>bad
   |_,_=>bad
 | .Ic op x y=>match(g x).gk,(g y).gk with
   |some a,some b=>match op with
    | .eql=>Ff (a==b) fun c=>K (bV c) hp
    | .neq=>Ff (!(a==b)) fun c=>K (bV c) hp
    |_=>bad
   |_,_=>bad
 | .NS neg ks x y=>match g x,g y with
   | .w (.agg cs), .w (.agg ds)=>match pW ks cs ds with
     |some b=>Ff b fun b=>match neg with
      |true=>K (bV (!b)) hp
      |false=>K (bV b) hp
     |none=>bad
   |_,_=>bad
 | .En x y=>match(g x).fm,(g y).fm with
   |some (k,a),some (_,b)=>K (iV k (fW (EN b a) b a)) hp
   |_,_=>bad
 | .Eo x y=>match(g x).fm,(g y).fm with
   |some (k,a),some (_,b)=>K (iV k (fW (EN a b) b a)) hp
   |_,_=>bad
 | .Ep x=>match g x with
   | .w (.one (.t (.val (.string s))))=>ny s.data.toList.length fun n=>K (iV .i64 (.ofNat n)) hp
   |_=>bad
 | .Gb x i=>match g x,(g i).fm with
   | .w (.one (.t (.val (.string s)))),some (_, .ofNat n)=>match nth s.data.toList n with
     |some b=>ny b.toNat fun q=>K (iV .u8 (.ofNat q)) hp
     |none=>bad
   |_,_=>bad
 | .not x=>match(g x).gk with
   |some b=>Ff (!b) fun c=>K (bV c) hp
   |none=>bad
 | .neg x=>match(g x).fm with
   |some (k,n)=>Fe (mS k (0 - n)) fun n=>K (iV k n) hp
   |none=>bad
 | .conv k x=>match(g x).fm with
   |some (_,n)=>Fe (mS k n) fun n=>K (iV k n) hp
   |none=>bad
 |_=>bad
set_option maxHeartbeats 1000000
theorem Ko {op:BinOp} {x y:dO} {k:IntKind} {a b:Int} {tm:TS} {hp:HS} {nid:Nat} {K:V→HS→Bool} (hx:x.get tm=iV k a) (hy:y.get tm=iV k b)
 (h:N5 false op k a b (fun v=>K v hp)=true):XR (.bin op x y) tm hp nid fun v aF=>K v aF=true:=by
 simp only[XR,hx,hy,if_true]
 cases op<;>simp only[N5,CC,oZ,mR,HT,Cm,Jo,Je,Kp,MG]at h
 case add=>exact h
 case sub=>exact h
 case mul=>exact h
 case eql=>exact h
 case neq=>exact h
 case lss=>exact h
 case leq=>
  have e:(!decide (b < a))=decide (a≤b):=by rw[Bool.eq_iff_iff];simp
  rw[e]at h
  exact h
 case gtr=>exact h
 case geq=>
  have e:(!decide (a < b))=decide (a≥b):=by rw[Bool.eq_iff_iff];simp
  rw[e]at h
  exact h
 case quo=>
  obtain⟨h1,h2⟩:=bp h
  exact⟨by simpa using h1,h2⟩
 case rem=>
  obtain⟨h1,h2⟩:=bp h
  exact⟨by simpa using h1,h2⟩
 case shl=>
  obtain⟨h1,h2⟩:=bp h
  exact⟨by simpa using h1,h2⟩
 case shr=>
  obtain⟨h1,h2⟩:=bp h
  exact⟨by simpa using h1,h2⟩
 case and=>exact h
 case or=>exact h
 all_goals simp at h
theorem N6 (s:ByteArray) (n:Nat):s.data.toList[n]? =s[n]? :=by
 by_cases h:n < s.size
 · have h2:n < s.data.size:=h
   rw[getElem?_pos s n h]
   simp only[Array.getElem?_toList]
   rw[getElem?_pos s.data n h2]
   rfl
 · have h2:¬n < s.data.size:=h
   rw[getElem?_neg s n h]
   simp only[Array.getElem?_toList]
   rw[getElem?_neg s.data n h2]
theorem Uq {r:Ro} {tm:TS} {hp:HS} {nid:Nat} {K:V→HS→Bool} (h:ER false r (fun x=>x.get tm) hp nid K=true):XR r tm hp nid fun v aF=>K v aF=true:=by
 cases r with
 |Sk x=>simpa only[ER,XR,dN]using h
 |pick c x y=>
  simp only[ER,XR,dN]at h⊢
  split at h
  · rename_i b hb
    simp only[hb]
    cases b
    · exact h
    · exact h
  · simp at h
 |alloc z=>exact h
 |box x=>
  simp only[ER,XR,cu]at h⊢
  split at h
  · rename_i u hu;simp only[hu];exact h
  · simp at h
 |build z ps=>
  simp only[ER,XR,cu]at h⊢
  obtain⟨l,h1,h2⟩:=Be h
  simp only[h1]
  exact h2
 |vN z len ps=>
  simp only[ER,XR,cu]at h⊢
  obtain⟨l,h1,h2⟩:=xB h
  simp only[h1]
  split at h2
  · rename_i xs hxs;simp only[hxs];exact h2
  · simp at h2
 |load n x=>
  simp only[ER,XR]at h⊢
  split at h
  · rename_i c hc
    simp only[hc]
    obtain⟨cs,j,h1,h2⟩:=xX h
    cases c with
    |ptr id sz i j'=>
     simp only[deref]at h1
     split at h1
     · rename_i sz' xs hf
       simp only[hf]
       split at h1
       · rename_i hs
         rw[if_pos hs]
         simp only[Option.map_eq_some_iff,Prod.mk.injEq]at h1
         obtain⟨e,he,rfl,rfl⟩:=h1
         simp only[sK,he]
         exact pF h2
       · simp at h1
     · simp at h1
    |_=>simp only[h1];exact pF h2
  · simp at h
 |store n x y=>
  simp only[ER,XR,cu]at h⊢
  split at h
  · rename_i id sz i j u hx hy
    simp only[hx,hy]
    split at h
    · rename_i sz' xs hf
      simp only[hf]
      split at h
      · rename_i el hel
        rw[lB]at hel
        simp only[sK,hel]
        obtain⟨hc,h⟩:=bp h
        simp only[Bool.and_eq_true,Nat.beq_eq,Nat.ble_eq]at hc
        rw[if_pos ⟨hc.1.1,hc.1.2,hc.2⟩]
        exact h
      · simp at h
    · simp at h
  · simp at h
 |Bh off x=>
  simp only[ER,XR,dD]at h⊢
  split at h
  · rename_i hx;simp only[hx];exact h
  · rename_i hx;simp only[hx];exact h
  · simp at h
 |field off n x=>
  simp only[ER,XR]at h⊢
  split at h
  · rename_i hx;simp only[hx];exact pF h
  · simp at h
 |AS size x i=>
  simp only[ER,XR,dD]at h⊢
  split at h
  · rename_i id sz i0 len q n hx hi
    simp only[hx,hi]
    obtain⟨hc,h⟩:=bp h
    simp only[Bool.and_eq_true,Nat.beq_eq,Nat.blt,Nat.ble_eq]at hc
    rw[if_pos hc.1]
    refine⟨⟨Int.natCast_nonneg n,?_⟩,h⟩
    show(n:Int) < (len:Int)
    omega
  · rename_i sz xs q n hx hi
    simp only[hx,hi]
    split at h
    · rename_i e he
      rw[lB]at he
      obtain⟨hc,h⟩:=bp h
      simp only[Nat.beq_eq]at hc
      rw[if_pos hc]
      exact⟨Int.natCast_nonneg n,e,he,h⟩
    · simp at h
  · simp at h
 |uT len size x i=>
  simp only[ER,XR]at h⊢
  split at h
  · rename_i c q n hx hi
    simp only[hx,hi]
    split at h
    · rename_i d hd
      obtain⟨hc,h⟩:=bp h
      have e:(Int.ofNat n).toNat=n:=rfl
      simp only[e,hd]
      simp only[Nat.blt,Nat.ble_eq]at hc
      refine⟨⟨Int.natCast_nonneg n,?_⟩,h⟩
      show(n:Int) < (len:Int)
      omega
    · simp at h
  · simp at h
 |slice size x lo hi=>
  simp only[ER,XR,jV]at h⊢
  split at h
  · rename_i c hc
    simp only[hc]
    split at h
    · rename_i len sz hl hs
      simp only[hl,hs]
      split at h
      · rename_i l hh h1 h2
        obtain⟨hc,h⟩:=bp h
        simp only[Bool.and_eq_true,Nat.beq_eq,Nat.ble_eq]at hc
        rw[if_pos hc.1.1]
        refine D1 h1 (D1 h2 ⟨⟨hc.1.2,hc.2⟩,?_⟩)
        split at h
        · rename_i d hd;simp only[rf,hd];exact h
        · simp at h
      · simp at h
    · simp at h
  · simp at h
 |make z bytes l c=>
  simp only[ER,XR,cu]at h⊢
  split at h
  · rename_i q l' q' c' hl hc
    simp only[hl,hc]
    obtain⟨hh,h⟩:=bp h
    obtain⟨Yp,hh3⟩:=Bool.and_eq_true _ _▸hh
    obtain⟨No,Th⟩:=Bool.and_eq_true _ _▸Yp
    have g1:=Nat.le_of_ble_eq_true No
    have g2:=Nat.le_of_ble_eq_true Th
    have g3:=Nat.le_of_ble_eq_true hh3
    refine⟨⟨Int.natCast_nonneg l',Int.ofNat_le.2 g1,?_,?_⟩,h⟩
    · show(c':Int)≤_
      omega
    · show(c':Int) * (bytes:Int)≤_
      rw[←Int.natCast_mul]
      generalize c' * bytes=q at g3
      omega
  · simp at h
 |extract x k=>
  simp only[ER,XR,dN]at h⊢
  split at h
  · rename_i ws hx
    simp only[hx]
    split at h
    · rename_i u hu
      rw[lB]at hu
      simp only[hu]
      exact h
    · simp at h
  · simp at h
 |jY f cZ=>
  simp only[ER,XR]at h⊢
  obtain⟨l,h1,h2⟩:=BD h
  simp only[h1]
  exact h2
 |len x=>
  simp only[ER,XR,Sx,dD]at h⊢
  split at h
  · rename_i c hc
    simp only[hc]
    split at h
    · rename_i n hn;simp only[hn];exact h
    · simp at h
  · simp at h
 |append size bytes s x=>
  simp only[ER,XR,cu,dD,jV]at h⊢
  split at h
  · rename_i s' x' hs hx
    simp only[hs,hx]
    split at h
    · rename_i sz he
      simp only[he]
      split at h
      · rename_i ln US;simp only[US];exact h
      · simp at h
    · rename_i sz y ys he
      simp only[he]
      split at h
      · rename_i id sz' len
        split at h
        · rename_i cV xs hf
          simp only[hf]
          obtain⟨hc,h⟩:=bp h
          simp only[Bool.and_eq_true,Nat.beq_eq,Nat.ble_eq]at hc
          obtain⟨⟨⟨⟨⟨h1,h2⟩,h3⟩,h4⟩,h5⟩,h6⟩:=hc
          subst h4
          rw[if_pos ⟨h1,h2,h3⟩]
          exact⟨⟨rfl,h5,h6⟩,h⟩
        · simp at h
      · obtain⟨hc,h⟩:=bp h
        simp only[Bool.and_eq_true,Nat.beq_eq,Nat.ble_eq]at hc
        obtain⟨⟨h1,h2⟩,h3⟩:=hc
        rw[if_pos h1]
        exact⟨⟨h2,h3⟩,h⟩
      · simp at h
    · simp at h
  · simp at h
 |bin op x y=>
  simp only[ER]at h
  split at h
  · rename_i k a k' b hx hy
    obtain⟨hc,h'⟩:=bp h
    have:=DF hc
    subst this
    exact Ko hx hy h'
  · rename_i a b hx hy
    simp only[XR,hx,hy]
    split at h
    · obtain⟨h1,h2⟩:=bp h
      rw[cu]at h2
      have e:(⟨⟨a.data.toList++b.data.toList⟩⟩:ByteArray)=a++b:=by
       apply ByteArray.ext
       rw[ByteArray.data_append]
       apply Array.ext'
       simp
      rw[e]at h2
      exact⟨by have h3:=Nat.le_of_ble_eq_true h1;rw[Array.length_toList,Array.length_toList]at h3;exact h3,h2⟩
    · simpa only[oZ,ByteArray.toList_eq]using h
    · simpa only[oZ,ByteArray.toList_eq]using h
    · simp at h
  · simp at h
 |Ia x=>simp[ER]at h
 |NS neg ks x y=>
  simp only[ER,XR]at h⊢
  split at h
  · rename_i cs ds hx hy
    simp only[hx,hy]
    split at h
    · rename_i b hb
      simp only[hb]
      rw[oZ]at h
      cases neg<;>exact h
    · simp at h
  · simp at h
 |Ic op x y=>
  simp only[ER,XR]at h⊢
  split at h
  · rename_i a b hx hy
    simp only[hx,hy]
    split at h
    · simpa only[oZ]using h
    · simpa only[oZ]using h
    · simp at h
  · simp at h
 |En x y=>
  simp only[ER,XR,Cm]at h⊢
  split at h
  · rename_i k a k' b hx hy
    simp only[hx,hy]
    have e:fW (decide (b < a)) b a=if b < a then b else a:=by by_cases hb:b < a<;>simp[fW,hb]
    rw[e]at h
    exact h
  · simp at h
 |Eo x y=>
  simp only[ER,XR,Cm]at h⊢
  split at h
  · rename_i k a k' b hx hy
    simp only[hx,hy]
    have e:fW (decide (a < b)) b a=if b > a then b else a:=by by_cases hb:a < b<;>simp[fW,hb]
    rw[e]at h
    exact h
  · simp at h
 |Ep x=>
  simp only[ER,XR,dD]at h⊢
  split at h
  · rename_i s hx;simp only[hx];exact h
  · simp at h
 |Gb x i=>
  simp only[ER,XR,dD]at h⊢
  split at h
  · rename_i s q n hx hi
    simp only[hx,hi]
    split at h
    · rename_i b hb
      rw[lB]at hb
      refine⟨Int.natCast_nonneg n,b,?_,h⟩
      have e:(Int.ofNat n).toNat=n:=rfl
      rw[e, ←N6]
      exact hb
    · simp at h
  · simp at h
 |not x=>
  simp only[ER,XR,oZ]at h⊢
  split at h
  · rename_i b hb;simp only[hb];exact h
  · simp at h
 |neg x=>
  simp only[ER,XR,CC,mR]at h⊢
  split at h
  · rename_i k n hx;simp only[hx];exact h
  · simp at h
 |conv k x=>
  simp only[ER,XR,CC,mR]at h⊢
  split at h
  · rename_i q n hx;simp only[hx];exact h
  · simp at h
 |call f xs=>simp[ER]at h
 |jZ x xs=>simp[ER]at h
 |raw op ty=>simp[ER]at h
end Go.aS
end
section
namespace Go.aS
open Go
variable {P:Program} {M A:Nat→Prop} {ρ:Env} {F:Nat→Prop} {st:St} {a:Act} {w:World}
abbrev bare (op:Op) (ty:TypeId):Oper:=⟨none,op,ty, "", #[],none⟩
theorem sk (ev:Operand→Value) (o:Oper):execOp ev (bare o.op o.type)=execOp ev o:=by cases o;rfl
theorem wQ (get:Operand→V) (o:Oper):bg P get (bare o.op o.type)=bg P get o:=by cases o;rfl
theorem sr (get:Operand→V) (hp:HS) (nid:Nat) (o:Oper):ai P get hp nid (bare o.op o.type)=ai P get hp nid o:=by cases o;rfl
theorem yD {w:World} {b:Nat} {en en':Array MapEntry} {c c':Nat} (hb:w.heap[b]? =some (.map en c)) (k:Nat):({w with heap:=w.heap.setIfInBounds b (.map en' c')}:World).shape? k=w.shape? k:=by
 simp only[World.shape?]
 by_cases hk:b=k
 · subst hk
   have hlt:b < w.heap.size:=by
    rcases Nat.lt_or_ge b w.heap.size with h|h
    · exact h
    · simp[Array.getElem?_eq_none h]at hb
   have e:(w.heap.setIfInBounds b (.map en' c'))[b]? =some (.map en' c'):=by simp[hlt]
   rw[e,hb]
 · rw[Array.getElem?_setIfInBounds_ne hk]
theorem Rel.tZ (h:Rel M A ρ F st a w) {id clock clock':Nat} {es es':List (Value×C×Nat)} {b:Nat} {en en':Array MapEntry}
 (hf:find st.heap id=some (.mp es clock)) (hρ:ρ id=some (.fz b)) (hb:w.heap[b]? =some (.map en clock)) (hs:en'.size=es'.length)
 (hc: ∀ (i:Nat) (k:Value) (c:C) (n:Nat),es'[i]? =some (k,c,n)→ ∃e,en'[i]? =some e∧e.key=k∧e.born=n∧RC w A ρ c e.val∧yj c e.val):
 Rel M A ρ F {st with heap:=jJ st.heap id (.mp es' clock')} a {w with heap:=w.heap.setIfInBounds b (.map en' clock')}∧df M w {w with heap:=w.heap.setIfInBounds b (.map en' clock')}:=by
 obtain⟨hlt,hM,hA⟩:=(h.heap id _ hf).lt hρ
 have Nh: ∀k,k≠b→(w.heap.setIfInBounds b (.map en' clock'))[k]? =w.heap[k]? :=fun k hk=>Array.getElem?_setIfInBounds_ne (fun e=>hk e.symm)
 have hk:dZ A A w {w with heap:=w.heap.setIfInBounds b (.map en' clock')}:=⟨by simp,fun k _ hn=>⟨Nh k (fun e=>hn (e▸hA)),hn⟩⟩
 have hsh: ∀k,k < w.heap.size→({w with heap:=w.heap.setIfInBounds b (.map en' clock')}:World).shape? k=w.shape? k:=fun k _=>yD hb k
 have dJ:df M w {w with heap:=w.heap.setIfInBounds b (.map en' clock')}:=⟨rfl,rfl,rfl,by simp,fun k _ ho=>Nh k (fun e=>ho (e▸hM)),hsh⟩
 refine⟨⟨h.size,h.defers,fun t v hv=>(h.tmps t v hv).keeps hk hsh (cU.refl _),?_,?_,h.fresh,?_,?_,h.dX.Fk dJ (fun _ _ h=>h)⟩,dJ⟩
 · intro k blk AZ
   simp only[bQ]at AZ
   split at AZ
   · rename_i ek
     subst ek
     simp only[hf,Option.map_some,Option.some.injEq]at AZ
     subst AZ
     refine⟨b,en',hρ,hM,hA,by simp[hlt],hs,fun i k c n hi=>?_⟩
     obtain⟨e,h1,h2,h3,h4,h5⟩:=hc i k c n hi
     exact⟨e,h1,h2,h3,h4.keeps hk hsh (cU.refl _),h5⟩
   · rename_i ek
     refine(h.heap k blk AZ).keeps hk hsh (cU.refl _) (fun _ h=>h) (fun b' hb'=>Nh b' (fun e=>ek ?_))
     subst e
     exact h.inj k id blk _ b' AZ hf hb' hρ
 · intro k k' blk fp b' h1 h2 r1 r2
   have g: ∀q bl,find (jJ st.heap id (.mp es' clock')) q=some bl→ ∃z8,find st.heap q=some z8:=by
    intro q bl hq
    simp only[bQ]at hq
    split at hq
    · rename_i e;subst e;exact⟨_,hf⟩
    · exact⟨_,hq⟩
   obtain⟨TU,g1⟩:=g k blk h1
   obtain⟨O5,g2⟩:=g k' fp h2
   exact h.inj k k' TU O5 b' g1 g2 r1 r2
 · intro q hq;simpa using h.bound q hq
 · intro q hq;exact h.may q (by simpa using hq)
theorem Rel.GH (h:Rel M A ρ F st a w) {nid:Nat} (hn:F nid):
 Rel M (fun b=>A b∨b=w.heap.size) (dg ρ nid (.fz w.heap.size)) (Sub F nid) {st with heap:=(nid, .mp [] 0)::st.heap} a (w.alloc (.map #[] 0))∧cU ρ (dg ρ nid (.fz w.heap.size)):=by
 have hρ:=h.fresh nid hn
 have cF:cU ρ (dg ρ nid (.fz w.heap.size)):=cU.jJ hρ
 have hk:=rQ (A:=A) (w:=w) (.map #[] 0)
 have hs:=mA (w:=w) (.map #[] 0)
 have hnew:(w.alloc (.map #[] 0)).heap[w.heap.size]? =some (.map #[] 0):=heap_alloc_new w _
 refine⟨⟨h.size,h.defers,fun t v hv=>(h.tmps t v hv).keeps hk hs cF,?_,?_,?_,?_,?_,h.dX.Fk (df.alloc _ _ _) (fun b hb h=>h.elim id (fun e=>by omega))⟩,cF⟩
 · intro id blk hf
   simp only[aq]at hf
   split at hf
   · rename_i e'
     subst e'
     simp only[Option.some.injEq]at hf
     subst hf
     exact⟨w.heap.size, #[],by simp[dg],h.may _ (Nat.le_refl _), .inr rfl,hnew,rfl,fun i k c n hi=>by simp at hi⟩
   · have hb:=h.heap id blk hf
     exact hb.keeps hk hs cF (fun b hb=> .inl hb) (fun b BU=>RowKit.Below.heap_alloc w _ b (hb.lt BU).1)
 · intro id id' blk fp b hf me hr dr
   simp only[aq]at hf me
   simp only[dg]at hr dr
   by_cases e1:nid=id<;>by_cases e2:nid=id'
   · omega
   · simp only[e2,if_false]at me
     have:¬id'=nid:=fun e=>e2 e.symm
     simp only[this,if_false]at dr
     simp only[e1.symm,if_true,Option.some.injEq,Loc.fz.injEq]at hr
     have:=((h.heap id' fp me).lt dr).1
     omega
   · simp only[e1,if_false]at hf
     have:¬id=nid:=fun e=>e1 e.symm
     simp only[this,if_false]at hr
     simp only[e2.symm,if_true,Option.some.injEq,Loc.fz.injEq]at dr
     have:=((h.heap id blk hf).lt hr).1
     omega
   · simp only[e1,e2,if_false]at hf me
     have n1:¬id=nid:=fun e=>e1 e.symm
     have n2:¬id'=nid:=fun e=>e2 e.symm
     simp only[n1,n2,if_false]at hr dr
     exact h.inj id id' blk fp b hf me hr dr
 · intro id hi
   have:¬id=nid:=fun e=>hi.2 ⟨by omega,by omega⟩
   simp only[dg,this,if_false]
   exact h.fresh id hi.1
 · intro b hb
   simp only[World.alloc,Array.size_push]
   rcases hb with hb|hb
   · have:=h.bound b hb;omega
   · omega
 · intro b hb
   refine h.may b ?_
   simp only[World.alloc,Array.size_push]at hb
   omega
theorem Rel.Jv (h:Rel M A ρ F st a w) (o:Obj):Rel M A ρ F st a (w.alloc o)∧df M w (w.alloc o):=by
 have hk:dZ A A w (w.alloc o):=⟨by simp,fun b hlt hn=>⟨RowKit.Below.heap_alloc w o b hlt,hn⟩⟩
 have hs:=mA (w:=w) o
 refine⟨⟨h.size,h.defers,fun t v hv=>(h.tmps t v hv).keeps hk hs (cU.refl _),fun id blk hf=>?_,h.inj,h.fresh,fun b hb=>?_,fun b hb=>?_,h.dX.Fk (df.alloc _ _ _) (fun _ _ h=>h)⟩,df.alloc M w o⟩
 · have hb:=h.heap id blk hf
   exact hb.keeps hk hs (cU.refl _) (fun _ h=>h) (fun b BU=>RowKit.Below.heap_alloc w _ b (hb.lt BU).1)
 · have:=h.bound b hb
   simp only[World.alloc,Array.size_push];omega
 · simp only[World.alloc,Array.size_push]at hb
   exact h.may b (by omega)
theorem Rel.Rx (h:Rel M A ρ F st a w) {id sz:Nat} {xs:List (List C)} (hf:find st.heap id=some (.row sz xs)) (n:Nat):Rel M A ρ F {st with heap:=jJ st.heap id (.row sz (xs.take n))} a w:=by
 refine⟨h.size,h.defers,h.tmps,fun k blk hk=>?_,fun k k' blk fp b h1 h2 r1 r2=>?_,h.fresh,h.bound,h.may,h.dX⟩
 · simp only[bQ]at hk
   split at hk
   · rename_i ek
     subst ek
     simp only[hf,Option.map_some,Option.some.injEq]at hk
     subst hk
     obtain⟨h1,h2⟩:=h.heap k _ hf
     refine⟨fun e he=>h1 e (List.mem_of_mem_take he),?_⟩
     rcases h2 with⟨b,c,e,k1,k2,k3,k4,k5,k6⟩|⟨k1,k2⟩
     · refine .inl ⟨b,c,e,k1,k2,k3,k4,?_,fun i el j q hi hj=>?_⟩
       · have:(xs.take n).length * sz≤xs.length * sz:=Nat.mul_le_mul_right _ (by simp;omega)
         omega
       · have hi':xs[i]? =some el:=by
          rw[List.getElem?_take]at hi
          split at hi
          · exact hi
          · simp at hi
         exact k6 i el j q hi' hj
     · exact .inr ⟨k1,by simp[k2]⟩
   · exact h.heap k blk hk
 · have g: ∀q bl,find (jJ st.heap id (.row sz (xs.take n))) q=some bl→ ∃z8,find st.heap q=some z8:=by
    intro q bl hq
    simp only[bQ]at hq
    split at hq
    · rename_i e;subst e;exact⟨_,hf⟩
    · exact⟨_,hq⟩
   obtain⟨TU,g1⟩:=g k blk h1
   obtain⟨O5,g2⟩:=g k' fp h2
   exact h.inj k k' TU O5 b g1 g2 r1 r2
end Go.aS
end
section
namespace Go.aS
open Go
variable {P:Program} {M A:Nat→Prop} {ρ:Env} {F:Nat→Prop} {st:St} {a:Act} {w:World}
def ef:List C→Option (List T)
 | []=>some []
 | .t x::r=>(ef r).map (x:: ·)
 |_::_=>none
def recv (v:V):Option (Bool×List T):=
 match v with
 | .w (.one (.t t))=>some (false,[t])
 | .w (.agg cs)=>(ef cs).map fun ts=>(true,ts)
 |_=>none
def Xh:V→Option C
 | .w (.one c)=>some c
 | .w (.agg cs)=>(ef cs).map .pk
 |_=>none
def EX {α:Type} (P:Program) (bad:α) (op:Op) (ty:TypeId) (g:dO→V) (hp:HS) (ctr:Nat) (K:V→HS→α):α:=
 let other:=match ai P (fun x=>g (dm x)) hp ctr (bare op ty)with
  |some (v,aF)=>rY v fun v=>K v aF
  |none=>match bg P (fun x=>g (dm x)) (bare op ty)with
   |some v=>rY v fun v=>K v hp
   |none=>bad
 match op with
 | .makeMap _ none=>K (.w (.one (.map ctr))) ((ctr, .mp [] 0)::hp)
 | .mapUpdate t m k x=>match g (dm m),(g (dm k)).val?,Xh (g (dm x))with
   | .w (.one (.map id)),some kv,some c=>match P.underlying t,find hp id with
     |some (.map kt _),some (.mp es clock)=>match gX P false kt kv es with
      |some (some i)=>match nth es i with
       |some (old,_,born)=>fW (Instr.sameBits 10000 old kv) (gm (es.set i (kv,c,born)) fun es'=>gm (jJ hp id (.mp es' clock)) fun h=>K .undef h) bad
       |none=>bad
      |some none=>gm (es++[(kv,c,clock)]) fun es'=>ny (clock+1) fun q=>gm (jJ hp id (.mp es' q)) fun h=>K .undef h
      |none=>bad
     |_,_=>bad
   |_,_,_=>bad
 | .lookup t m k ok=>match g (dm m),(g (dm k)).val? with
   | .w (.one (.map id)),some kv=>match P.underlying t,find hp id with
     |some (.map kt et),some (.mp es _)=>match gX P es.isEmpty kt kv es with
      |some (some i)=>match nth es i with
       |some (_,c,_)=>wL c fun c=>K (match ok with|true=> .dQ [cw c,bT true]|false=> .w (cw c)) hp
       |none=>bad
      |some none=>match mm P et with
       |some z=>wL (.t (.val z)) fun c=>K (match ok with|true=> .dQ [.one c,bT false]|false=> .w (.one c)) hp
       |none=>bad
      |none=>bad
     |_,_=>bad
   |_,_=>bad
 | .call ⟨.builtin .len,args,ia⟩=>match args.toList,ia.toList with
   | [x],[t]=>match g (dm x)with
     | .w (.one (.map id))=>match P.underlying t,find hp id with
       |some (.map _ _),some (.mp es _)=>ny es.length fun n=>K (iV .i64 (.ofNat n)) hp
       |_,_=>bad
     |_=>other
   |_,_=>other
 | .call ⟨.builtin .delete,args,ia⟩=>match args.toList,ia.toList with
   | [m,k],[t,_]=>match g (dm m),(g (dm k)).val? with
     | .w (.one (.map id)),some kv=>match P.underlying t,find hp id with
       |some (.map kt _),some (.mp es clock)=>match gX P es.isEmpty kt kv es with
        |some (some i)=>gm (es.eraseIdx i) fun es'=>gm (jJ hp id (.mp es' clock)) fun h=>K (.dQ []) h
        |some none=>K (.dQ []) hp
        |none=>bad
       |_,_=>bad
     |_,_=>bad
   |_,_=>bad
 | .range t x=>match g (dm x)with
   | .w (.one (.map id))=>match P.underlying t,find hp id with
     |some (.map _ _),some (.mp _ _)=>K (.w (.one (.it id))) hp
     |_,_=>bad
   |_=>bad
 | .next x false=>match g (dm x)with
   | .w (.one (.it id))=>match find hp id with
     |some (.mp [] _)=>K (.dQ [bT false]) hp
     |_=>bad
   |_=>bad
 | .makeFunc (.func f) first cZ=>match first.toList,cZ.toList with
   | [x],[]=>match recv (g (dm x))with
     |some (b,ts)=>K (.w (.one (.kP f b ts))) hp
     |none=>bad
   |_,_=>other
 | .call ⟨.builtin .append,args,ia⟩=>match args.toList,ia.toList with
   | [s,x],[t,t']=>match P.underlying t' with
     |some (.int _)=>match g (dm s),(g (dm x)).fm,P.underlying t with
      | .w (.one (.t (.val (.slice none 0 0)))),some (.i64, .ofNat (n+1)),some (.slice e)=>match mZ P e,iR P e with
        |some (size,bytes),some z=>fW (Nat.beq z.length size&&Nat.ble ((n+1) * bytes) 70368744177664&&Nat.ble (n+1) 70368744177664)
          (gm (List.replicate (n+1) z) fun zs=>K (.w (.one (.own ctr size 0 (n+1)))) ((ctr, .row size zs)::hp)) bad
        |_,_=>bad
      |_,_,_=>bad
     |_=>other
   |_,_=>other
 | .binOp bo t x y _=>match g (dm x),g (dm y),P.underlying t with
   | .w (.one (.ptr _ _ _ _)), .w (.one (.t (.val (.pointer none)))),some (.pointer _)=>match bo with
     | .eql=>K (bV false) hp
     | .neq=>K (bV true) hp
     |_=>bad
   |_,_,_=>other
 |_=>other
def CX (P:Program) (n:Nat) (o:Oper) (tm:Tr) (hp:HS) (ctr:Nat) (v:V) (aF:HS):Prop:=
 ∀ (M A:Nat→Prop) (ρ:Env) (a:Act) (w:World) (L:TS),eD tm L→Rel M A ρ (bt ctr) ⟨n,L,hp⟩ a w→nO M A ρ (bt (ctr+4)) a w ((execOp a.eval o).run P w) ⟨n,L,aF⟩ v
theorem cK {ctr:Nat}: ∀id,bt (ctr+4) id→bt ctr id:=fun id h=>by simp only[bt]at *;omega
theorem get_eq {tm:Tr} {L:TS} (hL:eD tm L) (n:Nat) (hp:HS):(fun x=>gT tm (dm x))=St.get ⟨n,L,hp⟩:=by
 funext x
 rw[kL hL]
 exact bh ⟨n,L,hp⟩ x
theorem RV.at {tm:Tr} {L:TS} {n:Nat} {hp:HS} (hL:eD tm L) (hr:Rel M A ρ F ⟨n,L,hp⟩ a w) (x:Operand):RV w A ρ (gT tm (dm x)) (a.eval x):=by
 have:=hr.get x
 rw[←congrFun (get_eq hL n hp) x]at this
 exact this
theorem Bj {n:Nat} {o:Oper} {tm:Tr} {hp aF:HS} {ctr:Nat} {v:V} (h:ai P (fun x=>gT tm (dm x)) hp ctr (bare o.op o.type)=some (v,aF)):CX P n o tm hp ctr v aF:=by
 intro M A ρ a w L hL hr
 rw[sr,get_eq hL n hp]at h
 obtain⟨x,w',A',ρ',h1,h2,h3⟩:=lH (st:=⟨n,L,hp⟩) h hr (Nat.le_refl ctr)
 exact⟨x,w',A',ρ',h1,h2.sub gv,h3⟩
theorem wP {n:Nat} {o:Oper} {tm:Tr} {hp:HS} {ctr:Nat} {v:V} (h:bg P (fun x=>gT tm (dm x)) (bare o.op o.type)=some v):CX P n o tm hp ctr v hp:=by
 intro M A ρ a w L hL hr
 rw[wQ,get_eq hL n hp]at h
 exact gJ (st:=⟨n,L,hp⟩) h hr cK
theorem kZ: ∀ {cs:List C} {ts:List T},ef cs=some ts→cs=ts.map .t
 | [],ts,h=>by simp only[ef,Option.some.injEq]at h;subst h;rfl
 | .t x::r,ts,h=>by
   simp only[ef,Option.map_eq_some_iff]at h
   obtain⟨l,hl,rfl⟩:=h
   simp[kZ hl]
 | .own .. ::_,ts,h=>by simp[ef]at h
 | .ptr .. ::_,ts,h=>by simp[ef]at h
 | .rG .. ::_,ts,h=>by simp[ef]at h
 | .jY .. ::_,ts,h=>by simp[ef]at h
 | .map _::_,ts,h=>by simp[ef]at h
 | .it _::_,ts,h=>by simp[ef]at h
 | .kP .. ::_,ts,h=>by simp[ef]at h
 | .pk .. ::_,ts,h=>by simp[ef]at h
 | .any::_,ts,h=>by simp[ef]at h
theorem AE {v:V} {c:C} {x:Value} (h:Xh v=some c) (hr:RV w A ρ v x):RC w A ρ c x∧yj c x:=by
 unfold Xh at h
 split at h
 · simp only[Option.some.injEq]at h
   subst h
   exact⟨hr.1, .inl hr.2⟩
 · simp only[Option.map_eq_some_iff]at h
   obtain⟨l,hl,rfl⟩:=h
   have:=kZ hl
   subst this
   exact yj.pk hr
 · simp at h
theorem Ey {v:V} {b:Bool} {ts:List T} {x:Value} (h:recv v=some (b,ts)) (hr:RV w A ρ v x):RF w A b ts x:=by
 unfold recv at h
 split at h
 · simp only[Option.some.injEq,Prod.mk.injEq]at h
   obtain⟨rfl,rfl⟩:=h
   exact⟨_,rfl,hr.1,hr.2⟩
 · simp only[Option.map_eq_some_iff,Prod.mk.injEq]at h
   obtain⟨l,hl,rfl,rfl⟩:=h
   have:=kZ hl
   subst this
   obtain⟨vs,rfl,h1,h2⟩:=hr
   exact⟨vs,rfl,by simpa using h1,fun k t y ht hy=>h2 k (.t t) y (by simp[ht]) hy⟩
 · simp at h
theorem kx {t t' ty e:TypeId} {ik:IntKind} {i:TypeInfo} {z:Value} (ht:P.underlying t=some (.slice e)) (ht':P.underlying t'=some (.int ik)) (hi:P.info? e=some i) (hz:i.zero=some z)
 (n:Nat) (h0:0 < n) (hsz:0 < i.size) (hn:n≤70368744177664) (h48:n * i.bytes≤70368744177664) (w:World):
 (Builtin.append_ #[t,t'] ty #[.slice none 0 0, .int .i64 (n:Int)]).run P w=
   .ok (.slice (some ⟨w.heap.size,0,none⟩) n (grownCap w n 0 e)) (w.drew.alloc (.cells (Builtin.zeroCells z.cells n++Builtin.zeroCells z.cells (grownCap w n 0 e - n)) e)):=by
 have E1:n≠0:=by omega
 have hs0:i.size≠0:=by omega
 have YU:¬ (9223372036854775807 < (n:Int)):=by omega
 have YV:¬ (281474976710656 < Builtin.nextslicecap n 0 * i.bytes):=by rw[nextslicecap_zero h0];omega
 have hw:IntKind.i64.wrap (n:Int)=(n:Int):=wrap_i64 (by omega) (by omega)
 have hneg:¬ ((n:Int) < 0):=by omega
 have YH:¬ (281474976710656 < (n:Int) * (i.bytes:Int)):=by rw[←Int.natCast_mul];generalize n * i.bytes=q at h48;omega
 simp[Builtin.append_,run_underlying ht,run_underlying ht',sizeOf,typeInfo,zeroValue,hi,hz,asInt,asIntOf,hw,hneg,YH,E1,hs0,YU,YV,Question.forced,run_firstCells_none,newRow,grownCap]
 intro h
 rcases Nat.mul_eq_zero.1 h with h|h
 · exact absurd h E1
 · exact absurd h hs0
set_option maxHeartbeats 1000000
theorem Iu {n:Nat} {o:Oper} {tm:Tr} {hp:HS} {ctr:Nat} {K:V→HS→Bool} (h:EX P false o.op o.type (gT tm) hp ctr K=true): ∃v aF,CX P n o tm hp ctr v aF∧K v aF=true:=by
 obtain⟨op,hop⟩: ∃op,op=o.op:=⟨_,rfl⟩
 have other:(match ai P (fun x=>gT tm (dm x)) hp ctr (bare o.op o.type)with
  |some (v,aF)=>rY v fun v=>K v aF
  |none=>match bg P (fun x=>gT tm (dm x)) (bare o.op o.type)with
   |some v=>rY v fun v=>K v hp
   |none=>false)=true→ ∃v aF,CX P n o tm hp ctr v aF∧K v aF=true:=by
  intro h
  split at h
  · rename_i v aF he
    rw[dN]at h
    exact⟨v,aF,Bj he,h⟩
  · split at h
    · rename_i v he
      rw[dN]at h
      exact⟨v,hp,wP he,h⟩
    · simp at h
 have kJ: ∀ (ev:Operand→Value),execOp ev o=execOp ev (bare op o.type):=fun ev=>by rw[hop,sk]
 rw[←hop]at h other
 unfold EX at h
 simp only at h
 split at h
 ·
  rename_i t
  refine⟨_,_,?_,h⟩
  intro M A ρ a w L hL hr
  obtain⟨r1,r2⟩:=Rel.GH (st:=⟨n,L,hp⟩) hr (Nat.le_refl ctr)
  refine⟨.map (some w.heap.size),w.alloc (.map #[] 0),_,_, .inl ?_,r1.sub gv,⟨⟨w.heap.size,by simp[dg],rfl⟩,rfl⟩,df.alloc M w _,r2,bE.new A w⟩
  rw[kJ]
  simp[execOp,Instr.makeMap]
 ·
  rename_i t m k x
  split at h
  · rename_i id kv c hm hk hx
    split at h
    · rename_i kt et es clock hu hf
      split at h
      · rename_i i oR
        split at h
        · rename_i old c0 born zk
          obtain⟨kU,h⟩:=bp h
          rw[cu,cu]at h
          rw[lB]at zk
          refine⟨_,_,?_,h⟩
          intro M A ρ a w L hL hr
          have vm:=RV.at hL hr m
          rw[hm]at vm
          have vk:=V.bn hk (RV.at hL hr k)
          have vx:=AE hx (RV.at hL hr x)
          obtain⟨b,en,q1,q2,q3,q4,q5⟩:=gF hr hf vm
          obtain⟨c1,o2,c2,c3,c4⟩:=dl oR (fo (id:=id) (clock:=clock) q4 q5) w
          cases o2 with
          |none=>simp at c3
          |some p=>
           obtain⟨j,v⟩:=p
           simp only[Option.map_some,Option.some.injEq]at c3
           subst c3
           obtain⟨e0,e1,e2,e3,_⟩:=q5 j old c0 born zk
           have hi:j < en.size:=(Array.getElem?_eq_some_iff.1 e1).1
           have he0:en[j]=e0:=by simpa[hi]using e1
           obtain⟨r1,r2⟩:=Rel.tZ (st:=⟨n,L,hp⟩) (clock':=clock) (es':=es.set j (kv,c,born)) (en':=en.modify j fun e=>{e with key:=kv,val:=a.eval x}) hr hf q1 q3 (by simp[q4]) (fun i k' c' n' hi'=>by
            by_cases hij:j=i
            · subst hij
              rw[List.getElem?_set_self (by rw[←q4];exact hi)]at hi'
              simp only[Option.some.injEq,Prod.mk.injEq]at hi'
              obtain⟨rfl,rfl,rfl⟩:=hi'
              refine⟨{e0 with key:=kv,val:=a.eval x},by simp[Array.getElem?_modify,e1],rfl,e3,vx.1,vx.2⟩
            · rw[List.getElem?_set_ne hij]at hi'
              obtain⟨e,g1,g2,g3,g4,g5⟩:=q5 i k' c' n' hi'
              exact⟨e,by simp[Array.getElem?_modify,hij,g1],g2,g3,g4,g5⟩)
           refine⟨undef,_,A,ρ, .inr ⟨?_,rfl⟩,r1.sub cK,trivial,r2,cU.refl _,bE.refl _ _⟩
           have hks:(Instr.keyThatStays (((en[j]?).map (·.key)).getD kv) kv).run P w= .ok kv w:=by
            simp[Instr.keyThatStays,e1,e2,kU]
           rw[kJ]
           simp only[execOp,Instr.mapUpdate,Sem.run_bind,run_underlying hu,Result.andThen_ok,q2,nG q3,vk,c1,c2,hks,EE _ q3,Sem.run_pure]
        · simp at h
      · rename_i oR
        rw[cu,dD,cu]at h
        refine⟨_,_,?_,h⟩
        intro M A ρ a w L hL hr
        have vm:=RV.at hL hr m
        rw[hm]at vm
        have vk:=V.bn hk (RV.at hL hr k)
        have vx:=AE hx (RV.at hL hr x)
        obtain⟨b,en,q1,q2,q3,q4,q5⟩:=gF hr hf vm
        obtain⟨c1,o2,c2,c3,c4⟩:=dl oR (fo (id:=id) (clock:=clock) q4 q5) w
        cases o2 with
        |some p=>simp at c3
        |none=>
         obtain⟨r1,r2⟩:=Rel.tZ (st:=⟨n,L,hp⟩) (clock':=clock+1) (es':=es++[(kv,c,clock)]) (en':=en.push {key:=kv,val:=a.eval x,born:=clock}) hr hf q1 q3 (by simp[q4]) (fun i k' c' n' hi'=>by
          by_cases hlt:i < es.length
          · rw[List.getElem?_append_left hlt]at hi'
            obtain⟨e,g1,g2,g3,g4,g5⟩:=q5 i k' c' n' hi'
            exact⟨e,by rw[Array.getElem?_push,if_neg (by omega)];exact g1,g2,g3,g4,g5⟩
          · rw[List.getElem?_append_right (by omega)]at hi'
            have hz:i - es.length=0:=by
             have:=(List.getElem?_eq_some_iff.1 hi').1
             simp at this
             omega
            rw[hz]at hi'
            simp only[List.getElem?_cons_zero,Option.some.injEq,Prod.mk.injEq]at hi'
            obtain⟨rfl,rfl,rfl⟩:=hi'
            exact⟨⟨kv,a.eval x,clock⟩,by rw[Array.getElem?_push,if_pos (by omega)],rfl,rfl,vx.1,vx.2⟩)
         refine⟨undef,_,A,ρ, .inr ⟨?_,rfl⟩,r1.sub cK,trivial,r2,cU.refl _,bE.refl _ _⟩
         rw[kJ]
         simp only[execOp,Instr.mapUpdate,Sem.run_bind,run_underlying hu,Result.andThen_ok,q2,nG q3,vk,c1,c2,EE _ q3,Sem.run_pure]
      · simp at h
    · simp at h
  · simp at h
 ·
  rename_i t m k ok
  split at h
  · rename_i id kv hm hk
    split at h
    · rename_i kt et es clock hu hf
      split at h
      · rename_i i oR
        split at h
        · rename_i k0 c born zk
          rw[jV]at h
          rw[lB]at zk
          refine⟨_,_,?_,h⟩
          intro M A ρ a w L hL hr
          have vm:=RV.at hL hr m
          rw[hm]at vm
          have vk:=V.bn hk (RV.at hL hr k)
          obtain⟨b,en,q1,q2,q3,q4,q5⟩:=gF hr hf vm
          obtain⟨c1,o2,c2,c3,c4⟩:=dl oR (fo (id:=id) (clock:=clock) q4 q5) w
          cases o2 with
          |none=>simp at c3
          |some p=>
           obtain⟨j,v⟩:=p
           simp only[Option.map_some,Option.some.injEq]at c3
           subst c3
           obtain⟨e0,e1,e2,e3,e4,e5⟩:=q5 j k0 c born zk
           obtain⟨e',g1,rfl⟩:=c4 j v rfl
           rw[e1]at g1
           simp only[Option.some.injEq]at g1
           subst g1
           have hrun:(execOp a.eval o).run P w= .ok (.value (if ok then .tuple #[e0.val, .bool true]else e0.val)) w:=by
            rw[kJ]
            simp only[execOp,Instr.lookup,Sem.run_bind,run_underlying hu,Result.andThen_ok,q2,nG q3,Sem.run_pure,vk,ej q4,c1,c2]
           refine⟨_,w,A,ρ, .inl hrun,hr.sub cK,?_,df.refl _ _,cU.refl _,bE.refl _ _⟩
           cases ok with
           |true=>exact B3 (e5.rw e4)
           |false=>exact e5.rw e4
        · simp at h
      · rename_i oR
        split at h
        · rename_i z hz
          rw[jV]at h
          refine⟨_,_,?_,h⟩
          intro M A ρ a w L hL hr
          have vm:=RV.at hL hr m
          rw[hm]at vm
          have vk:=V.bn hk (RV.at hL hr k)
          obtain⟨b,en,q1,q2,q3,q4,q5⟩:=gF hr hf vm
          obtain⟨c1,o2,c2,c3,c4⟩:=dl oR (fo (id:=id) (clock:=clock) q4 q5) w
          cases o2 with
          |some p=>simp at c3
          |none=>
           obtain⟨M9,sU⟩:=qn hz w
           have hrun:(execOp a.eval o).run P w= .ok (.value (if ok then .tuple #[z, .bool false]else z)) w:=by
            rw[kJ]
            simp only[execOp,Instr.lookup,Sem.run_bind,run_underlying hu,Result.andThen_ok,q2,nG q3,Sem.run_pure,vk,ej q4,c1,c2,M9]
           refine⟨_,w,A,ρ, .inl hrun,hr.sub cK,?_,df.refl _ _,cU.refl _,bE.refl _ _⟩
           cases ok with
           |true=>exact B3 (u0:= .one (.t (.val z))) ⟨RT.val sU,sU⟩
           |false=>exact⟨RT.val sU,sU⟩
        · simp at h
      · simp at h
    · simp at h
  · simp at h
 ·
  rename_i args ia
  split at h
  · rename_i x t hargs iF
    split at h
    · rename_i id hx
      split at h
      · rename_i kt et es clock hu hf
        rw[dD]at h
        refine⟨_,_,?_,h⟩
        intro M A ρ a w L hL hr
        have vm:=RV.at hL hr x
        rw[hx]at vm
        obtain⟨b,en,q1,q2,q3,q4,q5⟩:=gF hr hf vm
        have ea:args= #[x]:=by rw[←Array.toArray_toList (xs:=args),hargs]
        have et:ia= #[t]:=by rw[←Array.toArray_toList (xs:=ia),iF]
        subst ea
        subst et
        have hrun:(execOp a.eval o).run P w= .ok (.value (goInt en.size)) w:=by
         rw[kJ]
         simp[execOp,resolve,invoke,builtin,Builtin.len_,run_underlying hu,q2,nG q3]
        refine⟨_,w,A,ρ, .inl hrun,hr.sub cK,?_,df.refl _ _,cU.refl _,bE.refl _ _⟩
        rw[q4]
        exact RV.ofValue w A ρ (goInt es.length)
      · simp at h
    · exact other h
  · exact other h
 ·
  rename_i args ia
  split at h
  · rename_i m k t t' hargs iF
    split at h
    · rename_i id kv hm hk
      split at h
      · rename_i kt et es clock hu hf
        have ea:args= #[m,k]:=by rw[←Array.toArray_toList (xs:=args),hargs]
        have et:ia= #[t,t']:=by rw[←Array.toArray_toList (xs:=ia),iF]
        subst ea
        subst et
        split at h
        · rename_i i oR
          rw[cu,cu]at h
          refine⟨_,_,?_,h⟩
          intro M A ρ a w L hL hr
          have vm:=RV.at hL hr m
          rw[hm]at vm
          have vk:=V.bn hk (RV.at hL hr k)
          obtain⟨b,en,q1,q2,q3,q4,q5⟩:=gF hr hf vm
          obtain⟨c1,o2,c2,c3,c4⟩:=dl oR (fo (id:=id) (clock:=clock) q4 q5) w
          cases o2 with
          |none=>simp at c3
          |some p=>
           obtain⟨j,v⟩:=p
           simp only[Option.map_some,Option.some.injEq]at c3
           subst c3
           obtain⟨e',g1,_⟩:=c4 j v rfl
           have hj:j < en.size:=(Array.getElem?_eq_some_iff.1 g1).1
           obtain⟨r1,r2⟩:=Rel.tZ (st:=⟨n,L,hp⟩) (clock':=clock) (es':=es.eraseIdx j) (en':=en.eraseIdxIfInBounds j) hr hf q1 q3
            (by rw[Array.eraseIdxIfInBounds,dif_pos hj,Array.size_eraseIdx,List.length_eraseIdx,if_pos (by omega),q4]) (fun i k' c' n' hi'=>by
            rw[List.getElem?_eraseIdx]at hi'
            have he:(en.eraseIdxIfInBounds j)[i]? =if i < j then en[i]? else en[i+1]? :=by
             rw[Array.eraseIdxIfInBounds,dif_pos hj,Array.getElem?_eraseIdx]
            rw[he]
            split at hi'
            · rename_i hlt;rw[if_pos hlt];exact q5 i k' c' n' hi'
            · rename_i hlt;rw[if_neg hlt];exact q5 (i+1) k' c' n' hi')
           have hrun:(execOp a.eval o).run P w= .ok (.value (.tuple #[])) {w with heap:=w.heap.setIfInBounds b (.map (en.eraseIdxIfInBounds j) clock)}:=by
            rw[kJ]
            simp only[execOp,resolve,invoke,builtin,Builtin.delete_]
            simp[run_underlying hu,q2,nG q3,vk,ej q4,c1,c2,EE _ q3]
           exact⟨_,_,A,ρ, .inl hrun,r1.sub cK,⟨#[],rfl,rfl,by simp⟩,r2,cU.refl _,bE.refl _ _⟩
        · rename_i oR
          refine⟨_,_,?_,h⟩
          intro M A ρ a w L hL hr
          have vm:=RV.at hL hr m
          rw[hm]at vm
          have vk:=V.bn hk (RV.at hL hr k)
          obtain⟨b,en,q1,q2,q3,q4,q5⟩:=gF hr hf vm
          obtain⟨c1,o2,c2,c3,c4⟩:=dl oR (fo (id:=id) (clock:=clock) q4 q5) w
          cases o2 with
          |some p=>simp at c3
          |none=>
           have Ts:b < w.heap.size:=by
            rcases Nat.lt_or_ge b w.heap.size with hl|hg
            · exact hl
            · simp[Array.getElem?_eq_none hg]at q3
           have SU:({w with heap:=w.heap.setIfInBounds b (.map en clock)}:World)=w:=by
            have:w.heap.setIfInBounds b (.map en clock)=w.heap:=by
             apply Array.ext_getElem?
             intro i
             by_cases hi:b=i
             · subst hi;simp[Ts,q3];simpa[Ts]using q3.symm
             · rw[Array.getElem?_setIfInBounds_ne hi]
            rw[this]
           have hrun:(execOp a.eval o).run P w= .ok (.value (.tuple #[])) w:=by
            rw[kJ]
            simp only[execOp,resolve,invoke,builtin,Builtin.delete_]
            simp[run_underlying hu,q2,nG q3,vk,ej q4,c1,c2,EE _ q3,SU]
           exact⟨_,_,A,ρ, .inl hrun,hr.sub cK,⟨#[],rfl,rfl,by simp⟩,df.refl _ _,cU.refl _,bE.refl _ _⟩
        · simp at h
      · simp at h
    · simp at h
  · simp at h
 ·
  rename_i t x
  split at h
  · rename_i id hx
    split at h
    · rename_i kt et es clock hu hf
      refine⟨_,_,?_,h⟩
      intro M A ρ a w L hL hr
      have vm:=RV.at hL hr x
      rw[hx]at vm
      obtain⟨b,en,q1,q2,q3,q4,q5⟩:=gF hr hf vm
      obtain⟨r1,r2⟩:=Rel.Jv hr (.mapIter (some b) clock #[] clock)
      have hrun:(execOp a.eval o).run P w= .ok (.value (.pointer (some ⟨w.heap.size,0,none⟩))) (w.alloc (.mapIter (some b) clock #[] clock)):=by
       rw[kJ]
       simp[execOp,Instr.range,run_underlying hu,q2,nG q3]
      refine⟨_,_,A,ρ, .inl hrun,r1.sub cK,⟨⟨b,w.heap.size,clock,clock,q1,rfl,by simp,fun hA=>?_,heap_alloc_new w _⟩,rfl⟩,r2,cU.refl _,bE.refl _ _⟩
      have:=hr.bound _ hA
      omega
    · simp at h
  · simp at h
 ·
  rename_i x
  split at h
  · rename_i id hx
    split at h
    · rename_i clock hf
      refine⟨_,_,?_,h⟩
      intro M A ρ a w L hL hr
      have vi:=RV.at hL hr x
      rw[hx]at vi
      obtain⟨b,r,since,last,k1,k2,k3,k4,k5⟩:=vi.1
      obtain⟨b',en,g1,g2,g3,g4,g5,g6⟩:=hr.heap id _ hf
      rw[k1]at g1
      simp only[Option.some.injEq,Loc.fz.injEq]at g1
      subst g1
      have mP:en= #[]:=by
       apply Array.eq_empty_of_size_eq_zero
       simpa using g5
      subst mP
      have Cx:(getObj r).run P w= .ok (.mapIter (some b) since #[] last) w:=by simp[getObj,Sem.run,k5]
      have hrun:(execOp a.eval o).run P w= .ok (.value (.tuple #[.bool false])) w:=by
       rw[kJ]
       simp only[execOp,Instr.next,k2]
       simp[Cx,nG g4,Question.forced]
      exact⟨_,_,A,ρ, .inl hrun,hr.sub cK,⟨_,rfl,rfl,fun k u y hu hy=>by
       match k with
       |0=>simp at hu hy;subst hu;subst hy;exact RW.bT false
       |k+1=>simp at hu⟩,df.refl _ _,cU.refl _,bE.refl _ _⟩
    · simp at h
  · simp at h
 ·
  rename_i f first cZ
  split at h
  · rename_i x uY Tp
    split at h
    · rename_i b ts IG
      refine⟨_,_,?_,h⟩
      intro M A ρ a w L hL hr
      have vx:=RV.at hL hr x
      have ea:first= #[x]:=by rw[←Array.toArray_toList (xs:=first),uY]
      have et:cZ= #[]:=by rw[←Array.toArray_toList (xs:=cZ),Tp]
      subst ea
      subst et
      have hrun:(execOp a.eval o).run P w= .ok (.value (.func (.func f) #[a.eval x] #[])) w:=by
       rw[kJ]
       simp[execOp,Instr.makeFunc]
      exact⟨_,_,A,ρ, .inl hrun,hr.sub cK,⟨⟨_,rfl,Ey IG vx⟩,rfl⟩,df.refl _ _,cU.refl _,bE.refl _ _⟩
    · simp at h
  · exact other h
 ·
  rename_i args ia
  split at h
  · rename_i s x t t' hargs iF
    split at h
    · rename_i ik zh
      split at h
      · rename_i m e hs hx hu
        split at h
        · rename_i size bytes z hT hz
          obtain⟨hc,h⟩:=bp h
          rw[cu]at h
          refine⟨_,_,?_,h⟩
          intro M A ρ a w L hL hr
          have vs:=RV.at hL hr s
          rw[hs]at vs
          have vx:=V.iu hx (RV.at hL hr x)
          have SO:a.eval s= .slice none 0 0:=V.bn (v:= .slice none 0 0) rfl vs
          have ea:args= #[s,x]:=by rw[←Array.toArray_toList (xs:=args),hargs]
          have et:ia= #[t,t']:=by rw[←Array.toArray_toList (xs:=ia),iF]
          subst ea
          subst et
          obtain⟨inf,zv,z1,z2,z3,z4,z5,z6⟩:=lJ hT
          obtain⟨Xn,ZX,y1,y2,y3,y4,y5⟩:=ec hz w A ρ
          rw[z1]at y1
          simp only[Option.some.injEq]at y1
          subst y1
          rw[z2]at y2
          simp only[Option.some.injEq]at y2
          subst y2
          obtain⟨YG,hc3⟩:=Bool.and_eq_true _ _▸hc
          obtain⟨mQ,wK⟩:=Bool.and_eq_true _ _▸YG
          have g2:=Nat.le_of_ble_eq_true wK
          have g3:=Nat.le_of_ble_eq_true hc3
          have hsize:z.length=size:=by rw[←y4];exact z3
          have hrun:=kx (P:=P) (ty:=o.type) hu zh z1 z2 (m+1) (by omega) (by omega) g3 (by rw[z4];exact g2) w
          have hge:=grownCap_ge w (m+1) 0 e
          obtain⟨e1,e2,e3⟩:=mj y5 (m+1)
          have hlen:(List.replicate (m+1) z).length=m+1:=by simp
          obtain⟨A',ρ',r1,r2,r3,r4,r5⟩:=jy (st:=⟨n,L,hp⟩) (e:=e) (z:=zv.cells) (cap:=grownCap w (m+1) 0 e) (zs:=List.replicate (m+1) z) (vs:=(Builtin.zeroCells zv.cells (m+1)).toList) (size:=size) hr (Nat.le_refl ctr) z5
           (fun el hel=>by rw[List.eq_of_mem_replicate hel];exact hsize)
           (by rw[Array.length_toList,size_zeroCells,z5,hlen]) (by rw[hlen];exact hge)
           (fun i el j k hi hj=>by
             obtain⟨y,hy,rT,qN⟩:=e3 i el j k hi hj
             refine⟨y,?_,rT,qN⟩
             rw[Array.getElem?_toList, ←hsize]
             have ez:Builtin.zeroCells zv.cells (m+1)=(Array.range ((m+1) * z.length)).map fun k=>zv.cells[k % zv.cells.size]! :=by
              unfold Builtin.zeroCells
              have:zv.cells.size=z.length:=by rw[y3,y4]
              rw[this]
             rw[ez]
             exact hy)
          rw[hlen]at r1 r2 r3
          simp only[Array.toArray_toList]at r1 r2 r3
          refine⟨_,_,A',ρ', .inl ?_,r1.sub gv,r2,r3,r4,r5⟩
          rw[kJ]
          have SH:a.eval x= .int .i64 ((m+1:Nat):Int):=vx
          have Ns:(execOp a.eval (bare (Op.call ⟨.builtin .append, #[s,x], #[t,t']⟩) o.type)).run P w=((Builtin.append_ #[t,t'] o.type #[a.eval s,a.eval x]).run P w).andThen fun v w'=> .ok (.value v) w':=by
           simp[execOp,resolve,invoke,builtin]
          rw[Ns,SO,SH,hrun]
          rfl
        · simp at h
      · simp at h
    · exact other h
  · exact other h
 ·
  rename_i bo t x y t'
  split at h
  · rename_i id sz i j e hx hy hu
    have RJ: ∀ (b:Addr) (w:World),(Op.equal t (.pointer (some b)) (.pointer none)).run P w= .ok false w:=by
     intro b w
     show(Op.equalIn 10000 t (.pointer (some b)) (.pointer none)).run P w=_
     unfold Op.equalIn
     simp[run_underlying hu]
    have fin: ∀ (c:Bool),(∀ (b:Addr) (w:World),(binOp bo t (.pointer (some b)) (.pointer none)).run P w= .ok (.bool c) w)→CX P n o tm hp ctr (bV c) hp:=by
     intro c hc M A ρ a w L hL hr
     have vx:=RV.at hL hr x
     rw[hx]at vx
     have vy:=RV.at hL hr y
     rw[hy]at vy
     obtain⟨b,_,hb⟩:=vx.1
     have UJ:a.eval y= .pointer none:=V.bn (v:= .pointer none) rfl vy
     have hg:(eqGuard bo t x y (.pointer (some ⟨b,i * sz+j,none⟩)) (.pointer none)).run P w= .ok () w:=by
      unfold eqGuard
      cases bo<;>simp
     have hrun:(execOp a.eval o).run P w= .ok (.value (.bool c)) w:=by
      rw[kJ]
      simp only[execOp,hb,UJ,Sem.run_bind,hg,Result.andThen_ok,hc,Sem.run_pure]
     exact⟨_,w,A,ρ, .inl hrun,hr.sub cK,RV.ofValue w A ρ (.bool c),df.refl _ _,cU.refl _,bE.refl _ _⟩
    split at h
    · exact⟨_,_,fin false (fun b w=>by simp[binOp,RJ]),h⟩
    · exact⟨_,_,fin true (fun b w=>by simp[binOp,RJ]),h⟩
    · simp at h
  · exact other h
 · exact other h
end Go.aS
end
section
namespace Go.aS
open Go
variable {P:Program} {M A:Nat→Prop} {ρ:Env} {F:Nat→Prop} {st:St} {a:Act} {w:World}
def Dt (bits:List Nat) (lo:Nat) (fs:List gO):Bool:=
 (List.range fs.length).all fun j=>match fs[j]? with
   |some g=>(List.range j).all fun i=>match fs[i]? with
    |some f=>(bits.getD (lo+j) 0).testBit (lo+i)||f.apart g
    |none=>true
   |none=>true
theorem ue {bits:List Nat} {lo:Nat} {fs:List gO} (h:Dt bits lo fs=true) {i j:Nat} {f g:gO} (hij:i < j) (hf:fs[i]? =some f) (hg:fs[j]? =some g):
 (bits.getD (lo+j) 0).testBit (lo+i)=true∨f.apart g=true:=by
 unfold Dt at h
 have hj:j < fs.length:=(List.getElem?_eq_some_iff.1 hg).1
 have:=List.all_eq_true.1 h j (List.mem_range.2 hj)
 simp only[hg]at this
 have:=List.all_eq_true.1 this i (List.mem_range.2 hij)
 simp only[hf,Bool.or_eq_true]at this
 exact this
theorem Er {ops:Array Oper} {n base lo m:Nat} {tmT:Nat→TS} {hpT:Nat→HS} {v:Nat→V} {fs:List gO} {Q:Exit→Act→World→Prop}
 (Yh:lo+m≤ops.size)
 (hstep: ∀i o,i < m→ops[lo+i]? =some o→fg P ops o n (tmT i) (hpT i) (base+4 * i) (v i) (hpT (i+1))∧(∀t,find (tmT (i+1)) t=find (eL (tmT i) o.dst (v i)) t)∧
   ∃f,fs[i]? =some f∧f.dst=o.dst∧(∀t,t∈names ops o→t∈f.nm)∧(∀k,k∈iS (St.get ⟨n,tmT i,hpT i⟩) o→k∈f.rd)∧(∀k,k∈tt (St.get ⟨n,tmT i,hpT i⟩) (base+4 * i) o→k∈f.wr))
 (hE: ∀i o,ops[i]? =some o→ ∀e,e∈bc o→e < i)
 (hok:Dt (ko (ops.toList.map bc) []) lo fs=true)
 (Cv: ∀k,lo+m≤k→k < ops.size→ ∀i,i < m→((ko (ops.toList.map bc) []).getD k 0).testBit (lo+i)=true)
 (cE:Rel M A ρ (bt base) ⟨n,tmT 0,hpT 0⟩ a w)
 (Hh: ∀ (fuel:Nat) (listed:Array Bool) (a':Act) (w':World),listed.size=ops.size→(∀i,i < ops.size→listed.getD i false=decide (i < lo+m))→ops.size - (lo+m)≤fuel→
   D9 M A ρ w (fun st c=>st=⟨n,tmT m,hpT m⟩∧c=base+4 * m) a' w'→wpAny P .any ops Q fuel listed a' w'):
 ∀ (fuel:Nat) (listed:Array Bool),listed.size=ops.size→(∀i,i < ops.size→listed.getD i false=decide (i < lo))→ops.size - lo≤fuel→wpAny P .any ops Q fuel listed a w:=by
 let N:=m
 let dst:Nat→Option Nat:=fun i=>(ops[lo+i]?).bind (·.dst)
 let wr:Nat→List Nat:=fun i=>((ops[lo+i]?).map fun o=>tt (St.get ⟨n,tmT i,hpT i⟩) (base+4 * i) o).getD []
 have hop: ∀i,i < N→ ∃o,ops[lo+i]? =some o:=fun i hi=>by
  have:lo+i < ops.size:=by simp only[N]at hi;omega
  exact⟨ops[lo+i],by simp[this]⟩
 have vc: ∀i o,ops[lo+i]? =some o→dst i=o.dst:=fun i o h=>by simp only[dst,h,Option.bind_some]
 have hwr: ∀i o,ops[lo+i]? =some o→wr i=tt (St.get ⟨n,tmT i,hpT i⟩) (base+4 * i) o:=by
  intro i o h
  simp only[wr,h,Option.map_some,Option.getD_some]
 have uW: ∀i,i < N→ ∀k,¬k∈wr i→find (hpT (i+1)) k=find (hpT i) k:=by
  intro i hi k hk
  obtain⟨o,ho⟩:=hop i hi
  obtain⟨h1,_⟩:=hstep i o hi ho
  obtain⟨_,_,h3⟩:=h1.loc (tm2:=tmT i) (hp2:=hpT i) (fun _ _=>rfl) (fun _ _=>rfl) (fun _ _=>rfl)
  rw[hwr i o ho]at hk
  exact(h3.2 k hk).1
 have G6: ∀i,i < N→ ∀t,find (tmT (i+1)) t=find (eL (tmT i) (dst i) (v i)) t:=by
  intro i hi t
  obtain⟨o,ho⟩:=hop i hi
  rw[(hstep i o hi ho).2.1 t,vc i o ho]
 have TB: ∀ (i:Nat) (es:List Nat),(ops.toList.map bc)[i]? =some es→ ∀e,e∈es→e < i:=by
  intro i es h e he
  simp only[List.getElem?_map,Array.getElem?_toList,Option.map_eq_some_iff]at h
  obtain⟨o,ho,rfl⟩:=h
  exact hE i o ho e he
 let Lg:Array Bool→Nat→Bool:=fun listed i=>listed.getD i false
 let da:Array Bool→Nat→Bool:=fun listed i=>listed.getD (lo+i) false
 let Fr:(Nat→Bool)→Nat→Prop:=fun L k=>base+4 * N≤k∨ ∃j,j < N∧L j=false∧base+4 * j≤k∧k < base+4 * j+4
 have ix: ∀ {L:Nat→Bool} {i:Nat},i < ops.size→(∀k o,ops[k]? =some o→L k=true→ ∀e,e∈bc o→L e=true)→(∀o,ops[i]? =some o→ ∀e,e∈bc o→L e=true)→
  ∀j,((ko (ops.toList.map bc) []).getD i 0).testBit j=true→L j=true:=by
  intro L i hi ew IL j hb
  refine(o4 TB i (by simpa using hi) (fun k es _ E9 jg e he=>?_) (fun es jg e he=>?_) j hb).1
  · simp only[List.getElem?_map,Array.getElem?_toList,Option.map_eq_some_iff]at jg
    obtain⟨o,ho,rfl⟩:=jg
    exact ew k o ho E9 e he
  · simp only[List.getElem?_map,Array.getElem?_toList,Option.map_eq_some_iff]at jg
    obtain⟨o,ho,rfl⟩:=jg
    exact IL o ho e he
 have finish: ∀ (fuel:Nat) (listed:Array Bool) (a':Act) (w':World) (A':Nat→Prop) (ρ':Env),listed.size=ops.size→(∀i,i < lo→Lg listed i=true)→(∀i,lo+m≤i→i < ops.size→Lg listed i=false)→ops.size - (lo+m)≤fuel→(∀i,i < N→da listed i=true)→
  Rel M A' ρ' (Fr (da listed)) ⟨n,nE dst v (tmT 0) (da listed) N,nJ wr hpT (hpT 0) (da listed) N⟩ a' w'→df M w w'→cU ρ ρ'→bE A A' w→wpAny P .any ops Q fuel listed a' w':=by
  intro fuel listed a' w' A' ρ' hsz Cz Ht FK hall hr dJ cF hg
  refine Hh fuel listed a' w' hsz (fun i hi=>?_) FK ⟨⟨n,tmT m,hpT m⟩,base+4 * m,A',ρ',⟨rfl,rfl⟩,?_,dJ,cF,hg⟩
  · by_cases h1:i < lo
    · rw[show listed.getD i false=true from Cz i h1];simp;omega
    · by_cases h2:i < lo+m
      · have:=hall (i - lo) (by simp only[N];omega)
        simp only[da]at this
        rw[show lo+(i - lo)=i by omega]at this
        rw[this];simp[h2]
      · rw[show listed.getD i false=false from Ht i (by omega) hi];simp;omega
  have h1:Rel M A' ρ' (Fr (da listed)) ⟨n,tmT m,hpT m⟩ a' w':=hr.forget rfl (fun t u hu=>by
   rw[show find (⟨n,nE dst v (tmT 0) (da listed) N,nJ wr hpT (hpT 0) (da listed) N⟩:St).tmps t=find (tmT N) t from pb dst v (tmT 0) tmT N rfl G6 (da listed) t N (Nat.le_refl _) hall];exact hu) (fun k b hb=>by
   rw[show find (⟨n,nE dst v (tmT 0) (da listed) N,nJ wr hpT (hpT 0) (da listed) N⟩:St).heap k=find (hpT N) k from pR wr hpT (hpT 0) N rfl uW (da listed) k N (Nat.le_refl _) hall];exact hb)
  exact h1.sub (fun k hk=> .inl hk)
 have main: ∀ (c fuel:Nat) (listed:Array Bool) (a':Act) (w':World) (A':Nat→Prop) (ρ':Env),listed.size=ops.size→(∀i,i < lo→Lg listed i=true)→(∀i,lo+m≤i→i < ops.size→Lg listed i=false)→nc (da listed) N=c→c+(ops.size - (lo+m))≤fuel→
  (∀k o,ops[k]? =some o→Lg listed k=true→ ∀e,e∈bc o→Lg listed e=true)→
  Rel M A' ρ' (Fr (da listed)) ⟨n,nE dst v (tmT 0) (da listed) N,nJ wr hpT (hpT 0) (da listed) N⟩ a' w'→df M w w'→cU ρ ρ'→bE A A' w→
  wpAny P .any ops Q fuel listed a' w':=by
  intro c
  induction c with
  |zero=>
   intro fuel listed a' w' A' ρ' hsz Cz Ht E7 FK ew hr dJ cF hg
   exact finish fuel listed a' w' A' ρ' hsz Cz Ht (by omega) (rh E7) hr dJ cF hg
  |succ c ih=>
   intro fuel listed a' w' A' ρ' hsz Cz Ht E7 FK ew hr dJ cF hg
   obtain⟨fuel,rfl⟩: ∃f,fuel=f+1:=⟨fuel - 1,by omega⟩
   have hex: ∃i,i < N∧da listed i=false:=by
    by_cases h: ∃i,i < N∧da listed i=false
    · exact h
    · exfalso
      have: ∀i,i < N→da listed i=true:=fun i hi=>by cases h':da listed i with|true=>rfl|false=>exact absurd ⟨i,hi,h'⟩ h
      have h0: ∀k,k≤N→nc (da listed) k=0:=by
       intro k
       induction k with
       |zero=>intro _;rfl
       |succ k Xo=>intro hk;simp only[nc,Xo (by omega),this k (by omega)];rfl
      rw[h0 N (Nat.le_refl _)]at E7
      omega
   refine⟨fun AX=>?_,fun ig hi=>?_⟩
   · exfalso
     obtain⟨i,hi,hL,Cu⟩:=exists_least hex
     obtain⟨o,ho⟩:=hop i hi
     have:lo+i∈Region.ready .any ops listed:=by
      rw[mem_ready]
      refine⟨?_,o,ho,fun e he hb=>?_⟩
      · simp only[da,Array.getD_eq_getD_getElem?]at hL⊢
        have jE:lo+i < listed.size:=by have:=(Array.getElem?_eq_some_iff.1 ho).1;omega
        simpa[jE]using hL
      · have hm:e.on∈bc o:=by simp only[bc,List.mem_map,List.mem_filter];exact⟨e,⟨by simpa using he,hb⟩,rfl⟩
        have hlt:=hE (lo+i) o ho _ hm
        by_cases h1:e.on < lo
        · exact Cz _ h1
        · have:=Cu (e.on - lo) (by omega)
          simp only[da]at this
          rw[show lo+(e.on - lo)=e.on by omega]at this
          exact this
     rw[AX]at this
     simp at this
   · rw[mem_ready]at hi
     obtain⟨h0,o,OT,uZ⟩:=hi
     have Nn:ig < ops.size:=(Array.getElem?_eq_some_iff.1 OT).1
     have J2:Lg listed ig=false:=by
      simp only[Lg,Array.getD_eq_getD_getElem?]at h0⊢
      have jE:ig < listed.size:=by omega
      simpa[jE]using h0
     have IL: ∀e,e∈bc o→Lg listed e=true:=by
      intro e he
      simp only[bc,List.mem_map,List.mem_filter]at he
      obtain⟨ed,⟨h1,h2⟩,rfl⟩:=he
      exact uZ ed (by simpa using h1) h2
     have hge:lo≤ig:=by
      rcases Nat.lt_or_ge ig lo with h|h
      · rw[Cz ig h]at J2;simp at J2
      · exact h
     have hlt:ig < lo+m:=by
      rcases Nat.lt_or_ge ig (lo+m)with h|h
      · exact h
      · exfalso
        obtain⟨i,hi,hL⟩:=hex
        have hb:=Cv ig h Nn i hi
        have:=ix Nn ew (fun o' wh=>by rw[OT]at wh;simp only[Option.some.injEq]at wh;subst wh;exact IL) _ hb
        simp only[da]at hL
        rw[show Lg listed (lo+i)=false from hL]at this
        simp at this
     obtain⟨i,rfl⟩: ∃i,ig=lo+i:=⟨ig - lo,by omega⟩
     have zm:i < N:=by simp only[N];omega
     have ho:ops[lo+i]? =some o:=OT
     have Fa:da listed i=false:=J2
     obtain⟨hst,XE,f,hf,fd,fn,fr,fw⟩:=hstep i o zm ho
     have order: ∀j oj g,j≠i→j < N→ops[lo+j]? =some oj→fs[j]? =some g→(f.apart g=true∨g.apart f=true)∨(j < i∧da listed j=true)∨(i < j∧da listed j=false):=by
      intro j oj g eF hjN oP jf
      have hjS:lo+j < ops.size:=(Array.getElem?_eq_some_iff.1 oP).1
      rcases Nat.lt_or_gt_of_ne eF with hlt|hgt
      · rcases ue hok hlt jf hf with hb|hb
        · exact .inr (.inl ⟨hlt,ix Nn ew (fun o' wh=>by rw[ho]at wh;simp only[Option.some.injEq]at wh;subst wh;exact IL) (lo+j) hb⟩)
        · exact .inl (.inr hb)
      · rcases ue hok hgt hf jf with hb|hb
        · refine .inr (.inr ⟨hgt,?_⟩)
          cases YR:da listed j with
          |false=>rfl
          |true=>
           have:=ix hjS ew (fun o' wh=>ew (lo+j) o' wh YR) (lo+i) hb
           rw[J2]at this
           simp at this
        · exact .inl (.inl hb)
     have vp: ∀j,j < N→ ∃oj g,ops[lo+j]? =some oj∧fs[j]? =some g∧g.dst=dst j∧ ∀k,k∈wr j→k∈g.wr:=by
      intro j hj
      obtain⟨oj,oP⟩:=hop j hj
      obtain⟨_,_,g,g1,g2,_,_,g5⟩:=hstep j oj hj oP
      exact⟨oj,g,oP,g1,by rw[g2,vc j oj oP],fun k hk=>g5 k (by rw[hwr j oj oP]at hk;exact hk)⟩
     have apart_spec: ∀ {f g:gO},(f.apart g=true∨g.apart f=true)→(∀t,f.dst=some t→g.dst=some t→False)∧(∀t,g.dst=some t→t∈f.nm→False)∧(∀k,k∈g.wr→k∈f.rd→False)∧(∀k,k∈g.wr→k∈f.wr→False):=by
      intro f g h
      rcases h with h|h<;>simp only[gO.apart,Bool.and_eq_true]at h<;>obtain⟨⟨⟨⟨⟨h1,h2⟩,h3⟩,h4⟩,h5⟩,h6⟩:=h
      · exact⟨fun t a b=>cL (x:=t) h3 (by simp[a]) (by simp[b]),fun t a b=>cL (x:=t) h2 (by simp[a]) b,fun k a b=>cL h5 a b,fun k a b=>cL h6 b a⟩
      · exact⟨fun t a b=>cL (x:=t) h3 (by simp[b]) (by simp[a]),fun t a b=>cL (x:=t) h1 (by simp[a]) b,fun k a b=>cL h4 a b,fun k a b=>cL h6 a b⟩
     have CW: ∀t,t∈names ops o→find (nE dst v (tmT 0) (da listed) N) t=find (tmT i) t:=by
      intro t ht
      rw[mu dst v (tmT 0) (da listed) (fun j=>decide (j < i)) t N ?_,tS dst v (tmT 0) i t N (Nat.le_of_lt zm),pb dst v (tmT 0) tmT N rfl G6 _ t i (Nat.le_of_lt zm) (fun j hj=>by simpa using hj)]
      intro j hj zo
      by_cases eF:j=i
      · subst eF;rw[Fa];simp
      · obtain⟨oj,g,oP,jf,gd,gw⟩:=vp j hj
        rcases order j oj g eF hj oP jf with hap|⟨h1,h2⟩|⟨h1,h2⟩
        · exact((apart_spec hap).2.1 t (by rw[gd,zo]) (fn t ht)).elim
        · rw[h2];simp[h1]
        · rw[h2];simp;omega
     have vT: ∀k,(k∈f.rd∨k∈f.wr)→find (nJ wr hpT (hpT 0) (da listed) N) k=find (hpT i) k:=by
      intro k hk
      rw[mN wr hpT (hpT 0) (da listed) (fun j=>decide (j < i)) k N ?_,uV wr hpT (hpT 0) i k N (Nat.le_of_lt zm),pR wr hpT (hpT 0) N rfl uW _ k i (Nat.le_of_lt zm) (fun j hj=>by simpa using hj)]
      intro j hj zo
      by_cases eF:j=i
      · subst eF;rw[Fa];simp
      · obtain⟨oj,g,oP,jf,gd,gw⟩:=vp j hj
        rcases order j oj g eF hj oP jf with hap|⟨h1,h2⟩|⟨h1,h2⟩
        · rcases hk with hk|hk
          · exact((apart_spec hap).2.2.1 k (gw k zo) hk).elim
          · exact((apart_spec hap).2.2.2 k (gw k zo) hk).elim
        · rw[h2];simp[h1]
        · rw[h2];simp;omega
     have Ho: ∀k,k∈four (base+4 * i)→k∈f.wr:=fun k hk=>fw k (by simp only[tt,List.mem_append];exact .inl hk)
     obtain⟨mO,Nc,JZ⟩:=hst.loc (tm2:=nE dst v (tmT 0) (da listed) N) (hp2:=nJ wr hpT (hpT 0) (da listed) N) CW (fun k hk=>vT k (.inl (fr k hk))) (fun k hk=>vT k (.inr (Ho k hk)))
     rw[←hwr i o ho]at JZ
     refine fg.sound ho Nc hr (fun k h1 h2=> .inr ⟨i,zm,Fa,h1,h2⟩) ?_
     intro a2 w2 A2 ρ2 r1 r2 r3 r4
     have He: ∀j,da (listed.setIfInBounds (lo+i) true) j=if j=i then true else da listed j:=by
      intro j
      by_cases eF:j=i
      · subst eF
        have:lo+j < listed.size:=by omega
        simp[da,Array.getD_eq_getD_getElem?,this]
      · simp only[da,eF,if_false]
        exact getD_set_ne false (fun e=>eF (by omega))
     have G9: ∀k,k≠lo+i→Lg (listed.setIfInBounds (lo+i) true) k=Lg listed k:=fun k hk=>getD_set_ne false (fun e=>hk e.symm)
     have vg:da (listed.setIfInBounds (lo+i) true) i=true:=by rw[He];simp
     have lW: ∀j,j≠i→da (listed.setIfInBounds (lo+i) true) j=da listed j:=fun j hj=>by rw[He,if_neg hj]
     have later: ∀j,i < j→j < N→(∀oj g,ops[lo+j]? =some oj→fs[j]? =some g→(f.apart g=true∨g.apart f=true)→False)→da (listed.setIfInBounds (lo+i) true) j=false:=by
      intro j h1 h2 h3
      obtain⟨oj,g,oP,jf,gd,gw⟩:=vp j h2
      rw[lW j (by omega)]
      rcases order j oj g (by omega) h2 oP jf with hap|⟨h4,_⟩|⟨_,h5⟩
      · exact(h3 oj g oP jf hap).elim
      · omega
      · exact h5
     refine ih fuel (listed.setIfInBounds (lo+i) true) a2 w2 A2 ρ2 (by simpa using hsz) (fun k hk=>by rw[G9 k (by omega)];exact Cz k hk) (fun k hk hk'=>by rw[G9 k (by omega)];exact Ht k hk hk') ?_ (by omega) ?_ ?_ (dJ.trans r2) (cF.trans r3) (hg.trans r4 dJ.size)
     · have:=vJ (L:=da listed) (L':=da (listed.setIfInBounds (lo+i) true)) Fa vg lW (k:=N) zm
       omega
     · intro k W6 sW E9 e he
       by_cases oR:k=lo+i
       · subst oR
         rw[ho]at sW
         simp only[Option.some.injEq]at sW
         subst sW
         exact getD_set_true (IL e he)
       · rw[G9 k oR]at E9
         exact getD_set_true (ew k W6 sW E9 e he)
     · refine(Rel.forget (st':=⟨n,nE dst v (tmT 0) (da (listed.setIfInBounds (lo+i) true)) N,nJ wr hpT (hpT 0) (da (listed.setIfInBounds (lo+i) true)) N⟩) r1 rfl (fun t u hu=>?_) (fun k b hb=>?_)).sub (fun k hk=>?_)
       · simp only[gh]
         split
         · rename_i hd
           have nY:=yt dst v (tmT 0) (da (listed.setIfInBounds (lo+i) true)) t i (by rw[vc i o ho];exact hd) vg N zm (fun j h1 h2 h3=>later j h1 h2 (fun oj g oP jf hap=>by
            obtain⟨_,g',_,xN,gd,_⟩:=vp j h2
            rw[jf]at xN
            simp only[Option.some.injEq]at xN
            subst xN
            exact(apart_spec hap).1 t (by rw[fd];exact hd) (by rw[gd];exact h3)))
           rw[←nY];exact hu
         · rename_i hd
           rw[mu dst v (tmT 0) (da listed) (da (listed.setIfInBounds (lo+i) true)) t N (fun j hj zo=>by
            by_cases eF:j=i
            · subst eF;rw[vc j o ho]at zo;exact absurd zo hd
            · exact(lW j eF).symm)]
           exact hu
       · by_cases hk:k∈wr i
         · have Yi:k∈f.wr:=fw k (by rw[←hwr i o ho];exact hk)
           have nY:=zi wr hpT (hpT 0) (da (listed.setIfInBounds (lo+i) true)) k i hk vg N zm (fun j h1 h2 h3=>later j h1 h2 (fun oj g oP jf hap=>by
            obtain⟨_,g',_,xN,_,gw⟩:=vp j h2
            rw[jf]at xN
            simp only[Option.some.injEq]at xN
            subst xN
            exact(apart_spec hap).2.2.2 k (gw k h3) Yi))
           rw[JZ.1 k hk, ←nY];exact hb
         · rw[(JZ.2 k hk).2,mN wr hpT (hpT 0) (da listed) (da (listed.setIfInBounds (lo+i) true)) k N (fun j hj zo=>by
            by_cases eF:j=i
            · subst eF;exact absurd zo hk
            · exact(lW j eF).symm)]
           exact hb
       · refine⟨?_,?_⟩
         · rcases hk with hk|⟨j,h1,h2,h3⟩
           · exact .inl hk
           · by_cases eF:j=i
             · subst eF;rw[vg]at h2;simp at h2
             · rw[lW j eF]at h2;exact .inr ⟨j,h1,h2,h3⟩
         · rintro⟨q1,q2⟩
           rcases hk with hk|⟨j,h1,h2,h3,h4⟩
           · omega
           · by_cases eF:j=i
             · subst eF;rw[vg]at h2;simp at h2
             · omega
 intro fuel listed hsz hl FK
 have YS: ∀i,i < N→da listed i=false:=by
  intro i hi
  simp only[da]
  rw[hl (lo+i) (by simp only[N]at hi;omega)]
  simp
 have To: ∀k,k≤N→nc (da listed) k=k:=by
  intro k
  induction k with
  |zero=>intro _;rfl
  |succ k ih=>intro hk;simp only[nc,ih (by omega),YS k (by omega)];simp
 refine main m fuel listed a w A ρ hsz (fun i hi=>?_) (fun i hi hi'=>?_) (To N (Nat.le_refl _)) (by omega) (fun k o ho E9 e he=>?_) ?_ (df.refl _ _) (cU.refl _) (bE.refl _ _)
 · show listed.getD i false=true
   rw[hl i (by omega)];simp[hi]
 · show listed.getD i false=false
   rw[hl i hi'];simp;omega
 · have hk:k < ops.size:=(Array.getElem?_eq_some_iff.1 ho).1
   have h1:k < lo:=by
    have:listed.getD k false=true:=E9
    rw[hl k hk]at this
    simpa using this
   have h2:=hE k o ho e he
   show listed.getD e false=true
   rw[hl e (by omega)];simp;omega
 · have eT: ∀k,k≤N→nE dst v (tmT 0) (da listed) k=tmT 0:=by
    intro k
    induction k with
    |zero=>intro _;rfl
    |succ k ih=>intro hk;simp only[nE,YS k (by omega),Bool.false_eq_true,if_false,ih (by omega)]
   have eH: ∀k,k≤N→nJ wr hpT (hpT 0) (da listed) k=hpT 0:=by
    intro k
    induction k with
    |zero=>intro _;rfl
    |succ k ih=>intro hk;simp only[nJ,YS k (by omega),Bool.false_eq_true,if_false,ih (by omega)]
   rw[eT N (Nat.le_refl _),eH N (Nat.le_refl _)]
   refine cE.sub (fun k hk=>?_)
   simp only[bt]
   rcases hk with hk|⟨j,_,_,h3,_⟩<;>omega
end Go.aS
end
section
namespace Go.aS
open Go
abbrev sG (α:Type):=FuncId→List W→HS→Nat→(V→HS→Nat→α)→α
abbrev sH (α:Type):=FuncId→List W→HS→Nat→(V→HS→α)→α
section
variable {α:Type} (bad:α) (call:sG α) (dx:sH α)
def HC (v:V) (us:List W) (k:FuncId→List W→α):α:=
 match v with
 | .w (.one (.jY f cZ))=>k f (us++cZ.map fun p=> .one (.ptr p.1 p.2.1 p.2.2.1 p.2.2.2))
 | .w (.one (.kP f true ts))=>k f (.agg (ts.map .t)::us)
 | .w (.one (.kP f false [t]))=>k f (.one (.t t)::us)
 | .w (.one (.t (.val (.func (.func f) first cZ))))=>fW (first.isEmpty&&cZ.isEmpty) (k f us) bad
 |_=>bad
def VZ (P:Program) (o:kr) (tm:Tr) (hp:HS) (ctr:Nat) (K:Tr→HS→Nat→α):α:=
 match o.op with
 | .call f args=>Mc bad (gT tm) args fun us=>call f us hp ctr fun v aF bA=>rY v fun v=>j7 tm o.dst v fun tm=>K tm aF bA
 | .jZ x args=>Mc bad (gT tm) args fun us=>HC bad (gT tm x) us fun f us=>fW (enters P f) (call f us hp ctr fun v aF bA=>rY v fun v=>j7 tm o.dst v fun tm=>K tm aF bA) bad
 | .raw op ty=>EX P bad op ty (gT tm) hp ctr fun v aF=>j7 tm o.dst v fun tm=>ny (ctr+4) fun c=>K tm aF c
 | .append size bytes s x=>match gT tm s with
   | .w (.one (.own id sz 0 len))=>match find hp id with
     |some (.row cV xs)=>gm (jJ hp id (.row cV (xs.take len))) fun hp=>ER bad (.append size bytes s x) (gT tm) hp ctr fun v aF=>j7 tm o.dst v fun tm=>ny (ctr+4) fun c=>K tm aF c
     |_=>bad
   |_=>ER bad (.append size bytes s x) (gT tm) hp ctr fun v aF=>j7 tm o.dst v fun tm=>ny (ctr+4) fun c=>K tm aF c
 | .slice size x lo hi=>match gT tm x with
   | .w (.one (.t (.val (.slice none 0 0))))=>match fA (lo.map (gT tm)) 0,fA (hi.map (gT tm)) 0 with
     |some 0,some 0=>j7 tm o.dst (.w (.one (.t (.val (.slice none 0 0))))) fun tm=>ny (ctr+4) fun c=>K tm hp c
     |_,_=>bad
   |_=>ER bad (.slice size x lo hi) (gT tm) hp ctr fun v aF=>j7 tm o.dst v fun tm=>ny (ctr+4) fun c=>K tm aF c
 |r=>ER bad r (gT tm) hp ctr fun v aF=>j7 tm o.dst v fun tm=>ny (ctr+4) fun c=>K tm aF c
def VY (P:Program) (o:kr) (tm:Tr) (hp:HS) (ctr:Nat) (K:Tr→HS→Nat→α):α:=
 match o.guard with
 |none=>VZ bad call P o tm hp ctr K
 |some (d,want)=>
  match tm.get (key d)with
  |some (.w (.one (.t (.val (.bool b)))))=>fW (b==want) (VZ bad call P o tm hp ctr K) (j7 tm o.dst (.dQ []) fun tm=>K tm hp ctr)
  |some (.dQ [])=>j7 tm o.dst (.dQ []) fun tm=>K tm hp ctr
  |_=>bad
def KR (P:Program):List kr→Tr→HS→Nat→(Tr→HS→Nat→α)→α
 | [],tm,hp,ctr,K=>K tm hp ctr
 |o::r,tm,hp,ctr,K=>VY bad call P o tm hp ctr fun tm hp ctr=>KR P r tm hp ctr K
def KS (P:Program) (o:kr) (tm:Tr) (hp:HS) (ctr:Nat) (K:Tr→HS→Nat→α):α:=
 match o.op with
 | .call f args=>Mc bad (gT tm) args fun us=>dx f us hp ctr fun v aF=>rY v fun v=>j7 tm o.dst v fun tm=>ny (ctr+4) fun c=>K tm aF c
 | .jZ x args=>Mc bad (gT tm) args fun us=>HC bad (gT tm x) us fun f us=>fW (enters P f) (dx f us hp ctr fun v aF=>rY v fun v=>j7 tm o.dst v fun tm=>ny (ctr+4) fun c=>K tm aF c) bad
 | .raw op ty=>match ai P (fun x=>gT tm (dm x)) hp ctr (bare op ty)with
   |some (v,aF)=>rY v fun v=>j7 tm o.dst v fun tm=>ny (ctr+4) fun c=>K tm aF c
   |none=>bad
 |r=>ER bad r (gT tm) hp ctr fun v aF=>j7 tm o.dst v fun tm=>ny (ctr+4) fun c=>K tm aF c
def DO (o:kr) (tm:Tr) (ctr:Nat):gO:=
 let rd:=if o.op.looks then o.op.ii.flatMap fun x=>(gT tm x).ids else []
 ⟨o.dst,o.op.ii.filterMap R4++(o.guard.map (·.1)).toList,rd,four ctr++if o.op.UD then rd else []⟩
def OB (P:Program) (o:kr) (tm:Tr) (hp:HS) (ctr:Nat) (K:Tr→HS→Nat→α):α:=
 match o.guard with
 |none=>KS bad dx P o tm hp ctr K
 |some (d,want)=>
  match tm.get (key d)with
  |some (.w (.one (.t (.val (.bool b)))))=>fW (b==want) (KS bad dx P o tm hp ctr K) (j7 tm o.dst (.dQ []) fun tm=>ny (ctr+4) fun c=>K tm hp c)
  |some (.dQ [])=>j7 tm o.dst (.dQ []) fun tm=>ny (ctr+4) fun c=>K tm hp c
  |_=>bad
def BO (P:Program):List kr→List gO→Tr→HS→Nat→(List gO→Tr→HS→Nat→α)→α
 | [],fs,tm,hp,ctr,K=>K fs tm hp ctr
 |o::r,fs,tm,hp,ctr,K=>OB bad dx P o tm hp ctr fun bf aF bA=>BO P r (fs++[DO o tm ctr]) bf aF bA K
def AM (bits:List Nat) (N j:Nat):Bool:=
 (List.range j).all (fun i=>(bits.getD j 0).testBit i)&& (List.range (N - (j+1))).all (fun d=>(bits.getD (j+1+d) 0).testBit j)
def cc (bits:List Nat) (N:Nat):Nat→List kr→List kr×List kr
 |_,[]=>([],[])
 |j,o::r=>fW (AM bits N j) ([],o::r) (o::(cc bits N (j+1) r).1,(cc bits N (j+1) r).2)
def DC (bits:List Nat) (lo m N:Nat):Bool:=
 (List.range (N - (lo+m))).all fun d=>(List.range m).all fun i=>(bits.getD (lo+m+d) 0).testBit (lo+i)
def we (P:Program) (bits:List Nat) (N:Nat):Nat→Nat→List kr→Tr→HS→Nat→(Tr→HS→Nat→α)→α
 |0,_,_,_,_,_,_=>bad
 |f+1,lo,ops,tm,hp,ctr,K=>
  BO bad dx P (cc bits N lo ops).1 [] tm hp ctr fun fs tm hp ctr=>
   fW (Dt bits lo fs&&DC bits lo (cc bits N lo ops).1.length N)
    (match(cc bits N lo ops).2 with
    | []=>K tm hp ctr
    |o::r=>VY bad call P o tm hp ctr fun tm hp ctr=>we P bits N f (lo+(cc bits N lo ops).1.length+1) r tm hp ctr K) bad
def HH (K:Tr→HS→Nat→α) (Q:Exit→Tr→HS→Nat→α):Exit→Tr→HS→Nat→α
 | .normal=>K
 |e=>Q e
def HW (id:Nat) (Q:Exit→Tr→HS→Nat→α):Exit→Tr→HS→Nat→α
 | .exit id'=>fW (Nat.beq id' id) (Q .normal) (Q (.exit id'))
 |e=>Q e
def Bo (body:(Tr→HS→Nat→α)→Tr→HS→Nat→α):Nat→Tr→HS→Nat→α
 |0=>fun _ _ _=>bad
 |n+1=>body (Bo body n)
def E (P:Program) (fuel:Nat):Rc→(Exit→Tr→HS→Nat→α)→Tr→HS→Nat→α
 | .skip,Q,tm,hp,ctr=>Q .normal tm hp ctr
 | .ret,Q,tm,hp,ctr=>Q .ret tm hp ctr
 | .exit id,Q,tm,hp,ctr=>Q (.exit id) tm hp ctr
 | .seq a b,Q,tm,hp,ctr=>E P fuel a (HH (E P fuel b Q) Q) tm hp ctr
 | .cond c a b,Q,tm,hp,ctr=>
   match(gT tm c).gk with
   |some v=>fW v (E P fuel a Q tm hp ctr) (E P fuel b Q tm hp ctr)
   |none=>bad
 | .block id b,Q,tm,hp,ctr=>E P fuel b (HW id Q) tm hp ctr
 | .loop b,Q,tm,hp,ctr=>Bo bad (fun self=>E P fuel b (HH self Q)) fuel tm hp ctr
 | .region ops,Q,tm,hp,ctr=>KR bad call P ops tm hp ctr (Q .normal)
 | .draw ops es,Q,tm,hp,ctr=>we bad call dx P (ko es []) ops.length (ops.length+1) 0 ops tm hp ctr (Q .normal)
end
def fu (n:Nat):Rc→Bool
 | .seq a b=>fu n a&&fu n b
 | .cond _ a b=>fu n a&&fu n b
 | .block _ b=>fu n b
 | .loop b=>fu n b
 | .region ops=>ops.all fun o=>gj n o.dst
 | .draw ops _=>ops.all fun o=>gj n o.dst
 |_=>true
variable {P:Program} {M A:Nat→Prop} {ρ:Env} {F:Nat→Prop} {st:St} {a:Act} {w:World}
def At (M A:Nat→Prop) (ρ:Env) (w:World) (n:Nat) (tm:Tr) (hp:HS) (ctr:Nat) (a':Act) (w':World):Prop:=
 ∃L A' ρ',eD tm L∧Rel M A' ρ' (bt ctr) ⟨n,L,hp⟩ a' w'∧df M w w'∧cU ρ ρ'∧bE A A' w
theorem At.trans {A1:Nat→Prop} {ρ1:Env} {w1 w':World} {n:Nat} {tm:Tr} {hp:HS} {ctr:Nat} {a':Act} (h:At M A1 ρ1 w1 n tm hp ctr a' w') (dJ:df M w w1) (cF:cU ρ ρ1) (hg:bE A A1 w):At M A ρ w n tm hp ctr a' w':=by
 obtain⟨L,A',ρ',h1,h2,h3,h4,h5⟩:=h
 exact⟨L,A',ρ',h1,h2,dJ.trans h3,cF.trans h4,hg.trans h5 dJ.size⟩
theorem At.here {n:Nat} {L:TS} {tm:Tr} {hp:HS} {ctr:Nat} (ht:eD tm L) (h:Rel M A ρ (bt ctr) ⟨n,L,hp⟩ a w):At M A ρ w n tm hp ctr a w:=
 ⟨L,A,ρ,ht,h,df.refl _ _,cU.refl _,bE.refl _ _⟩
def O7 (P:Program) (n:Nat) (c:Code) (tm:Tr) (hp:HS) (ctr:Nat) (e:Exit) (bf:Tr) (aF:HS) (bA:Nat):Prop:=
 ∀ (M A:Nat→Prop) (ρ:Env) (a:Act) (w:World) (L:TS),eD tm L→Rel M A ρ (bt ctr) ⟨n,L,hp⟩ a w→
  c.wp P (fun e2 a' w'=>e2=e∧At M A ρ w n bf aF bA a' w') a w
def nn (P:Program) (call:sG Bool):Prop:= ∀f us hp ctr K,call f us hp ctr K=true→ ∃v aF bA,fN P f us hp ctr v aF bA∧K v aF bA=true
def j4 (P:Program) (dx:sH Bool):Prop:= ∀f us hp ctr K,dx f us hp ctr K=true→ ∃v aF,eu P hp ctr f us v aF∧K v aF=true
def gM (ops:Array Oper) (o:Oper) (g:Option (Nat×Bool)):Prop:=
 (o.guard=none∧g=none)∨ ∃j want d,o.guard=some (j,want)∧(ops[j]?).bind (·.dst)=some d∧g=some (d,want)
def vV (P:Program) (n:Nat) (ops:Array Oper) (i:Nat) (tm:Tr) (hp:HS) (ctr:Nat) (bf:Tr) (aF:HS) (bA:Nat):Prop:=
 ∀ (M A:Nat→Prop) (ρ:Env) (a:Act) (w:World) (L:TS) (Q:Exit→Act→World→Prop) (K':Act→World→Prop),eD tm L→Rel M A ρ (bt ctr) ⟨n,L,hp⟩ a w→
  (∀a' w',At M A ρ w n bf aF bA a' w'→K' a' w')→wpOp P ops Q i K' a w
def qh (P:Program) (n:Nat) (ops:Array Oper) (o:Oper) (tm:Tr) (hp:HS) (ctr:Nat) (v:V) (aF:HS):Prop:=
 ∀L,eD tm L→fg P ops o n L hp ctr v aF
theorem qh.run {n:Nat} {ops:Array Oper} {o:Oper} {i:Nat} {tm:Tr} {hp aF:HS} {ctr:Nat} {v:V} (hi:ops[i]? =some o) (h:qh P n ops o tm hp ctr v aF):
 vV P n ops i tm hp ctr (uc tm o.dst v) aF (ctr+4):=by
 intro M A ρ a w L Q K' hL hr hk
 refine fg.sound hi (h L hL) hr (fun k h1 _=>h1) ?_
 intro a' w' A' ρ' r1 r2 r3 r4
 exact hk a' w' ⟨_,A',ρ',hL.put o.dst v,r1.sub gv,r2,r3,r4⟩
theorem tV {n:Nat} {ops:Array Oper} {o:Oper} {g:Option (Nat×Bool)} {tm:Tr} {hp:HS} {ctr:Nat} (hd:gj n o.dst=true) (hgd:gM ops o g)
 (hg: ∃d want,g=some (d,want)∧((∃b,tm.get (key d)=some (bV b)∧(b==want)=false)∨tm.get (key d)=some (.dQ []))):qh P n ops o tm hp ctr (.dQ []) hp:=by
 intro L hL
 obtain⟨d,want,rfl,hg⟩:=hg
 rcases hgd with⟨_,h⟩|⟨j,want',d',h1,h2,h3⟩
 · simp at h
 · simp only[Option.some.injEq,Prod.mk.injEq]at h3
   obtain⟨rfl,rfl⟩:=h3
   refine⟨hd,?_⟩
   rcases hg with⟨b,hb,hne⟩|hb
   · rw[←hL d]at hb
     simp only[aW,h1,h2,hb,hne]
     exact⟨trivial,trivial⟩
   · rw[←hL d]at hb
     simp only[aW,h1,h2,hb]
     exact⟨trivial,trivial⟩
theorem guard_true {ops:Array Oper} {o:Oper} {g:Option (Nat×Bool)} {tm:Tr} {L:TS} (hL:eD tm L) (hgd:gM ops o g)
 (hg:g=none∨ ∃d want b,g=some (d,want)∧tm.get (key d)=some (bV b)∧(b==want)=true):aW ops o L=some true:=by
 rcases hgd with⟨h0,rfl⟩|⟨j,want,d,h1,h2,rfl⟩
 · simp[aW,h0]
 · rcases hg with h|⟨d',want',b,h3,h4,h5⟩
   · simp at h
   · simp only[Option.some.injEq,Prod.mk.injEq]at h3
     obtain⟨rfl,rfl⟩:=h3
     rw[←hL d]at h4
     simp only[aW,h1,h2,h4,h5]
theorem Ec {n:Nat} {ops:Array Oper} {o:Oper} {x:Ro} {g:Option (Nat×Bool)} {tm:Tr} {hp:HS} {ctr:Nat} {K:V→HS→Bool} (hx:aY P o=some x) (hd:gj n o.dst=true)
 (hgd:gM ops o g) (hg:g=none∨ ∃d want b,g=some (d,want)∧tm.get (key d)=some (bV b)∧(b==want)=true)
 (hE: ∃L,eD tm L) (h:ER false x (gT tm) hp ctr K=true): ∃v aF,qh P n ops o tm hp ctr v aF∧K v aF=true:=by
 obtain⟨L0,vf⟩:=hE
 rw[kL vf]at h
 obtain⟨h1,v,aF,h2,h3⟩:=vU (st:=⟨n,L0,hp⟩) hx (Uq h)
 refine⟨v,aF,fun L hL=>⟨hd,?_⟩,h3⟩
 rw[guard_true hL hgd hg]
 have Cx: ∀y,St.get ⟨n,L,hp⟩ y=St.get ⟨n,L0,hp⟩ y:=by
  intro y
  cases y with
  |tmp t=>simp only[St.get];rw[hL t,vf t]
  |_=>rfl
 have c1:bK (St.get ⟨n,L,hp⟩) o=none:=by rw[qa (get':=St.get ⟨n,L0,hp⟩) (fun y _=>Cx y)];exact h1
 simp only[c1]
 rw[pU (get':=St.get ⟨n,L0,hp⟩) (fun y _=>Cx y)]
 exact h2
def Tr.toL:Tr→(Pn→Pn)→List (Nat×V)
 | .nil,_=>[]
 | .node v l r,f=>(match v with|some x=>[((f .e).dec,x)]|none=>[])++l.toL (fun p=>f (.o p))++r.toL (fun p=>f (.i p))
theorem pY: ∀ {p q:Pn},p.dec=q.dec→p=q
 | .e, .e,_=>rfl
 | .e, .o _,h=>by simp[Pn.dec]at h
 | .e, .i _,h=>by simp[Pn.dec]at h
 | .o _, .e,h=>by simp[Pn.dec]at h
 | .i _, .e,h=>by simp[Pn.dec]at h
 | .o p, .o q,h=>by simp only[Pn.dec]at h;rw[pY (p:=p) (q:=q) (by omega)]
 | .i p, .i q,h=>by simp only[Pn.dec]at h;rw[pY (p:=p) (q:=q) (by omega)]
 | .o p, .i q,h=>by simp only[Pn.dec]at h;omega
 | .i p, .o q,h=>by simp only[Pn.dec]at h;omega
theorem jb {β:Type}: ∀ {l:List (Nat×β)} {t:Nat},(∀p,p∈l→p.1≠t)→find l t=none
 | [],t,_=>rfl
 |(k,v)::r,t,h=>by
  rw[aq,if_neg (h (k,v) (by simp))]
  exact jb fun p hp=>h p (by simp[hp])
theorem toL_keys: ∀ (tr:Tr) (f:Pn→Pn) (p:Nat×V),p∈tr.toL f→ ∃q,p.1=(f q).dec
 | .nil,f,p,h=>by simp[Tr.toL]at h
 | .node v l r,f,p,h=>by
   simp only[Tr.toL,List.mem_append]at h
   rcases h with(h|h)|h
   · cases v with
     |none=>simp at h
     |some x=>simp only[List.mem_singleton]at h;subst h;exact⟨.e,rfl⟩
   · obtain⟨q,hq⟩:=toL_keys l _ p h;exact⟨.o q,hq⟩
   · obtain⟨q,hq⟩:=toL_keys r _ p h;exact⟨.i q,hq⟩
theorem vu: ∀ (tr:Tr) (f:Pn→Pn) (hf: ∀p q,f p=f q→p=q) (q:Pn),find (tr.toL f) (f q).dec=tr.get q
 | .nil,f,hf,q=>by rw[Tr.tD];rfl
 | .node v l r,f,hf,q=>by
   have hl:=vu l (fun p=>f (.o p)) (fun p q h=>by have:=hf _ _ h;simpa using this)
   have hr:=vu r (fun p=>f (.i p)) (fun p q h=>by have:=hf _ _ h;simpa using this)
   have nl: ∀q,(∀q',Pn.o q'≠q)→find (l.toL fun p=>f (.o p)) (f q).dec=none:=by
    intro q hq
    refine jb fun p hp he=>?_
    obtain⟨q',DJ⟩:=toL_keys l _ p hp
    rw[DJ]at he
    exact hq q' (hf _ _ (pY he))
   have nr: ∀q,(∀q',Pn.i q'≠q)→find (r.toL fun p=>f (.i p)) (f q).dec=none:=by
    intro q hq
    refine jb fun p hp he=>?_
    obtain⟨q',DJ⟩:=toL_keys r _ p hp
    rw[DJ]at he
    exact hq q' (hf _ _ (pY he))
   have nv: ∀q,q≠ .e→find (match v with|some x=>[((f .e).dec,x)]|none=>[]) (f q).dec=none:=by
    intro q hq
    refine jb fun p hp he=>?_
    cases v with
    |none=>simp at hp
    |some x=>
     simp only[List.mem_singleton]at hp
     subst hp
     exact hq (hf _ _ (pY he)).symm
   simp only[Tr.toL,cM]
   cases q with
   |e=>
    rw[nl .e (by simp),nr .e (by simp)]
    cases v with
    |none=>simp[find,Tr.get]
    |some x=>simp[find,Tr.get]
   |o q=>
    rw[nv (.o q) (by simp),nr (.o q) (by simp),hl q]
    simp[Tr.get]
   |i q=>
    rw[nv (.i q) (by simp),nl (.i q) (by simp),hr q]
    simp[Tr.get]
theorem Di (tr:Tr): ∃L,eD tr L:=by
 refine⟨tr.toL id,fun t=>?_⟩
 have h1:t=(id (key t)).dec:=by
  simp only[id]
  unfold key
  exact(pO t t (Nat.le_refl _)).symm
 have h2:=vu tr id (fun _ _ h=>h) (key t)
 rw[←h1]at h2
 exact h2
variable {call:sG Bool} {dx:sH Bool}
theorem uh {o:Oper} {size:Nat} {x:dO} {lo hi:Option dO} (h:aI P o=some (.slice size x lo hi)):
 ∃t x' lo' hi' e,o.op= .slice t x' lo' hi' none∧P.underlying t=some (.slice e)∧cG P e=some size∧x=dm x'∧lo=lo'.map dm∧hi=hi'.map dm:=by
 obtain⟨dst,op,ty,pos,after,guard⟩:=o
 cases op
 case slice t x' lo' hi' mx=>
  cases mx with
  |some m=>simp[aI]at h
  |none=>
   simp only[aI]at h
   split at h
   · rename_i e hu
     simp only[Option.map_eq_some_iff,Ro.slice.injEq]at h
     obtain⟨s,hs,rfl,rfl,rfl,rfl⟩:=h
     exact⟨t,x',lo',hi',e,rfl,hu,hs,rfl,rfl,rfl⟩
   · simp at h
 all_goals
  exfalso
  simp only[aI]at h
  repeat' split at h
  all_goals first|(simp at h;done)|simp_all
theorem wo {o:Oper} {size:Nat} {x:dO} {lo hi:Option dO} (h:aY P o=some (.slice size x lo hi)):
 ∃t x' lo' hi' e,o.op= .slice t x' lo' hi' none∧P.underlying t=some (.slice e)∧cG P e=some size∧x=dm x'∧lo=lo'.map dm∧hi=hi'.map dm:=by
 unfold aY at h
 split at h
 · rename_i r hr
   replace hr:=dG hr
   simp only[Option.some.injEq]at h
   subst h
   exact uh hr
 · simp only[Option.some.injEq]at h
   rcases kz o with⟨t,ff,ia,ho,e⟩|e
   · rw[e]at h;simp at h
   · rw[e]at h;simp at h
theorem Bk {get:Operand→V} {o:Oper} {p:FuncId×List W} {hp:HS} {nid:Nat} {r:V×HS} (hc:bK get o=some p) (he:ai P get hp nid o=some r):False:=by
 obtain⟨dst,op,ty,pos,after,guard⟩:=o
 unfold bK at hc
 simp only at hc
 split at hc
 · simp[ai]at he
 · simp at hc
theorem Ib {tm:Tr} {L:TS} {n:Nat} {hp:HS} (hL:eD tm L) (hr:Rel M A ρ F ⟨n,L,hp⟩ a w) {lo:Option Operand} (h:fA ((lo.map dm).map (gT tm)) 0=some 0):lo.map a.eval=none∨ ∃k,lo.map a.eval=some (.int k 0):=by
 cases lo with
 |none=>exact .inl rfl
 |some x=>
  right
  simp only[Option.map_some,fA]at h
  split at h
  · rename_i k m hm
    split at h
    · rename_i h0
      simp only[Option.some.injEq]at h
      have:m=0:=by omega
      subst this
      exact⟨k,by rw[Option.map_some,V.iu hm (RV.at hL hr x)]⟩
    · simp at h
  · simp at h
theorem yX {n:Nat} {o:Oper} {size:Nat} {x:dO} {lo hi:Option dO} {tm:Tr} {hp:HS} {ctr:Nat} (hx:aY P o=some (.slice size x lo hi)) (hy:gT tm x= .w (.one (.t (.val (.slice none 0 0)))))
 (hlo:fA (lo.map (gT tm)) 0=some 0) (hhi:fA (hi.map (gT tm)) 0=some 0):CX P n o tm hp ctr (.w (.one (.t (.val (.slice none 0 0))))) hp:=by
 obtain⟨t,x',lo',hi',e,ho,hu,hs,rfl,rfl,rfl⟩:=wo hx
 intro M A ρ a w L hL hr
 have vx:=RV.at hL hr x'
 rw[hy]at vx
 have hv:a.eval x'= .slice none 0 0:=V.bn (v:= .slice none 0 0) rfl vx
 have hrun:(execOp a.eval o).run P w= .ok (.value (.slice none 0 0)) w:=by
  rw[←sk,ho]
  rcases Ib hL hr hlo with h1|⟨k1,h1⟩<;>rcases Ib hL hr hhi with h2|⟨k2,h2⟩<;>
   simp[execOp,Instr.sliceAt,Instr.slice,hv,h1,h2,run_underlying hu,Instr.sliceBounds,Instr.sliceBound,asIntOf,run_sizeOf hs]
 exact⟨_,w,A,ρ, .inl hrun,hr.sub cK,RV.ofValue w A ρ (.slice none 0 0),df.refl _ _,cU.refl _,bE.refl _ _⟩
theorem vK {n:Nat} {ops:Array Oper} {o:Oper} {i:Nat} {f:FuncId} {g:Option (Nat×Bool)} {tm:Tr} {hp aF:HS} {ctr bA:Nat} {us:List W} {v:V}
 (hi:ops[i]? =some o) (mP:enters P f=true) (hd:gj n o.dst=true) (hgd:gM ops o g) (hg:g=none∨ ∃d want b,g=some (d,want)∧tm.get (key d)=some (bV b)∧(b==want)=true)
 (wJ: ∀L,eD tm L→bK (St.get ⟨n,L,hp⟩) o=some (f,us)) (hc:fN P f us hp ctr v aF bA):vV P n ops i tm hp ctr (uc tm o.dst v) aF bA:=by
 intro M A ρ a w L Q K' hL hr hk
 have hgt:=guard_true hL hgd hg
 have G5:=cW hr hgt
 obtain⟨xs,hxs,hxr⟩:=lM (P:=P) hr (wJ L hL) mP
 unfold wpOp
 simp only[hi,G5,if_true]
 refine .inl ?_
 simp only[Oper.wp,hxs,Oper.upon]
 refine(hc M A ρ a w n L xs hr hxr).mono ?_
 rintro e w' ⟨x,A',ρ',rfl,r1,r2,r3,r4,r5⟩
 refine hk _ _ ⟨_,A',ρ',hL.put o.dst v,?_,r3,r4,r5⟩
 have:=r1.put (dst:=o.dst) r2 (jA hd)
 rw[kA]at this
 exact this
theorem Du {n:Nat} {ops:Array Oper} {o:Oper} {i:Nat} {g:Option (Nat×Bool)} {tm:Tr} {hp aF:HS} {ctr:Nat} {v:V}
 (hi:ops[i]? =some o) (hd:gj n o.dst=true) (hgd:gM ops o g) (hg:g=none∨ ∃d want b,g=some (d,want)∧tm.get (key d)=some (bV b)∧(b==want)=true)
 (h:CX P n o tm hp ctr v aF):vV P n ops i tm hp ctr (uc tm o.dst v) aF (ctr+4):=by
 intro M A ρ a w L Q K' hL hr hk
 have hgt:=guard_true hL hgd hg
 have G5:=cW hr hgt
 obtain⟨x,w',A',ρ',hrun,r1,r2,r3,r4,r5⟩:=h M A ρ a w L hL hr
 unfold wpOp
 simp only[hi,G5,if_true]
 refine .inl ?_
 have fin: ∀ {y:Value},RV w' A' ρ' v y→Rel M A' ρ' (bt (ctr+4)) ⟨n,eL L o.dst v,aF⟩ (a.put o.dst y) w':=by
  intro y hy
  have:=r1.put (dst:=o.dst) hy (jA hd)
  rw[kA]at this
  exact this
 rcases hrun with hrun|⟨hrun,rfl⟩
 · simp only[Oper.wp,hrun,Oper.upon]
   exact hk _ _ ⟨_,A',ρ',hL.put o.dst v,fin r2,r3,r4,r5⟩
 · simp only[Oper.wp,hrun,Oper.upon]
   exact hk _ _ ⟨_,A',ρ',hL.put o.dst v,fin r2,r3,r4,r5⟩
theorem Ad {tm:Tr} {L L0:TS} (hL:eD tm L) (vf:eD tm L0) (l:List dO):De L l=De L0 l:=by
 have:(fun x=>dO.get L x)=fun x=>dO.get L0 x:=by rw[←kL hL, ←kL vf]
 induction l with
 |nil=>rfl
 |cons y r ih=>simp only[De,ih,congrFun this y]
theorem sB {n:Nat} {o:Oper} {f:FuncId} {args:List dO} {tm:Tr} {L0:TS} {hp:HS} {us:List W} (hx:aY P o=some (.call f args)) (vf:eD tm L0) (fR:De L0 args=some us):
 enters P f=true∧ ∀L,eD tm L→bK (St.get ⟨n,L,hp⟩) o=some (f,us):=by
 obtain⟨ff,ia,ho,rfl,mP⟩:=lq hx
 refine⟨mP,fun L hL=>?_⟩
 have UM:ot (St.get ⟨n,L,hp⟩) ff.toList=some us:=by rw[←oq, ←fR];exact Ad hL vf _
 unfold bK
 rw[ho]
 simp only[St.get,V.ofValue,UM]
 rfl
theorem CD {v:V} {us:List W} {k:FuncId→List W→Bool} (h:HC false v us k=true): ∃f fh,k f fh=true∧
 ∀ {get:Operand→V} {o:Oper} {t:Nat} {args:Array Operand} {ia:Array TypeId},o.op= .call ⟨.value (.tmp t),args,ia⟩→get (.tmp t)=v→ot get args.toList=some us→bK get o=some (f,fh):=by
 unfold HC at h
 split at h
 · exact⟨_,_,h,fun ho hv fR=>by unfold bK;rw[ho];simp only[hv,fR]⟩
 · exact⟨_,_,h,fun ho hv fR=>by unfold bK;rw[ho];simp only[hv,fR,mD,Option.map_some]⟩
 · exact⟨_,_,h,fun ho hv fR=>by unfold bK;rw[ho];simp only[hv,fR,mD,Option.map_some]⟩
 · obtain⟨hc,h⟩:=bp h
   exact⟨_,_,h,fun ho hv fR=>by unfold bK;rw[ho];simp only[hv,fR,hc,if_true]⟩
 · simp at h
theorem qb {n:Nat} {o:Oper} {x:dO} {args:List dO} {tm:Tr} {L0:TS} {hp:HS} {us:List W} {k:FuncId→List W→Bool} (hx:aY P o=some (.jZ x args)) (vf:eD tm L0) (fR:De L0 args=some us)
 (h:HC false (gT tm x) us k=true): ∃f fh,k f fh=true∧ ∀L,eD tm L→bK (St.get ⟨n,L,hp⟩) o=some (f,fh):=by
 obtain⟨t,ff,ia,ho,rfl,rfl⟩:=j6 hx
 obtain⟨f,fh,h1,h2⟩:=CD h
 refine⟨f,fh,h1,fun L hL=>h2 ho ?_ ?_⟩
 · rw[kL hL]
   exact(bh ⟨n,L,hp⟩ (.tmp t)).symm
 · rw[←oq, ←fR];exact Ad hL vf _
theorem yh (gY:nn P call) {n:Nat} {ops:Array Oper} {o:Oper} {i:Nat} {x:Ro} {g:Option (Nat×Bool)} {tm:Tr} {hp:HS} {ctr:Nat} {K:Tr→HS→Nat→Bool}
 (hi:ops[i]? =some o) (hx:aY P o=some x) (hd:gj n o.dst=true) (hgd:gM ops o g) (hg:g=none∨ ∃d want b,g=some (d,want)∧tm.get (key d)=some (bV b)∧(b==want)=true)
 (h:VZ false call P ⟨o.dst,g,x⟩ tm hp ctr K=true): ∃bf aF bA,vV P n ops i tm hp ctr bf aF bA∧K bf aF bA=true:=by
 obtain⟨L0,vf⟩:=Di tm
 have plain: ∀ {hp:HS},ER false x (gT tm) hp ctr (fun v aF=>j7 tm o.dst v fun tm=>ny (ctr+4) fun c=>K tm aF c)=true→ ∃bf aF bA,vV P n ops i tm hp ctr bf aF bA∧K bf aF bA=true:=by
  intro hp h
  obtain⟨v,aF,hs,hK⟩:=Ec hx hd hgd hg ⟨L0,vf⟩ h
  rw[gD,dD]at hK
  exact⟨_,_,_,hs.run hi,hK⟩
 unfold VZ at h
 split at h
 · rename_i f args kI
   simp only at kI
   subst kI
   rw[kL vf]at h
   obtain⟨us,fR,h⟩:=tL h
   obtain⟨v,aF,bA,hc,h⟩:=gY _ _ _ _ _ h
   rw[dN,gD]at h
   obtain⟨mP,wJ⟩:=sB (n:=n) (hp:=hp) hx vf fR
   exact⟨_,_,_,vK hi mP hd hgd hg wJ hc,h⟩
 · rename_i y args kI
   simp only at kI
   subst kI
   have h':=h
   rw[kL vf]at h'
   obtain⟨us,fR,h'⟩:=tL h'
   rw[←kL vf]at h'
   obtain⟨f,fh,h1,wJ⟩:=qb (n:=n) (hp:=hp) hx vf fR h'
   obtain⟨mP,h1⟩:=bp h1
   obtain⟨v,aF,bA,hc,h1⟩:=gY _ _ _ _ _ h1
   rw[dN,gD]at h1
   exact⟨_,_,_,vK hi mP hd hgd hg wJ hc,h1⟩
 · rename_i op ty kI
   simp only at kI
   subst kI
   obtain⟨rfl,rfl⟩:=jL hx
   obtain⟨v,aF,h1,h2⟩:=Iu (n:=n) h
   rw[gD,dD]at h2
   exact⟨_,_,_,Du hi hd hgd hg h1,h2⟩
 · rename_i size bytes s y kI
   simp only at kI
   subst kI
   split at h
   · rename_i id sz len hs
     split at h
     · rename_i cV xs hf
       rw[cu]at h
       obtain⟨bf,aF,bA,h1,h2⟩:=plain h
       refine⟨bf,aF,bA,?_,h2⟩
       intro M A ρ a w L Q K' hL hr hk
       exact h1 M A ρ a w L Q K' hL (Rel.Rx (st:=⟨n,L,hp⟩) hr hf len) hk
     · simp at h
   · exact plain h
 · rename_i size y lo hi' kI
   simp only at kI
   subst kI
   split at h
   · rename_i hy
     split at h
     · rename_i hlo hhi
       rw[gD,dD]at h
       refine⟨_,_,_,Du hi hd hgd hg ?_,h⟩
       exact yX hx hy hlo hhi
     · simp at h
   · exact plain h
 · exact plain h
theorem yg (gY:nn P call) {n:Nat} {ops:Array Oper} {o:Oper} {i:Nat} {x:Ro} {g:Option (Nat×Bool)} {tm:Tr} {hp:HS} {ctr:Nat} {K:Tr→HS→Nat→Bool}
 (hi:ops[i]? =some o) (hx:aY P o=some x) (hd:gj n o.dst=true) (hgd:gM ops o g)
 (h:VY false call P ⟨o.dst,g,x⟩ tm hp ctr K=true): ∃bf aF bA,vV P n ops i tm hp ctr bf aF bA∧K bf aF bA=true:=by
 unfold VY at h
 have skip:(∃d want,g=some (d,want)∧((∃b,tm.get (key d)=some (bV b)∧(b==want)=false)∨tm.get (key d)=some (.dQ [])))→(j7 tm o.dst (.dQ []) fun tm=>K tm hp ctr)=true→
  ∃bf aF bA,vV P n ops i tm hp ctr bf aF bA∧K bf aF bA=true:=by
  intro hg h
  rw[gD]at h
  have hs:qh P n ops o tm hp ctr (.dQ []) hp:=tV hd hgd hg
  refine⟨_,_,_,?_,h⟩
  intro M A ρ a w L Q K' hL hr hk
  have hst:=hs L hL
  unfold wpOp
  simp only[hi]
  obtain⟨d,want,rfl,Yq⟩:=hg
  have hgf:aW ops o L=some false:=by
   rcases hgd with⟨_,h0⟩|⟨j,want',d',h1,h2,h3⟩
   · simp at h0
   · simp only[Option.some.injEq,Prod.mk.injEq]at h3
     obtain⟨rfl,rfl⟩:=h3
     rcases Yq with⟨b,hb,hne⟩|hb
     · rw[←hL d]at hb
       simp only[aW,h1,h2,hb,hne]
     · rw[←hL d]at hb
       simp only[aW,h1,h2,hb]
  have:=cW hr hgf
  simp only[this,Bool.false_eq_true,if_false]
  refine hk _ _ ⟨_,A,ρ,hL.put o.dst (.dQ []),?_,df.refl _ _,cU.refl _,bE.refl _ _⟩
  have:=hr.put (dst:=o.dst) qt (jA hd)
  rw[kA]at this
  exact this
 split at h
 · rename_i Ti
   simp only at Ti
   exact yh gY hi hx hd hgd (.inl Ti) h
 · rename_i d want JT
   simp only at JT
   split at h
   · rename_i b hb
     cases JX:(b==want)with
     |true=>
      rw[JX]at h
      exact yh gY hi hx hd hgd (.inr ⟨d,want,b,JT,hb,JX⟩) h
     |false=>
      rw[JX]at h
      exact skip ⟨d,want,JT, .inl ⟨b,hb,JX⟩⟩ h
   · rename_i hb
     exact skip ⟨d,want,JT, .inr hb⟩ h
   · simp at h
theorem jw {ops:Array Oper} {o:Oper} {x:Ro} {l' rs:List kr}
 (eA:(match o.guard with
   |none=>some (⟨o.dst,none,x⟩::l')
   |some (j,want)=>
    match(ops[j]?).bind (·.dst)with
    |some d=>some (⟨o.dst,some (d,want),x⟩::l')
    |none=>none)=some rs): ∃g,rs=⟨o.dst,g,x⟩::l'∧gM ops o g:=by
 split at eA
 · rename_i hg
   simp only[Option.some.injEq]at eA
   exact⟨_,eA.symm, .inl ⟨hg,rfl⟩⟩
 · rename_i j want hg
   split at eA
   · rename_i d hd
     simp only[Option.some.injEq]at eA
     exact⟨_,eA.symm, .inr ⟨j,want,d,hg,hd,rfl⟩⟩
   · simp at eA
theorem vZ (gY:nn P call) {n:Nat} {ops:Array Oper}: ∀ {l:List Oper} {rs:List kr} {k:Nat} {tm:Tr} {hp:HS} {ctr:Nat} {K:Tr→HS→Nat→Bool},
 (∀j,ops[k+j]? =l[j]?)→aT P ops l=some rs→(rs.all fun o=>gj n o.dst)=true→KR false call P rs tm hp ctr K=true→
 ∃bf aF bA,K bf aF bA=true∧ ∀ (M A:Nat→Prop) (ρ:Env) (a:Act) (w:World) (L:TS) (Q:Exit→Act→World→Prop),eD tm L→Rel M A ρ (bt ctr) ⟨n,L,hp⟩ a w→
  (∀a' w',At M A ρ w n bf aF bA a' w'→Q .normal a' w')→wpOps P ops Q (List.range' k l.length) a w
 | [],rs,k,tm,hp,ctr,K,hl,eA,hd,h=>by
   simp only[aT,Option.some.injEq]at eA
   subst eA
   refine⟨tm,hp,ctr,h,fun M A ρ a w L Q hL hr hq=>?_⟩
   exact hq _ _ (At.here hL hr)
 |o::l,rs,k,tm,hp,ctr,K,hl,eA,hd,h=>by
  simp only[aT]at eA
  split at eA
  · rename_i x l' hx hl'
    have hi:ops[k]? =some o:=by simpa using hl 0
    obtain⟨g,rfl,hgd⟩:=jw eA
    simp only[List.all_cons,Bool.and_eq_true]at hd
    simp only[KR]at h
    obtain⟨nF,hp1,c1,h1,h2⟩:=yg (n:=n) gY hi hx hd.1 hgd h
    obtain⟨tm2,hp2,c2,h3,h4⟩:=vZ gY (k:=k+1) (fun j=>by have:=hl (j+1);rw[show k+1+j=k+(j+1) by omega,this];simp) hl' hd.2 h2
    refine⟨tm2,hp2,c2,h3,fun M A ρ a w L Q hL hr hq=>?_⟩
    rw[List.length_cons,List.range'_succ,wpOps_cons]
    refine h1 M A ρ a w L Q _ hL hr fun a' w' sX=>?_
    obtain⟨L1,A1,ρ1,q1,q2,q3,q4,q5⟩:=sX
    exact h4 M A1 ρ1 a' w' L1 Q q1 q2 fun a2 w2 Nt=>hq _ _ (Nt.trans q3 q4 q5)
  · simp at eA
theorem HA {tm:Tr} {L:TS} (hL:eD tm L) (o:kr) (ctr:Nat):DO o tm ctr=dF o L ctr:=by
 unfold DO dF
 rw[kL hL]
theorem wc (iM:j4 P dx) {n:Nat} {ops:Array Oper} {o:Oper} {x:Ro} {g:Option (Nat×Bool)} {tm:Tr} {hp:HS} {ctr:Nat} {K:Tr→HS→Nat→Bool}
 (hx:aY P o=some x) (hd:gj n o.dst=true) (hgd:gM ops o g) (hg:g=none∨ ∃d want b,g=some (d,want)∧tm.get (key d)=some (bV b)∧(b==want)=true)
 (h:KS false dx P ⟨o.dst,g,x⟩ tm hp ctr K=true): ∃v aF,qh P n ops o tm hp ctr v aF∧K (uc tm o.dst v) aF (ctr+4)=true:=by
 obtain⟨L0,vf⟩:=Di tm
 unfold KS at h
 split at h
 · rename_i f args kI
   simp only at kI
   subst kI
   rw[kL vf]at h
   obtain⟨us,fR,h⟩:=tL h
   obtain⟨v,aF,hc,h⟩:=iM _ _ _ _ _ h
   rw[dN,gD,dD]at h
   obtain⟨mP,wJ⟩:=sB (n:=n) (hp:=hp) hx vf fR
   refine⟨v,aF,fun L hL=>⟨hd,?_⟩,h⟩
   rw[guard_true hL hgd hg]
   simp only[wJ L hL]
   exact⟨mP,hc⟩
 · rename_i y args kI
   simp only at kI
   subst kI
   have h':=h
   rw[kL vf]at h'
   obtain⟨us,fR,h'⟩:=tL h'
   rw[←kL vf]at h'
   obtain⟨f,fh,h1,wJ⟩:=qb (n:=n) (hp:=hp) hx vf fR h'
   obtain⟨mP,h1⟩:=bp h1
   obtain⟨v,aF,hc,h1⟩:=iM _ _ _ _ _ h1
   rw[dN,gD,dD]at h1
   refine⟨v,aF,fun L hL=>⟨hd,?_⟩,h1⟩
   rw[guard_true hL hgd hg]
   simp only[wJ L hL]
   exact⟨mP,hc⟩
 · rename_i op ty kI
   simp only at kI
   subst kI
   obtain⟨rfl,rfl⟩:=jL hx
   split at h
   · rename_i v aF he
     rw[dN,gD,dD]at h
     refine⟨v,aF,fun L hL=>⟨hd,?_⟩,h⟩
     rw[guard_true hL hgd hg]
     rw[sr,get_eq hL n hp]at he
     have hno:bK (St.get ⟨n,L,hp⟩) o=none:=by
      cases hc:bK (St.get ⟨n,L,hp⟩) o with
      |none=>rfl
      |some p=>
       exfalso
       exact Bk hc he
     simp only[hno]
     exact he
   · simp at h
 · obtain⟨v,aF,hs,hK⟩:=Ec (n:=n) hx hd hgd hg ⟨L0,vf⟩ h
   rw[gD,dD]at hK
   exact⟨_,_,hs,hK⟩
theorem C7 (iM:j4 P dx) {n:Nat} {ops:Array Oper} {o:Oper} {x:Ro} {g:Option (Nat×Bool)} {tm:Tr} {hp:HS} {ctr:Nat} {K:Tr→HS→Nat→Bool}
 (hx:aY P o=some x) (hd:gj n o.dst=true) (hgd:gM ops o g)
 (h:OB false dx P ⟨o.dst,g,x⟩ tm hp ctr K=true): ∃v aF,qh P n ops o tm hp ctr v aF∧K (uc tm o.dst v) aF (ctr+4)=true:=by
 unfold OB at h
 have skip:(∃d want,g=some (d,want)∧((∃b,tm.get (key d)=some (bV b)∧(b==want)=false)∨tm.get (key d)=some (.dQ [])))→(j7 tm o.dst (.dQ []) fun tm=>ny (ctr+4) fun c=>K tm hp c)=true→
  ∃v aF,qh P n ops o tm hp ctr v aF∧K (uc tm o.dst v) aF (ctr+4)=true:=by
  intro hg h
  rw[gD,dD]at h
  exact⟨_,_,tV hd hgd hg,h⟩
 split at h
 · rename_i Ti
   simp only at Ti
   exact wc iM hx hd hgd (.inl Ti) h
 · rename_i d want JT
   simp only at JT
   split at h
   · rename_i b hb
     cases JX:(b==want)with
     |true=>
      rw[JX]at h
      exact wc iM hx hd hgd (.inr ⟨d,want,b,JT,hb,JX⟩) h
     |false=>
      rw[JX]at h
      exact skip ⟨d,want,JT, .inl ⟨b,hb,JX⟩⟩ h
   · rename_i hb
     exact skip ⟨d,want,JT, .inr hb⟩ h
   · simp at h
theorem sF (iM:j4 P dx) {ops:Array Oper} {n base:Nat} {K:List gO→Tr→HS→Nat→Bool}: ∀ {l:List Oper} {rs:List kr} {k:Nat} {Fc:List gO} {tm:Tr} {hp:HS},aT P ops l=some rs→
 (rs.all fun o=>gj n o.dst)=true→Fc.length=k→BO false dx P rs Fc tm hp (base+4 * k) K=true→
 ∃ (F2:Nat→Tr) (hpT:Nat→HS) (v:Nat→V) (fs:List gO),K fs (F2 (k+l.length)) (hpT (k+l.length)) (base+4 * (k+l.length))=true∧(∀i,i < k→fs[i]? =Fc[i]?)∧F2 k=tm∧hpT k=hp∧
  ∀j o,l[j]? =some o→qh P n ops o (F2 (k+j)) (hpT (k+j)) (base+4 * (k+j)) (v (k+j)) (hpT (k+j+1))∧F2 (k+j+1)=uc (F2 (k+j)) o.dst (v (k+j))∧
   ∃f,fs[k+j]? =some f∧f.dst=o.dst∧ ∀L,eD (F2 (k+j)) L→(∀t,t∈names ops o→t∈f.nm)∧(∀q,q∈iS (St.get ⟨n,L,hpT (k+j)⟩) o→q∈f.rd)∧(∀q,q∈tt (St.get ⟨n,L,hpT (k+j)⟩) (base+4 * (k+j)) o→q∈f.wr)
 | [],rs,k,Fc,tm,hp,eA,hd,hk,h=>by
   simp only[aT,Option.some.injEq]at eA
   subst eA
   exact⟨fun _=>tm,fun _=>hp,fun _=> .undef,Fc,by simpa[BO]using h,fun _ _=>rfl,rfl,rfl,fun j o hj=>by simp at hj⟩
 |o::l,rs,k,Fc,tm,hp,eA,hd,hk,h=>by
  simp only[aT]at eA
  split at eA
  · rename_i x l' hx hl'
    obtain⟨g,rfl,hgd⟩:=jw eA
    simp only[List.all_cons,Bool.and_eq_true]at hd
    simp only[BO]at h
    obtain⟨v0,aF,hst,hK⟩:=C7 (n:=n) (ops:=ops) iM hx hd.1 hgd h
    rw[show base+4 * k+4=base+4 * (k+1) by omega]at hK
    obtain⟨F2,hpT,v,fs,q1,q2,q3,q4,q5⟩:=sF iM (k:=k+1) hl' hd.2 (by simp[hk]) hK
    have AZ:fs[k]? =some (DO ⟨o.dst,g,x⟩ tm (base+4 * k)):=by
     rw[q2 k (by omega),List.getElem?_append_right (by omega),hk];simp
    refine⟨fun i=>if i=k then tm else F2 i,fun i=>if i=k then hp else hpT i,fun i=>if i=k then v0 else v i,fs,?_,?_,?_,?_,?_⟩
    · have e1:k+(o::l).length=k+1+l.length:=by simp;omega
      have e2:¬k+1+l.length=k:=by omega
      simp only[e1,e2,if_false]
      exact q1
    · intro i hi'
      rw[q2 i (by omega),List.getElem?_append_left (by omega)]
    · simp
    · simp
    · intro j oj hj
      cases j with
      |zero=>
       simp only[List.getElem?_cons_zero,Option.some.injEq]at hj
       subst hj
       have e2:¬k+1=k:=by omega
       simp only[Nat.add_zero,if_true,e2,if_false,q4,q3]
       refine⟨hst,trivial,_,AZ,rfl,fun L hL=>?_⟩
       have Hp:=xS (ops:=ops) (n:=n) (ctr:=base+4 * k) (tm:=L) (hp:=hp) hx hgd
       rw[HA hL]
       exact Hp.2
      |succ j=>
       have:=q5 j oj (by simpa using hj)
       have e1:¬k+(j+1)=k:=by omega
       have e2:¬k+(j+1)+1=k:=by omega
       simp only[e1,e2,if_false]
       rw[show k+(j+1)=k+1+j by omega]
       exact this
  · simp at eA
theorem jr {all:Array Oper}: ∀ {l:List Oper} {rs:List kr},aT P all l=some rs→rs.length=l.length
 | [],rs,h=>by simp only[aT,Option.some.injEq]at h;subst h;rfl
 |o::l,rs,h=>by
  simp only[aT]at h
  split at h
  · rename_i x l' hx hl'
    obtain⟨g,rfl,_⟩:=jw h
    simp[jr hl']
  · simp at h
theorem nS (bits:List Nat) (N:Nat): ∀ (j:Nat) (rs:List kr),rs=(cc bits N j rs).1++(cc bits N j rs).2∧
 (∀o r,(cc bits N j rs).2=o::r→AM bits N (j+(cc bits N j rs).1.length)=true)
 |j,[]=>⟨rfl,fun o r h=>by simp[cc]at h⟩
 |j,x::q=>by
  obtain⟨h1,h2⟩:=nS bits N (j+1) q
  cases hp:AM bits N j with
  |true=>
   have e:cc bits N j (x::q)=([],x::q):=by simp only[cc,hp,fW]
   rw[e]
   exact⟨rfl,fun o r _=>by simpa using hp⟩
  |false=>
   have e:cc bits N j (x::q)=(x::(cc bits N (j+1) q).1,(cc bits N (j+1) q).2):=by simp only[cc,hp,fW]
   rw[e]
   refine⟨by simp only[List.cons_append, ←h1],fun o r h=>?_⟩
   have:=h2 o r h
   rw[show j+(x::(cc bits N (j+1) q).1).length=j+1+(cc bits N (j+1) q).1.length by simp;omega]
   exact this
theorem jM {all:Array Oper}: ∀ {a b:List kr} {l:List Oper},aT P all l=some (a++b)→ ∃l1 l2,l=l1++l2∧aT P all l1=some a∧aT P all l2=some b∧l1.length=a.length
 | [],b,l,h=>⟨[],l,rfl,rfl,h,rfl⟩
 |x::a,b,[],h=>by simp[aT]at h
 |x::a,b,o::l,h=>by
  simp only[aT]at h
  split at h
  · rename_i y l' hy hl'
    have Tn: ∃g,(⟨o.dst,g,y⟩:kr)=x∧l'=a++b∧ ∀l'',(match o.guard with
     |none=>some ((⟨o.dst,none,y⟩:kr)::l'')
     |some (j,want)=>match(all[j]?).bind (·.dst)with
      |some d=>some ((⟨o.dst,some (d,want),y⟩:kr)::l'')
      |none=>none)=some ((⟨o.dst,g,y⟩:kr)::l''):=by
     split at h
     · rename_i hg
       simp only[List.cons_append,Option.some.injEq,List.cons.injEq]at h
       exact⟨none,h.1,h.2,fun l''=>by simp only[hg]⟩
     · rename_i j want hg
       split at h
       · rename_i d hd
         simp only[List.cons_append,Option.some.injEq,List.cons.injEq]at h
         exact⟨some (d,want),h.1,h.2,fun l''=>by simp only[hg,hd]⟩
       · simp at h
    obtain⟨g,rfl,rfl,hg⟩:=Tn
    obtain⟨l1,l2,rfl,h1,h2,h3⟩:=jM hl'
    exact⟨o::l1,l2,rfl,by simp only[aT,hy,h1];exact hg a,h2,by simp[h3]⟩
  · simp at h
theorem qf {p:Nat→Bool} {n:Nat} (h:(List.range n).all p=true) {i:Nat} (hi:i < n):p i=true:=List.all_eq_true.1 h i (List.mem_range.2 hi)
theorem Cq {bits:List Nat} {N j:Nat} (h:AM bits N j=true):(∀i,i < j→(bits.getD j 0).testBit i=true)∧ ∀k,j < k→k < N→(bits.getD k 0).testBit j=true:=by
 simp only[AM,Bool.and_eq_true]at h
 refine⟨fun i hi=>qf h.1 hi,fun k h1 h2=>?_⟩
 have:=qf h.2 (i:=k - (j+1)) (by omega)
 rw[show j+1+(k - (j+1))=k by omega]at this
 exact this
theorem zZ (gY:nn P call) (iM:j4 P dx) {n:Nat} {ops:Array Oper} (hE: ∀i o,ops[i]? =some o→ ∀e,e∈bc o→e < i): ∀ {f lo:Nat} {l:List Oper} {rs:List kr} {tm:Tr} {hp:HS} {ctr:Nat} {K:Tr→HS→Nat→Bool},
 (∀j,ops[lo+j]? =l[j]?)→lo+l.length=ops.size→aT P ops l=some rs→(rs.all fun o=>gj n o.dst)=true→we false call dx P (ko (ops.toList.map bc) []) ops.size f lo rs tm hp ctr K=true→
 ∃bf aF bA,K bf aF bA=true∧ ∀ (M A:Nat→Prop) (ρ:Env) (a:Act) (w:World) (L:TS) (Q:Exit→Act→World→Prop),eD tm L→Rel M A ρ (bt ctr) ⟨n,L,hp⟩ a w→
  (∀a' w',At M A ρ w n bf aF bA a' w'→Q .normal a' w')→ ∀ (fuel:Nat) (listed:Array Bool),listed.size=ops.size→(∀i,i < ops.size→listed.getD i false=decide (i < lo))→ops.size - lo≤fuel→wpAny P .any ops Q fuel listed a w:=by
 intro f
 induction f with
 |zero=>intro lo l rs tm hp ctr K _ _ _ _ h;simp[we]at h
 |succ f ih=>
  intro lo l rs tm hp ctr K hl hlen eA hd h
  simp only[we]at h
  obtain⟨hsp,Hf⟩:=nS (ko (ops.toList.map bc) []) ops.size lo rs
  revert h
  generalize (cc (ko (ops.toList.map bc) []) ops.size lo rs).1=dz at hsp Hf
  generalize (cc (ko (ops.toList.map bc) []) ops.size lo rs).2=rest at hsp Hf
  intro h
  subst hsp
  obtain⟨l1,l2,rfl,rT,qN,OU⟩:=jM eA
  simp only[List.all_append,Bool.and_eq_true]at hd
  obtain⟨F2,hpT,v,fs,q1,_,q3,q4,q5⟩:=sF (P:=P) iM (ops:=ops) (n:=n) (base:=ctr) (k:=0) (l:=l1) rT hd.1 rfl (by simpa using h)
  obtain⟨qc,q1⟩:=bp q1
  simp only[Bool.and_eq_true]at qc
  obtain⟨qs,ql⟩:=qc
  simp only[Nat.zero_add]at q1 q5
  have Yh:lo+l1.length≤ops.size:=by rw[←hlen];simp
  have hop: ∀i,i < l1.length→ops[lo+i]? =l1[i]? :=fun i hi=>by rw[hl i,List.getElem?_append_left hi]
  have Cv: ∀k,lo+l1.length≤k→k < ops.size→ ∀i,i < l1.length→((ko (ops.toList.map bc) []).getD k 0).testBit (lo+i)=true:=by
   intro k hk hk' i hi
   unfold DC at ql
   rw[←OU]at ql
   have:=qf (qf ql (i:=k - (lo+l1.length)) (by omega)) hi
   rw[show lo+l1.length+(k - (lo+l1.length))=k by omega]at this
   exact this
  have Dn: ∀ (M A:Nat→Prop) (ρ:Env) (a:Act) (w:World) (L:TS) (Q:Exit→Act→World→Prop),eD tm L→Rel M A ρ (bt ctr) ⟨n,L,hp⟩ a w→
   (∀ (fuel:Nat) (listed:Array Bool) (a':Act) (w':World),listed.size=ops.size→(∀i,i < ops.size→listed.getD i false=decide (i < lo+l1.length))→ops.size - (lo+l1.length)≤fuel→
     At M A ρ w n (F2 l1.length) (hpT l1.length) (ctr+4 * l1.length) a' w'→wpAny P .any ops Q fuel listed a' w')→
   ∀ (fuel:Nat) (listed:Array Bool),listed.size=ops.size→(∀i,i < ops.size→listed.getD i false=decide (i < lo))→ops.size - lo≤fuel→wpAny P .any ops Q fuel listed a w:=by
   intro M A ρ a w L Q hL cE Hh
   rw[←q3]at hL
   let Ls:Nat→TS:=fun i=>Nat.rec L (fun i l=>eL l ((l1[i]?).bind (·.dst)) (v i)) i
   have YQ: ∀i,i≤l1.length→eD (F2 i) (Ls i):=by
    intro i
    induction i with
    |zero=>intro _;exact hL
    |succ i ihi=>
     intro hi
     have ho:l1[i]? =some l1[i]:=by simp[show i < l1.length by omega]
     have:=(q5 i l1[i] ho).2.1
     rw[this]
     have h2:=(ihi (by omega)).put (l1[i].dst) (v i)
     have e:Ls (i+1)=eL (Ls i) l1[i].dst (v i):=by
      show eL (Ls i) ((l1[i]?).bind (·.dst)) (v i)=_
      rw[ho];rfl
     rw[e]
     exact h2
   have AV:Rel M A ρ (bt ctr) ⟨n,Ls 0,hpT 0⟩ a w:=by rw[q4];exact cE
   refine Er (v:=v) (tmT:=Ls) (hpT:=hpT) (base:=ctr) (fs:=fs) Yh (fun i o hi ho=>?_) hE qs Cv AV ?_
   · rw[hop i hi]at ho
     obtain⟨s1,s2,f,f1,f2,f3⟩:=q5 i o ho
     refine⟨s1 _ (YQ i (by omega)),fun t=>?_,f,f1,f2,f3 _ (YQ i (by omega))⟩
     show find (eL (Ls i) ((l1[i]?).bind (·.dst)) (v i)) t=_
     rw[ho];rfl
   · rintro fuel listed a' w' hsz oQ FK ⟨st',c',A',ρ',⟨rfl,rfl⟩,h2,h3,h4,h5⟩
     exact Hh fuel listed a' w' hsz oQ FK ⟨_,A',ρ',YQ _ (Nat.le_refl _),h2,h3,h4,h5⟩
  cases rest with
  |nil=>
   simp only at q1
   have rW:l2=[]:=by
    cases l2 with
    |nil=>rfl
    |cons o r=>have:=jr qN;simp at this
   subst rW
   simp only[List.append_nil]at hlen
   refine⟨_,_,_,q1,fun M A ρ a w L Q hL cE hQ fuel listed hsz oQ FK=>Dn M A ρ a w L Q hL cE (fun fuel listed a' w' hsz oQ FK sX=>?_) fuel listed hsz oQ FK⟩
   have hq:=hQ a' w' sX
   have AX:Region.ready .any ops listed=[]:=by
    apply List.eq_nil_iff_forall_not_mem.2
    intro i hi
    rw[mem_ready]at hi
    obtain⟨h0,o,ho,_⟩:=hi
    have hlt:i < ops.size:=(Array.getElem?_eq_some_iff.1 ho).1
    have:=oQ i hlt
    simp only[Array.getD_eq_getD_getElem?]at this h0
    have jE:i < listed.size:=by omega
    simp[jE]at this h0
    simp[this]at h0
    omega
   cases fuel with
   |zero=>exact⟨AX,hq⟩
   |succ fuel=>exact⟨fun _=>hq,fun i hi=>by rw[AX]at hi;simp at hi⟩
  |cons p r=>
   simp only at q1
   cases l2 with
   |nil=>simp[aT]at qN
   |cons o l2=>
    simp only[aT]at qN
    split at qN
    · rename_i x l' hx hl'
      obtain⟨g,hpg,hgd⟩:=jw qN
      simp only[List.cons.injEq]at hpg
      obtain⟨rfl,rfl⟩:=hpg
      simp only[List.all_cons,Bool.and_eq_true]at hd
      have hi:ops[lo+l1.length]? =some o:=by rw[hl l1.length,List.getElem?_append_right (Nat.le_refl _)];simp
      obtain⟨nF,hp1,c1,r1,r2⟩:=yg (n:=n) gY hi hx hd.2.1 hgd q1
      rw[←OU]at r2
      obtain⟨tm2,hp2,c2,r3,r4⟩:=ih (lo:=lo+l1.length+1) (l:=l2) (fun j=>by
       rw[show lo+l1.length+1+j=lo+(l1.length+(j+1)) by omega,hl,List.getElem?_append_right (by omega)]
       rw[show l1.length+(j+1) - l1.length=j+1 by omega]
       simp) (by rw[←hlen];simp;omega) hl' hd.2.2 r2
      have S0:=Cq (Hf _ _ rfl)
      rw[←OU]at S0
      refine⟨tm2,hp2,c2,r3,fun M A ρ a w L Q hL cE hQ fuel listed hsz oQ FK=>Dn M A ρ a w L Q hL cE (fun fuel listed a' w' hsz oQ FK sX=>?_) fuel listed hsz oQ FK⟩
      have hps:lo+l1.length < ops.size:=(Array.getElem?_eq_some_iff.1 hi).1
      obtain⟨fuel,rfl⟩: ∃f,fuel=f+1:=⟨fuel - 1,by omega⟩
      obtain⟨L1,A1,ρ1,t1,t2,t3,t4,t5⟩:=sX
      have hclosed: ∀k o',ops[k]? =some o'→listed.getD k false=true→ ∀e,e∈bc o'→listed.getD e false=true:=by
       intro k o' wh hk e he
       have hks:k < ops.size:=(Array.getElem?_eq_some_iff.1 wh).1
       rw[oQ k hks]at hk
       have:=hE k o' wh e he
       rw[oQ e (by omega)]
       simp at hk⊢
       omega
      refine⟨fun AX=>?_,fun i hir=>?_⟩
      · exfalso
        have:lo+l1.length∈Region.ready .any ops listed:=by
         rw[mem_ready]
         refine⟨?_,o,hi,fun e he hb=>?_⟩
         · have:=oQ _ hps
           simp only[Array.getD_eq_getD_getElem?]at this⊢
           have jE:lo+l1.length < listed.size:=by omega
           simp[jE]at this⊢
           exact this
         · have hm:e.on∈bc o:=by simp only[bc,List.mem_map,List.mem_filter];exact⟨e,⟨by simpa using he,hb⟩,rfl⟩
           have:=hE _ o hi _ hm
           rw[oQ e.on (by omega)]
           simp
           omega
        rw[AX]at this
        simp at this
      · rw[mem_ready]at hir
        obtain⟨h0,oi,hoi,uZ⟩:=hir
        have Yj:i < ops.size:=(Array.getElem?_eq_some_iff.1 hoi).1
        have Fa:listed.getD i false=false:=by
         simp only[Array.getD_eq_getD_getElem?]at h0⊢
         have jE:i < listed.size:=by omega
         simpa[jE]using h0
        have hge:lo+l1.length≤i:=by
         rw[oQ i Yj]at Fa
         simp at Fa
         omega
        have hip:i=lo+l1.length:=by
         rcases Nat.eq_or_lt_of_le hge with h|h
         · exact h.symm
         · exfalso
           have hb:=S0.2 i h Yj
           have TB: ∀ (i:Nat) (es:List Nat),(ops.toList.map bc)[i]? =some es→ ∀e,e∈es→e < i:=by
            intro i es h e he
            simp only[List.getElem?_map,Array.getElem?_toList,Option.map_eq_some_iff]at h
            obtain⟨o,ho,rfl⟩:=h
            exact hE i o ho e he
           have:=(o4 (L:=fun k=>listed.getD k false) TB i (by simpa using Yj) (fun k es _ E9 jg e he=>by
            simp only[List.getElem?_map,Array.getElem?_toList,Option.map_eq_some_iff]at jg
            obtain⟨o,ho,rfl⟩:=jg
            exact hclosed k o ho E9 e he) (fun es jg e he=>by
            simp only[List.getElem?_map,Array.getElem?_toList,Option.map_eq_some_iff]at jg
            obtain⟨o',wh,rfl⟩:=jg
            rw[hoi]at wh
            simp only[Option.some.injEq]at wh
            subst wh
            simp only[bc,List.mem_map,List.mem_filter]at he
            obtain⟨ed,⟨g1,g2⟩,rfl⟩:=he
            exact uZ ed (by simpa using g1) g2) _ hb).1
           rw[oQ _ hps]at this
           simp at this
        subst hip
        refine r1 M A1 ρ1 a' w' L1 Q _ t1 t2 fun a2 w2 Nt=>?_
        obtain⟨L2,A2,ρ2,u1,u2,u3,u4,u5⟩:=Nt
        refine r4 M A2 ρ2 a2 w2 L2 Q u1 u2 (fun a3 w3 YJ=>hQ a3 w3 ((YJ.trans u3 u4 u5).trans t3 t4 t5)) fuel _ (by simpa using hsz) (fun k hk=>?_) (by omega)
        by_cases hk':k=lo+l1.length
        · subst hk'
          have jE:lo+l1.length < listed.size:=by omega
          simp[Array.getD_eq_getD_getElem?,jE]
        · have:=getD_set_ne (listed:=listed) false (fun e:lo+l1.length=k=>hk' e.symm)
          rw[this,oQ k hk]
          simp only[decide_eq_decide]
          omega
    · simp at qN
theorem Eb (gY:nn P call) (iM:j4 P dx) {n fuel:Nat}: ∀ {c:Code} {r:Rc},aP P c=some r→fu n r=true→ ∀ {Q:Exit→Tr→HS→Nat→Bool} {tm:Tr} {hp:HS} {ctr:Nat},E false call dx P fuel r Q tm hp ctr=true→
 ∃e bf aF bA,Q e bf aF bA=true∧O7 P n c tm hp ctr e bf aF bA:=by
 intro c
 induction c with
 |skip=>
  intro r hr hd Q tm hp ctr h
  simp only[aP,Option.some.injEq]at hr
  subst hr
  exact⟨_,_,_,_,h,fun M A ρ a w L hL cE=>wp_skip ⟨rfl,At.here hL cE⟩⟩
 |ret=>
  intro r hr hd Q tm hp ctr h
  simp only[aP,Option.some.injEq]at hr
  subst hr
  exact⟨_,_,_,_,h,fun M A ρ a w L hL cE=>wp_ret ⟨rfl,At.here hL cE⟩⟩
 |exit id=>
  intro r hr hd Q tm hp ctr h
  simp only[aP,Option.some.injEq]at hr
  subst hr
  exact⟨_,_,_,_,h,fun M A ρ a w L hL cE=>wp_exit ⟨rfl,At.here hL cE⟩⟩
 |seq x y G3 G2=>
  intro r hr hd Q tm hp ctr h
  simp only[aP]at hr
  split at hr
  · rename_i rx ry hx hy
    simp only[Option.some.injEq]at hr
    subst hr
    simp only[fu,Bool.and_eq_true]at hd
    simp only[E]at h
    obtain⟨e1,nF,hp1,c1,h1,h2⟩:=G3 hx hd.1 h
    cases e1 with
    |normal=>
     obtain⟨e2,tm2,hp2,c2,h3,h4⟩:=G2 hy hd.2 h1
     refine⟨e2,tm2,hp2,c2,h3,fun M A ρ a w L hL cE=>wp_seq (wp_mono (h2 M A ρ a w L hL cE) ?_)⟩
     rintro e a' w' ⟨rfl,L1,A1,ρ1,q1,q2,q3,q4,q5⟩
     exact wp_mono (h4 M A1 ρ1 a' w' L1 q1 q2) fun e a2 w2 ⟨he,sX⟩=>⟨he,sX.trans q3 q4 q5⟩
    |_=>
     refine⟨_,nF,hp1,c1,h1,fun M A ρ a w L hL cE=>wp_seq (wp_mono (h2 M A ρ a w L hL cE) ?_)⟩
     rintro e a' w' ⟨rfl,sX⟩
     exact⟨rfl,sX⟩
  · simp at hr
 |cond c x y G3 G2=>
  intro r hr hd Q tm hp ctr h
  simp only[aP]at hr
  split at hr
  · rename_i rx ry hx hy
    simp only[Option.some.injEq]at hr
    subst hr
    simp only[fu,Bool.and_eq_true]at hd
    simp only[E]at h
    split at h
    · rename_i b hb
      have hb': ∀L,eD tm L→((⟨n,L,hp⟩:St).get c).gk =some b:=fun L hL=>by
       rw[←bh]
       rw[kL hL]at hb
       exact hb
      cases b with
      |true=>
       obtain⟨e1,nF,hp1,c1,h1,h2⟩:=G3 hx hd.1 h
       exact⟨e1,nF,hp1,c1,h1,fun M A ρ a w L hL cE=>wp_cond (V.lN (hb' L hL) (cE.get c)) (h2 M A ρ a w L hL cE)⟩
      |false=>
       obtain⟨e1,nF,hp1,c1,h1,h2⟩:=G2 hy hd.2 h
       exact⟨e1,nF,hp1,c1,h1,fun M A ρ a w L hL cE=>wp_cond (V.lN (hb' L hL) (cE.get c)) (h2 M A ρ a w L hL cE)⟩
    · simp at h
  · simp at hr
 |block id b ih=>
  intro r hr hd Q tm hp ctr h
  simp only[aP]at hr
  split at hr
  · rename_i rb hb
    simp only[Option.some.injEq]at hr
    subst hr
    simp only[fu]at hd
    simp only[E]at h
    obtain⟨e1,nF,hp1,c1,h1,h2⟩:=ih hb hd h
    cases e1 with
    |exit id'=>
     simp only[HW]at h1
     cases bJ:Nat.beq id' id with
     |true=>
      rw[bJ]at h1
      have JR:id'=id:=by simpa using bJ
      refine⟨_,nF,hp1,c1,h1,fun M A ρ a w L hL cE=>wp_block (wp_mono (h2 M A ρ a w L hL cE) ?_)⟩
      rintro e a' w' ⟨rfl,sX⟩
      simp only[Exit.inBlock,JR,if_true]
      exact⟨trivial,sX⟩
     |false=>
      rw[bJ]at h1
      have JR:¬id'=id:=by
       intro h;subst h;simp at bJ
      refine⟨_,nF,hp1,c1,h1,fun M A ρ a w L hL cE=>wp_block (wp_mono (h2 M A ρ a w L hL cE) ?_)⟩
      rintro e a' w' ⟨rfl,sX⟩
      simp only[Exit.inBlock,JR,if_false]
      exact⟨trivial,sX⟩
    |_=>
     refine⟨_,nF,hp1,c1,h1,fun M A ρ a w L hL cE=>wp_block (wp_mono (h2 M A ρ a w L hL cE) ?_)⟩
     rintro e a' w' ⟨rfl,sX⟩
     exact⟨rfl,sX⟩
  · simp at hr
 |loop b ih=>
  intro r hr hd Q tm hp ctr h
  simp only[aP]at hr
  split at hr
  · rename_i rb hb
    simp only[Option.some.injEq]at hr
    subst hr
    simp only[fu]at hd
    simp only[E]at h
    have key: ∀ (k:Nat) (tm:Tr) (hp:HS) (ctr:Nat),Bo false (fun self=>E false call dx P fuel rb (HH self Q)) k tm hp ctr=true→
     ∃e bf aF bA,Q e bf aF bA=true∧ ∀ (M A:Nat→Prop) (ρ:Env) (a:Act) (w:World) (L:TS) (b':Frame) (kk:List _) (cs:List _),eD tm L→Rel M A ρ (bt ctr) ⟨n,L,hp⟩ a w→
      ∃a' w',At M A ρ w n bf aF bA a' w'∧Arrives P (lone (b'.at a (.code b:: .inLoop b::kk)) cs w) b' kk cs e a' w':=by
     intro k
     induction k with
     |zero=>intro tm hp ctr h;simp[Bo]at h
     |succ k Xo=>
      intro tm hp ctr h
      simp only[Bo]at h
      obtain⟨e1,nF,hp1,c1,h1,h2⟩:=ih hb hd h
      cases e1 with
      |normal=>
       obtain⟨e2,tm2,hp2,c2,h3,h4⟩:=Xo nF hp1 c1 h1
       refine⟨e2,tm2,hp2,c2,h3,fun M A ρ a w L b' kk cs hL cE=>?_⟩
       obtain⟨e,a1,w1,⟨rfl,L1,A1,ρ1,q1,q2,q3,q4,q5⟩,jG⟩:=h2 M A ρ a w L hL cE b' (.inLoop b::kk) cs
       obtain⟨a2,w2,sX,A8⟩:=h4 M A1 ρ1 a1 w1 L1 b' kk cs q1 q2
       exact⟨a2,w2,sX.trans q3 q4 q5, .of_steps (Steps.trans jG (.one step_inLoop)) A8⟩
      |_=>
       refine⟨_,nF,hp1,c1,h1,fun M A ρ a w L b' kk cs hL cE=>?_⟩
       obtain⟨e,a1,w1,⟨rfl,sX⟩,jG⟩:=h2 M A ρ a w L hL cE b' (.inLoop b::kk) cs
       exact⟨a1,w1,sX, .pass (x:= .inLoop b) rfl (fun _ _=> .inl (by simp)) jG⟩
    obtain⟨e,bf,aF,bA,h1,h2⟩:=key fuel tm hp ctr h
    refine⟨e,bf,aF,bA,h1,fun M A ρ a w L hL cE b' kk cs=>?_⟩
    obtain⟨a',w',sX,jG⟩:=h2 M A ρ a w L b' kk cs hL cE
    exact⟨e,a',w',⟨rfl,sX⟩, .of_steps (.one step_loop) jG⟩
  · simp at hr
 |region id ops d=>
  intro r hr hd Q tm hp ctr h
  cases d with
  |true=>
   simp only[aP]at hr
   split at hr
   · rename_i l hl
     split at hr
     · rename_i hc
       simp only[Bool.and_eq_true]at hc
       simp only[Option.some.injEq]at hr
       subst hr
       simp only[fu]at hd
       simp only[E]at h
       have hE: ∀i o,ops[i]? =some o→ ∀e,e∈bc o→e < i:=by
        intro i o ho e he
        have:=jc hc.2 i (bc o) (by simp[ho]) e he
        omega
       have OU:=jr hl
       rw[OU]at h
       obtain⟨bf,aF,bA,h1,h2⟩:=zZ gY iM (n:=n) hE (lo:=0) (l:=ops.toList) (fun j=>by simp) (by simp) hl hd (by simpa using h)
       refine⟨_,_,_,_,h1,fun M A ρ a w L hL cE=>wp_region_any hc.1 ?_⟩
       refine h2 M A ρ a _ L _ hL cE.drew (fun a' w' sX=>?_) ops.size _ (by simp) (fun i hi=>by simp[hi]) (by omega)
       exact⟨rfl,sX.trans (df.drew M w) (cU.refl _) (bE.refl _ _)⟩
     · simp at hr
   · simp at hr
  |false=>
   simp only[aP]at hr
   split at hr
   · rename_i l hl
     simp only[Option.some.injEq]at hr
     subst hr
     simp only[fu]at hd
     simp only[E]at h
     obtain⟨bf,aF,bA,h1,h2⟩:=vZ gY (n:=n) (ops:=ops) (k:=0) (l:=ops.toList) (fun j=>by simp) hl hd h
     refine⟨_,_,_,_,h1,fun M A ρ a w L hL cE=>wp_region ?_⟩
     have:=h2 M A ρ a w L (fun e2 a' w'=>e2= .normal∧At M A ρ w n bf aF bA a' w') hL cE (fun _ _ sX=>⟨rfl,sX⟩)
     rw[List.range_eq_range']
     simpa using this
   · simp at hr
 |_=>intro r hr;simp[aP]at hr
end Go.aS
end
section
namespace Go.aS
open Go
inductive Rv where
 |tmp (t:Nat)
 |cell (t:Nat) (n:Option Nat)
def cO (P:Program):List ResultVar→Option (List Rv)
 | []=>some []
 | .tmp t::r=>match cO P r with
   |some l=>some (.tmp t::l)
   |none=>none
 | .cell t ty::r=>match B4 P ty,cO P r with
   |some n,some l=>some (.cell t n::l)
   |_,_=>none
section
variable {α:Type} (bad:α)
def ul (tm:Tr) (hp:HS):List Rv→(List W→α)→α
 | [],k=>k []
 | .tmp t::r,k=>match tm.get (key t)with
   |some (.w u)=>ul tm hp r fun us=>k (u::us)
   |_=>bad
 | .cell t n::r,k=>match tm.get (key t)with
   |some (.w (.one c))=>zK bad hp c fun cs j=>Ay bad n cs j fun v=>match v with
    | .w u=>ul tm hp r fun us=>k (u::us)
    |_=>bad
   |_=>bad
def nW {β γ:Type} (f:β→(γ→α)→α):List β→(List γ→α)→α
 | [],k=>k []
 |x::r,k=>f x fun y=>nW f r fun l=>k (y::l)
def jH:Nat→HS→C→(T→α)→α
 |_,_, .t x,k=>k x
 |0,_,_,_=>bad
 |d+1,hp, .own id sz i len,k=>match find hp id with
  |some (.row sz' xs)=>fW (Nat.beq sz' sz&&Nat.ble (i+len) xs.length) (nW (nW (jH d hp)) ((xs.drop i).take len) fun ts=>k (.av sz ts)) bad
  |_=>bad
 |_+1,_,_,_=>bad
def Hz (hp:HS):W→(W→α)→α
 | .one c,k=>jH bad 6 hp c fun t=>k (.one (.t t))
 | .agg cs,k=>nW (jH bad 6 hp) cs fun ts=>k (.agg (ts.map .t))
end
def bu {β γ:Type} (f:β→Option γ):List β→Option (List γ)
 | []=>some []
 |x::r=>match f x,bu f r with
  |some y,some l=>some (y::l)
  |_,_=>none
def cN:Nat→HS→C→Option T
 |_,_, .t x=>some x
 |0,_,_=>none
 |d+1,hp, .own id sz i len=>match find hp id with
  |some (.row sz' xs)=>if sz'=sz∧i+len≤xs.length then(bu (bu (cN d hp)) ((xs.drop i).take len)).map (.av sz)else none
  |_=>none
 |_+1,_,_=>none
theorem kF {β γ:Type} {f:β→(γ→Bool)→Bool} {g:β→Option γ} (hf: ∀x k,f x k=true→ ∃y,g x=some y∧k y=true): ∀ {l:List β} {k:List γ→Bool},nW f l k=true→ ∃l',bu g l=some l'∧k l'=true
 | [],k,h=>⟨[],rfl,h⟩
 |x::r,k,h=>by
  simp only[nW]at h
  obtain⟨y,h1,h2⟩:=hf _ _ h
  obtain⟨l',h3,h4⟩:=kF hf h2
  exact⟨_,by simp only[bu,h1,h3],h4⟩
theorem zA: ∀ {d:Nat} {hp:HS} {c:C} {k:T→Bool},jH false d hp c k=true→ ∃t,cN d hp c=some t∧k t=true
 |d,hp, .t x,k,h=>⟨x,by cases d<;>rfl,by cases d<;>exact h⟩
 |0,hp, .own ..,k,h=>by simp[jH]at h
 |0,hp, .ptr ..,k,h=>by simp[jH]at h
 |0,hp, .rG ..,k,h=>by simp[jH]at h
 |0,hp, .jY ..,k,h=>by simp[jH]at h
 |0,hp, .any,k,h=>by simp[jH]at h
 |0,hp, .map _,k,h=>by simp[jH]at h
 |0,hp, .it _,k,h=>by simp[jH]at h
 |0,hp, .kP ..,k,h=>by simp[jH]at h
 |0,hp, .pk ..,k,h=>by simp[jH]at h
 |d+1,hp, .own id sz i len,k,h=>by
  simp only[jH]at h
  split at h
  · rename_i sz' xs hf
    obtain⟨hc,h⟩:=bp h
    simp only[Bool.and_eq_true,Nat.beq_eq,Nat.ble_eq]at hc
    obtain⟨ts,h1,h2⟩:=kF (fun x k h=>kF (fun y k h=>zA h) h) h
    exact⟨_,by simp only[cN,hf,if_pos hc,h1,Option.map_some],h2⟩
  · simp at h
 |d+1,hp, .ptr ..,k,h=>by simp[jH]at h
 |d+1,hp, .rG ..,k,h=>by simp[jH]at h
 |d+1,hp, .jY ..,k,h=>by simp[jH]at h
 |d+1,hp, .any,k,h=>by simp[jH]at h
 |d+1,hp, .map _,k,h=>by simp[jH]at h
 |d+1,hp, .it _,k,h=>by simp[jH]at h
 |d+1,hp, .kP ..,k,h=>by simp[jH]at h
 |d+1,hp, .pk ..,k,h=>by simp[jH]at h
theorem fF {β γ:Type} {g:β→Option γ}: ∀ {l:List β} {l':List γ},bu g l=some l'→l'.length=l.length
 | [],l',h=>by simp only[bu,Option.some.injEq]at h;subst h;rfl
 |x::r,l',h=>by
  simp only[bu]at h
  split at h
  · rename_i y l2 h1 h2
    simp only[Option.some.injEq]at h
    subst h
    simp[fF h2]
  · simp at h
theorem dU {β γ:Type} {g:β→Option γ}: ∀ {l:List β} {l':List γ},bu g l=some l'→ ∀ (i:Nat) (y:γ),l'[i]? =some y→ ∃x,l[i]? =some x∧g x=some y
 | [],l',h,i,y,hy=>by simp only[bu,Option.some.injEq]at h;subst h;simp at hy
 |x::r,l',h,i,y,hy=>by
  simp only[bu]at h
  split at h
  · rename_i y' l2 h1 h2
    simp only[Option.some.injEq]at h
    subst h
    cases i with
    |zero=>simp only[List.getElem?_cons_zero,Option.some.injEq]at hy;subst hy;exact⟨x,by simp,h1⟩
    |succ i=>obtain⟨x',h3,h4⟩:=dU h2 i y (by simpa using hy);exact⟨x',by simpa using h3,h4⟩
  · simp at h
variable {P:Program} {M A:Nat→Prop} {ρ:Env} {F:Nat→Prop} {st:St} {a:Act} {w:World}
theorem qR (h:Rel M A ρ F st a w) {B:Nat→Prop} (TC: ∀b,B b→A b) (hB: ∀id blk b,find st.heap id=some blk→ρ id=some (.fz b)→¬B b):
 ∀ {d:Nat} {c:C} {t:T} {x:Value},cN d st.heap c=some t→RC w A ρ c x→RT w B t x
 |d, .t y,t,x,hf,hr=>by
  have:t=y:=by cases d<;>simpa[cN]using hf.symm
  subst this
  exact RT.keeps (w:=w) ⟨Nat.le_refl _,fun b _ hn=>⟨rfl,fun hb=>hn (TC b hb)⟩⟩ hr
 |0, .own ..,t,x,hf,hr=>by simp[cN]at hf
 |0, .ptr ..,t,x,hf,hr=>by simp[cN]at hf
 |0, .rG ..,t,x,hf,hr=>by simp[cN]at hf
 |0, .jY ..,t,x,hf,hr=>by simp[cN]at hf
 |0, .any,t,x,hf,hr=>by simp[cN]at hf
 |0, .map _,t,x,hf,hr=>by simp[cN]at hf
 |0, .it _,t,x,hf,hr=>by simp[cN]at hf
 |0, .kP ..,t,x,hf,hr=>by simp[cN]at hf
 |0, .pk ..,t,x,hf,hr=>by simp[cN]at hf
 |d+1, .ptr ..,t,x,hf,hr=>by simp[cN]at hf
 |d+1, .rG ..,t,x,hf,hr=>by simp[cN]at hf
 |d+1, .jY ..,t,x,hf,hr=>by simp[cN]at hf
 |d+1, .any,t,x,hf,hr=>by simp[cN]at hf
 |d+1, .map _,t,x,hf,hr=>by simp[cN]at hf
 |d+1, .it _,t,x,hf,hr=>by simp[cN]at hf
 |d+1, .kP ..,t,x,hf,hr=>by simp[cN]at hf
 |d+1, .pk ..,t,x,hf,hr=>by simp[cN]at hf
 |d+1, .own id sz i len,t,x,hf,hr=>by
  simp only[cN]at hf
  split at hf
  · rename_i sz' xs UX
    split at hf
    · rename_i hc
      simp only[Option.map_eq_some_iff]at hf
      obtain⟨ts,hts,rfl⟩:=hf
      have he:elems st.heap (.own id sz i len)=some (sz,(xs.drop i).take len):=by simp only[elems,UX,if_pos hc]
      obtain⟨hsz,b0,Y6,hx0,Hs⟩:=ji h he hr
      by_cases hne:(xs.drop i).take len=[]
      · rw[hne]at hts
        simp only[bu,Option.some.injEq]at hts
        subst hts
        rw[hx0,hne]
        exact .nil
      · obtain⟨b,o,cap,rfl,hcell⟩:=iH h he hr hne
        simp only[Value.slice.injEq]at hx0
        obtain⟨_,_,rfl⟩:=hx0
        have hρ:ρ id=some (.fz b)∧b < w.heap.size:=by
         rcases hr with⟨b',cap',q,e',k1,k2,k3,k4,k5⟩|⟨_,_,h2,h3⟩
         · simp only[Value.slice.injEq,Option.some.injEq,Addr.mk.injEq]at k2
           obtain⟨⟨rfl,_⟩,_⟩:=k2
           refine⟨k1,?_⟩
           rcases Nat.lt_or_ge b w.heap.size with hlt|hge
           · exact hlt
           · simp[World.shape?,Array.getElem?_eq_none hge]at k4
         · simp at h3
        have wK: ∀ (i':Nat) (e:List T) (j:Nat) (t:T),ts[i']? =some e→e[j]? =some t→ ∃y,w.cell? ⟨b,o+(i' * sz+j),none⟩=some y∧RT w B t y:=by
         intro i' e j t hi hj
         obtain⟨el,hel,Ys⟩:=dU hts i' e hi
         obtain⟨c,hcc,Tl⟩:=dU Ys j t hj
         obtain⟨y,hy,XS,_⟩:=hcell i' el j c hel hcc
         exact⟨y,hy,qR h TC hB Tl XS⟩
        have hE:RT w B (.av sz ts) (.slice (some ⟨b,o,none⟩) ((xs.drop i).take len).length cap):=by
         refine .av (fun i j=>(w.cell? ⟨b,o+(i * sz+j),none⟩).getD undef) (fF hts).symm Hs hρ.2 (hB id _ b UX hρ.1) (fun e he'=>?_) (fun i e j t hi hj=>?_) (fun i e j t hi hj=>?_)
         · obtain⟨k,hk,hke⟩:=List.getElem_of_mem he'
           obtain⟨el,hel,Ys⟩:=dU hts k e (by rw[←hke];simp[hk])
           rw[fF Ys]
           exact hsz el (List.mem_of_getElem? hel)
         · obtain⟨y,hy,_⟩:=wK i e j t hi hj
           rw[Nat.add_assoc,hy];rfl
         · obtain⟨y,hy,dr⟩:=wK i e j t hi hj
           rw[hy];exact dr
        exact hE
    · simp at hf
  · simp at hf
def bB (hp:HS):W→Option W
 | .one c=>(cN 6 hp c).map fun t=> .one (.t t)
 | .agg cs=>(bu (cN 6 hp) cs).map fun ts=> .agg (ts.map .t)
theorem DM {hp:HS} {u:W} {k:W→Bool} (h:Hz false hp u k=true): ∃u',bB hp u=some u'∧k u'=true:=by
 cases u with
 |one c=>obtain⟨t,h1,h2⟩:=zA h;exact⟨_,by simp only[bB,h1,Option.map_some],h2⟩
 |agg cs=>obtain⟨t,h1,h2⟩:=kF (fun x k h=>zA h) h;exact⟨_,by simp only[bB,h1,Option.map_some],h2⟩
theorem fT (h:Rel M A ρ F st a w) {B:Nat→Prop} (TC: ∀b,B b→A b) (hB: ∀id blk b,find st.heap id=some blk→ρ id=some (.fz b)→¬B b) {u u':W} {x:Value}
 (hf:bB st.heap u=some u') (hr:RW w A ρ u x) (ρ':Env):RW w B ρ' u' x:=by
 cases u with
 |one c=>
  simp only[bB,Option.map_eq_some_iff]at hf
  obtain⟨t,h1,rfl⟩:=hf
  exact⟨qR h TC hB h1 hr.1,hr.2⟩
 |agg cs=>
  simp only[bB,Option.map_eq_some_iff]at hf
  obtain⟨ts,h1,rfl⟩:=hf
  obtain⟨vs,rfl,h2,h3⟩:=hr
  refine⟨vs,rfl,by simp[fF h1,h2],fun k c y hk hy=>?_⟩
  simp only[List.getElem?_map,Option.map_eq_some_iff]at hk
  obtain⟨t,ht,rfl⟩:=hk
  obtain⟨c',Cy,Tl⟩:=dU h1 k t ht
  obtain⟨r1,r2⟩:=h3 k c' y Cy hy
  exact⟨qR h TC hB Tl r1,r2⟩
structure Aa where
 n:Nat
 code:Rc
 res:List Rv
 flat:Bool
 inl:Bool
def zY (P:Program) (f:FuncId) (fr:Aa):Prop:=
 ∃fn c,P.funcs[f]? =some fn∧fn.body=some c∧aP P c=some fr.code∧fn.ntmps=fr.n∧cO P fn.results.toList=some fr.res∧fu fr.n fr.code=true
theorem tv {tm:Tr} {hp:HS}: ∀ {rs:List ResultVar} {RH:List Rv} {k:List W→Bool},cO P rs=some RH→ul false tm hp RH k=true→
 ∃us,(∀L,eD tm L→aM P hp L rs=some us)∧k us=true
 | [],RH,k,hr,h=>by
   simp only[cO,Option.some.injEq]at hr
   subst hr
   exact⟨[],fun _ _=>rfl,h⟩
 | .tmp t::r,RH,k,hr,h=>by
   simp only[cO]at hr
   split at hr
   · rename_i l hl
     simp only[Option.some.injEq]at hr
     subst hr
     simp only[ul]at h
     split at h
     · rename_i u hu
       obtain⟨us,h1,h2⟩:=tv hl h
       refine⟨u::us,fun L hL=>?_,h2⟩
       rw[←hL t]at hu
       simp only[aM,cg,hu,h1 L hL]
     · simp at h
   · simp at hr
 | .cell t ty::r,RH,k,hr,h=>by
   simp only[cO]at hr
   split at hr
   · rename_i n l hn hl
     simp only[Option.some.injEq]at hr
     subst hr
     simp only[ul]at h
     split at h
     · rename_i c hc
       obtain⟨cs,j,h1,h2⟩:=xX h
       obtain⟨u,h3,h4⟩:=jO (P:=P) hn (pF h2)
       simp only at h4
       obtain⟨us,h5,h6⟩:=tv hl h4
       refine⟨u::us,fun L hL=>?_,h6⟩
       rw[←hL t]at hc
       have dJ:dY P ty (.w (.one c)) hp=some (.w u):=by simp only[dY,h1,h3,Option.map_some]
       simp only[aM,cg,hc,dJ,h5 L hL]
     · simp at h
   · simp at hr
def AQ {α:Type}:Nat→List W→Tr→(Tr→α)→α
 |_,[],tm,k=>k tm
 |n,u::r,tm,k=>Tr.put (key n) tm (.w u) fun tm=>ny (n+1) fun m=>AQ m r tm k
def ju:Nat→List W→Tr→Tr
 |_,[],tm=>tm
 |n,u::r,tm=>ju (n+1) r (Tr.set (key n) tm (.w u))
theorem uR {α:Type}: ∀ (us:List W) (n:Nat) (tm:Tr) (k:Tr→α),AQ n us tm k=k (ju n us tm)
 | [],n,tm,k=>rfl
 |u::r,n,tm,k=>by simp only[AQ,ju,Tr.put_eq,dD,uR r]
theorem xL: ∀ (us:List W) (n:Nat) (tm:Tr) (L:TS),eD tm L→(∀t,n≤t→find L t=none)→eD (ju n us tm) (dc n us++L)
 | [],n,tm,L,h,_=>h
 |u::r,n,tm,L,h,hn=>by
  have ih:=xL r (n+1) (Tr.set (key n) tm (.w u)) ((n, .w u)::L) (h.put (some n) (.w u)) (fun t ht=>by rw[aq,if_neg (by omega)];exact hn t (by omega))
  intro t
  rw[ju, ←ih t]
  simp only[dc,List.cons_append,aq,cM]
  by_cases e:n=t
  · subst e
    have:find (dc (n+1) r) n=none:=by
     cases h':find (dc (n+1) r) n with
     |none=>rfl
     |some v=>have:=(eG _ _ _ _ h').1;omega
    simp[this]
  · simp[e]
theorem EV (us:List W):eD (ju 0 us .nil) (dc 0 us):=by
 have:=xL us 0 .nil [] (fun t=>by rw[Tr.tD];rfl) (fun t _=>rfl)
 simpa using this
theorem Rel.toM {M':Nat→Prop} (h:Rel M' A ρ F st a w) (hM: ∀b,M' b→M b) (hmay: ∀b,w.heap.size≤b→M b) (OX:zX M A w):Rel M A ρ F st a w:=by
 refine⟨h.size,h.defers,h.tmps,fun id blk hb=>?_,h.inj,h.fresh,h.bound,hmay,OX⟩
 have:=h.heap id blk hb
 cases blk with
 |row sz xs=>
  obtain⟨h1,h2⟩:=this
  refine⟨h1,?_⟩
  rcases h2 with⟨b,c,e,k1,k2,k3⟩|h2
  · exact .inl ⟨b,c,e,k1,hM b k2,k3⟩
  · exact .inr h2
 |mp es clock=>
  obtain⟨b,en,k1,k2,k3⟩:=this
  exact⟨b,en,k1,hM b k2,k3⟩
theorem Rel.own {id:Nat} {blk:bi} {b:Nat} (h:Rel M A ρ F st a w) (hf:find st.heap id=some blk) (hρ:ρ id=some (.fz b)):M b∧A b∧b < w.heap.size:=by
 have:=(h.heap id blk hf).lt hρ
 exact⟨this.2.1,this.2.2,this.1⟩
def rR (e:Exit):Prop:=e= .normal∨e= .ret
theorem vO {f:FuncId} {fr:Aa} (hok:zY P f fr) {us:List W} {hp aF:HS} {ctr bA:Nat} {e:Exit} {bf:Tr} {vs:List W} (hn:us.length≤fr.n) (he:rR e)
 (hrun: ∀c,(∃fn,P.funcs[f]? =some fn∧fn.body=some c)→O7 P fr.n c (ju 0 us .nil) hp ctr e bf aF bA) (hres: ∀fn,P.funcs[f]? =some fn→ ∀L,eD bf L→aM P aF L fn.results.toList=some vs)
 {M A:Nat→Prop} {ρ:Env} {w:World} {xs:Array Value} (hr:HR M A ρ (bt ctr) hp w) (hx:wY w A ρ us xs.toList):
 Calls P f xs w fun e w'=> ∃x A' ρ',e= .returned x∧HR M A' ρ' (bt bA) aF w'∧RV w' A' ρ' (aQ vs) x∧df M w w'∧cU ρ ρ'∧bE A A' w:=by
 obtain⟨fn,c,hf,hb,hrc,hnt,IG,hds⟩:=hok
 refine calls_of_wp hf hb ?_
 have hl:us.length=xs.size:=by simpa using hx.1
 have cE:Rel M A ρ (bt ctr) ⟨fr.n,dc 0 us,hp⟩ {tmps:=xs++Array.replicate (fn.ntmps - xs.size) undef,defers:=[]} w:=by
  refine⟨by simp;omega,rfl,fun t v hv=>?_,hr.heap,hr.inj,hr.fresh,hr.bound,hr.may,hr.dX⟩
  obtain⟨_,u,hu,rfl⟩:=eG _ _ _ _ hv
  simp only[Nat.sub_zero]at hu
  have ht:t < xs.size:=by rw[←hl];exact(List.getElem?_eq_some_iff.1 hu).1
  have zg:xs.toList[t]? =some xs[t]:=by simp[ht]
  have:=hx.2 t u _ hu zg
  have e:(xs++Array.replicate (fn.ntmps - xs.size) undef).getD t undef=xs[t]:=by simp[Array.getD_eq_getD_getElem?,Array.getElem?_append_left ht,ht]
  rw[e]
  exact this
 refine wp_mono (hrun c ⟨fn,hf,hb⟩ M A ρ _ w _ (EV us) cE) ?_
 rintro e2 a' w' ⟨rfl,L',A',ρ',hL',dr,dJ,cF,hg⟩
 have fR:=hres fn hf L' hL'
 obtain⟨ws,hvs,hR⟩:=ey dr fR
 have hm:(fn.results.mapM fun(r:ResultVar)=>match r with
  | .tmp t=>(pure (a'.tmps.getD t undef):Sem Value)
  | .cell b t=>do loadVar t (←asAddr (a'.tmps.getD b undef))).run P w'= .ok ws.toArray w':=by
  rw[Array.mapM_eq_mapM_toList]
  simp only[Sem.run_map]
  exact(congrArg (fun r:Result (List Value)=>Result.andThen r fun a w'=>Result.ok a.toArray w') hvs).trans rfl
 have hrun:(results fn a'.tmps).run P w'= .ok (if h:ws.toArray.size=1 then ws.toArray[0]else .tuple ws.toArray) w':=by
  show(Bind.bind (fn.results.mapM fun(r:ResultVar)=>match r with
   | .tmp t=>(pure (a'.tmps.getD t undef):Sem Value)
   | .cell b t=>do loadVar t (←asAddr (a'.tmps.getD b undef))) fun vs=>Pure.pure (if h:vs.size=1 then vs[0]else .tuple vs)).run P w'=_
  rw[Sem.run_bind,hm]
  rfl
 have fin:a'.defers=[]∧ ∃v,(results fn a'.tmps).run P w'= .ok v w'∧ ∃x A' ρ',Ending.returned v= .returned x∧HR M A' ρ' (bt bA) aF w'∧RV w' A' ρ' (aQ vs) x∧df M w w'∧cU ρ ρ'∧bE A A' w:=by
  refine⟨dr.defers,_,hrun,_,A',ρ',rfl,⟨rfl,rfl,fun t v hv=>by simp[find]at hv,dr.heap,dr.inj,dr.fresh,dr.bound,dr.may,dr.dX⟩,?_,dJ,cF,hg⟩
  match vs,ws,hR with
  | [],[],_=>exact⟨#[],by simp,rfl,by simp⟩
  | [u],[v],hR=>exact hR.2 0 u v rfl rfl
  |u::u2::r,v::v2::s,hR=>
   have hne:¬ (v::v2::s).toArray.size=1:=by simp
   simp only[hne,dite_false]
   exact⟨_,rfl,by simpa using hR.1,fun k x y hx hy=>hR.2 k x y hx (by simpa using hy)⟩
  | [],_::_,hR=>exact absurd hR.1 (by simp)
  |_::_,[],hR=>exact absurd hR.1 (by simp)
  | [_],_::_::_,hR=>exact absurd hR.1 (by simp)
  |_::_::_,[_],hR=>exact absurd hR.1 (by simp)
 rcases he with rfl|rfl
 · exact fin
 · exact fin
theorem vL {f:FuncId} {fr:Aa} (hok:zY P f fr) {us:List W} {hp aF:HS} {ctr bA:Nat} {e:Exit} {bf:Tr} {vs:List W} (hn:us.length≤fr.n) (he:rR e)
 (hrun: ∀c,(∃fn,P.funcs[f]? =some fn∧fn.body=some c)→O7 P fr.n c (ju 0 us .nil) hp ctr e bf aF bA) (hres: ∀fn,P.funcs[f]? =some fn→ ∀L,eD bf L→aM P aF L fn.results.toList=some vs):
 fN P f us hp ctr (aQ vs) aF bA:=by
 intro M A ρ a w n L xs hr hx
 let M':Nat→Prop:=fun b=>(M b∧A b)∨w.heap.size≤b
 have hH:HR M' A ρ (bt ctr) hp w:=by
  refine⟨rfl,rfl,fun t v hv=>by simp[find]at hv,fun id blk hb=>?_,hr.inj,hr.fresh,hr.bound,fun b hb=> .inr hb,hr.dX.sub (fun b hb hm=>hm.elim (fun h=>h.1) (fun h=>by omega)) (fun _ h=>h)⟩
  have:=hr.heap id blk hb
  cases blk with
  |row sz ys=>
   obtain⟨h1,h2⟩:=this
   refine⟨h1,?_⟩
   rcases h2 with⟨b,c,e,k1,k2,k3,k4⟩|h2
   · exact .inl ⟨b,c,e,k1, .inl ⟨k2,k3⟩,k3,k4⟩
   · exact .inr h2
  |mp es clock=>
   obtain⟨b,en,k1,k2,k3,k4⟩:=this
   exact⟨b,en,k1, .inl ⟨k2,k3⟩,k3,k4⟩
 refine(vO hok hn he hrun hres hH hx).mono ?_
 rintro e w' ⟨x,A',ρ',rfl,h1,h2,h3,h4,h5⟩
 have hM: ∀b,M' b→M b:=fun b hb=>hb.elim (fun h=>h.1) (hr.may b)
 have hmay: ∀b,w'.heap.size≤b→M b:=fun b hb=>hr.may b (Nat.le_trans h3.size hb)
 have hk:dZ A A' w w':=⟨h3.size,fun b hb Hj=>⟨h3.block b hb (fun hm=>by
  rcases hm with hm|hm
  · exact Hj hm.2
  · omega),fun hA=>Hj (h5.2 b hb hA)⟩⟩
 refine⟨x,A',ρ',rfl,?_,h2,h3.weaken (fun i _ ho=>hM i ho),h4,h5⟩
 have OR:=h1.toM hM hmay (hr.dX.Fk (h3.weaken (fun i _ ho=>hM i ho)) h5.2)
 exact⟨hr.size,hr.defers,fun t v hv=>(hr.tmps t v hv).keeps hk h3.shape h4,OR.heap,OR.inj,OR.fresh,OR.bound,OR.may,OR.dX⟩
theorem Fg {f:FuncId} {fr:Aa} (hok:zY P f fr) {us:List W} {aF:HS} {bA:Nat} {e:Exit} {bf:Tr} {vs ts:List W} (hn:us.length≤fr.n) (he:rR e)
 (hrun: ∀c,(∃fn,P.funcs[f]? =some fn∧fn.body=some c)→O7 P fr.n c (ju 0 us .nil) [] 4 e bf aF bA) (hres: ∀fn,P.funcs[f]? =some fn→ ∀L,eD bf L→aM P aF L fn.results.toList=some vs)
 (hts:bu (bB aF) vs=some ts):Fn P f us [] (aQ ts) []:=by
 intro w A ρ xs hH hxs
 refine(vO hok hn he hrun hres hH hxs).mono ?_
 rintro e w' ⟨x,A',ρ',rfl,h1,h2,h3,h4,h5⟩
 have hB: ∀id blk b,find aF id=some blk→ρ' id=some (.fz b)→¬A b:=by
  intro id blk b hf hρ hA
  have hM:=(h1.own hf hρ).1
  rcases hM with⟨id',fp,me,_⟩|hM
  · simp[find]at me
  · have:=hH.bound b hA
    omega
 refine⟨x,A,ρ,bt 4,rfl,?_,⟨rfl,rfl,fun t v hv=>by simp[find]at hv,fun id blk hb=>by simp[find]at hb,fun id id' b b' q hb=>by simp[find]at hb,hH.fresh,fun b hb=>Nat.lt_of_lt_of_le (hH.bound b hb) h3.size,fun b hb=> .inr (Nat.le_trans h3.size hb),hH.dX.Fk h3 (fun _ _ h=>h)⟩,h3,iJ.refl _,bE.refl _ _⟩
 have hlen:=fF hts
 have one: ∀ (k:Nat) (u:W) (y:Value),ts[k]? =some u→(∀v,vs[k]? =some v→RW w' A' ρ' v y)→RW w' A ρ u y:=by
  intro k u y hu hv
  obtain⟨v,jT,E4⟩:=dU hts k u hu
  exact fT (st:=⟨0,[],aF⟩) h1 (fun b hb=>h5.1 b hb) hB E4 (hv v jT) ρ
 match vs,ts,hlen with
 | [],[],_=>
   obtain⟨ys,h6,h7,_⟩:=h2
   exact⟨ys,h6,h7,fun k u y hu=>by simp at hu⟩
 | [v],[u],_=>exact one 0 u x rfl (fun v' jT=>by simp only[List.getElem?_cons_zero,Option.some.injEq]at jT;subst jT;exact h2)
 |v::v2::r,u::u2::s,hlen=>
  obtain⟨ys,rfl,h6,h7⟩:=h2
  refine⟨ys,rfl,by rw[←h6];simpa using hlen,fun k u' y hu hy=>one k u' y hu (fun v' jT=>h7 k v' y jT hy)⟩
 | [],_::_,hlen=>simp at hlen
 |_::_,[],hlen=>simp at hlen
 | [_],_::_::_,hlen=>simp at hlen
 |_::_::_,[_],hlen=>simp at hlen
def qe (us:List W):Bool:=us.all W.bY
theorem ov {n:Nat} {u:W} (h:u.bY=true):u.up n=u:=by
 cases u with
 |one c=>cases c<;>simp[W.bY,C.bY]at h;rfl
 |agg cs=>
  simp only[W.bY,List.all_eq_true]at h
  simp only[W.up,W.agg.injEq]
  have: ∀c,c∈cs→c.up n=id c:=by
   intro c hc
   have:=h c hc
   cases c<;>simp[C.bY]at this
   rfl
  rw[List.map_congr_left this];simp
theorem gb {hp:HS} {u u':W} (h:bB hp u=some u'):u'.bY=true:=by
 cases u with
 |one c=>
  simp only[bB,Option.map_eq_some_iff]at h
  obtain⟨t,_,rfl⟩:=h
  rfl
 |agg cs=>
  simp only[bB,Option.map_eq_some_iff]at h
  obtain⟨t,_,rfl⟩:=h
  simp[W.bY,C.bY]
def V.bY:V→Bool
 | .w u=>u.bY
 | .dQ ws=>ws.all W.bY
 | .undef=>false
theorem V.ov {n:Nat} {v:V} (h:v.bY=true):v.up n=v:=by
 cases v with
 |w u=>simp only[V.bY]at h;simp only[V.up,Go.aS.ov h]
 |dQ ws=>
  simp only[V.bY,List.all_eq_true]at h
  simp only[V.up,V.dQ.injEq]
  have: ∀c,c∈ws→c.up n=id c:=fun c hc=>Go.aS.ov (h c hc)
  rw[List.map_congr_left this];simp
 |undef=>rfl
theorem uk {ts:List W} (h:ts.all W.bY=true):(aQ ts).bY=true:=by
 match ts with
 | []=>rfl
 | [u]=>simpa[aQ,V.bY]using h
 |_::_::_=>simpa only[aQ,V.bY]using h
def C.plain:C→Bool
 | .t (.val (.int ..))| .t (.val (.bool _))| .t (.val (.string _))=>true
 |_=>false
def W.plain:W→Bool
 | .one c=>c.plain
 | .agg cs=>cs.all C.plain
def V.plain:V→Bool
 | .w u=>u.plain
 | .dQ ws=>ws.all W.plain
 | .undef=>false
end Go.aS
end
section
namespace Go.aS
open Go
section
variable {α:Type} (bad:α)
def ou (P:Program) (call:sG α) (dx:sH α) (fuel:Nat) (fr:Aa) (us:List W) (k:V→α):α:=
 fW (Nat.ble us.length fr.n) (AQ 0 us .nil fun tm=>E bad call dx P fuel fr.code (fun e bf aF _=>match e with
  | .normal=>ul bad bf aF fr.res fun vs=>nW (Hz bad aF) vs fun ts=>k (aQ ts)
  | .ret=>ul bad bf aF fr.res fun vs=>nW (Hz bad aF) vs fun ts=>k (aQ ts)
  |_=>bad) tm [] 4) bad
def ze (P:Program) (call:sG α) (dx:sH α) (fuel:Nat) (fr:Aa) (us:List W) (hp:HS) (ctr:Nat) (K:V→HS→Nat→α):α:=
 fW (Nat.ble us.length fr.n) (AQ 0 us .nil fun tm=>E bad call dx P fuel fr.code (fun e bf aF bA=>match e with
  | .normal=>ul bad bf aF fr.res fun vs=>K (aQ vs) aF bA
  | .ret=>ul bad bf aF fr.res fun vs=>K (aQ vs) aF bA
  |_=>bad) tm hp ctr) bad
variable (P:Program) (gQ:Nat→Option Aa) (Dk:Nat→List W→Option V) (fuel:Nat)
def cA:Nat→sG α×sH α
 |0=>(fun _ _ _ _ _=>bad,fun _ _ _ _ _=>bad)
 |d+1=>
  (fun f us hp ctr K=>match gQ f with
    |some fr=>fW fr.inl (ze bad P (cA d).1 (cA d).2 fuel fr us hp ctr K)
      (fW (qe us) (match Dk f us with
        |some v=>ny (ctr+4) fun c=>K v hp c
        |none=>ou bad P (cA d).1 (cA d).2 fuel fr us fun v=>ny (ctr+4) fun c=>K v hp c)
      (fW (fr.flat&& (bu (bB hp) us).isSome) (nW (Hz bad hp) us fun ts=>match Dk f ts with
        |some v=>fW v.flat (ny (ctr+4) fun c=>K v hp c) bad
        |none=>ou bad P (cA d).1 (cA d).2 fuel fr ts fun v=>fW v.flat (ny (ctr+4) fun c=>K v hp c) bad)
      (ze bad P (cA d).1 (cA d).2 fuel fr us hp ctr K)))
    |none=>bad,
   fun f us hp _ K=>match gQ f with
    |some fr=>fW (qe us) (match Dk f us with
      |some v=>K v hp
      |none=>ou bad P (cA d).1 (cA d).2 fuel fr us fun v=>K v hp)
      (match iL hp us with
        |some ts=>match Dk f ts with
         |some v=>fW v.flat (K v hp) bad
         |none=>ou bad P (cA d).1 (cA d).2 fuel fr ts fun v=>fW v.flat (K v hp) bad
        |none=>bad)
    |none=>bad)
end
variable {P:Program}
theorem eb {f:FuncId} {us:List W} {hp:HS} {ctr:Nat} {v:V} (hv:v.bY=true) (hT:qe us=true) (h:Fn P f us [] v []):eu P hp ctr f us v hp:=
 .inl ⟨v,[],us,h.toF,(V.ov hv).symm,rfl, .inl ⟨rfl,hT⟩⟩
theorem sy {f:FuncId} {us ts:List W} {hp:HS} {ctr:Nat} {v:V} (hv:v.bY=true) (hl:iL hp us=some ts) (hfl:v.flat=true) (h:Fn P f ts [] v []):eu P hp ctr f us v hp:=
 .inl ⟨v,[],ts,h.toF,(V.ov hv).symm,rfl, .inr ⟨hl,hfl,fun id blk hb=>by simp[find]at hb⟩⟩
theorem lK {f:FuncId} {us ts:List W} {hp:HS} {ctr:Nat} {v:V} (hv:v.bY=true) (hl:bu (bB hp) us=some ts) (hfl:v.flat=true) (hfn:Fn P f ts [] v []):fN P f us hp ctr v hp (ctr+4):=by
 intro M A ρ a w n L xs h hx
 have hM: ∀ (ρ0:Env),(fun b=>o7 ρ0 [] b∨w.heap.size≤b)=fun b=>w.heap.size≤b:=by
  intro ρ0
  funext b
  simp[o7,find]
 have empty:HR (fun b=>o7 (fun _=>none) [] b∨w.heap.size≤b) (fun _=>False) (fun _=>none) (bt 4) [] w:=
  ⟨rfl,rfl,fun t v hv=>by simp[find]at hv,fun id b hb=>by simp[find]at hb,fun id id' b b' c hb=>by simp[find]at hb,fun _ _=>rfl,fun _ h=>h.elim,fun b hb=> .inr hb,h.dX.sub (fun b hb hm=>hm.elim (fun ho=>by obtain⟨_,_,hf,_⟩:=ho;simp[find]at hf) (fun hl=>by omega)) (fun _ h=>h.elim)⟩
 have hx':wY w (fun _=>False) (fun _=>none) ts xs.toList:=⟨(fF hl).trans hx.1,fun k u x hu zg=>by
  obtain⟨c,hc,hlc⟩:=dU hl k u hu
  exact fT (st:=⟨n,L,hp⟩) h (fun _ hb=>hb.elim) (fun _ _ _ _ _ hb=>hb) hlc (hx.2 k c x hc zg) _⟩
 refine(hfn w (fun _=>False) (fun _=>none) xs empty hx').mono ?_
 rintro e w' ⟨x,A1,ρ1,F1,rfl,SH,hr,dJ,_,hg⟩
 rw[hM]at hr dJ
 obtain⟨A2,ρ2,r1,r2,r3,r4,r5⟩:=Rel.import (st:=⟨n,L,hp⟩) h (nid:=ctr) (fun k h1 _=>h1) dJ hr (fun b hb hA=>(hg.2 b hb hA).elim) SH (.inr ⟨hfl,fun id blk hb=>by simp[find]at hb⟩)
 rw[V.ov hv]at r2
 exact⟨x,A2,ρ2,rfl,r1.sub gv,r2,r3,r4,r5⟩
theorem gq {call:sG Bool} {dx:sH Bool} {fuel:Nat} (hc:nn P call) (hd:j4 P dx) {f:FuncId} {fr:Aa} (hok:zY P f fr) {us:List W} {k:V→Bool}
 (h:ou false P call dx fuel fr us k=true): ∃v,Fn P f us [] v []∧v.bY=true∧k v=true:=by
 unfold ou at h
 obtain⟨hn,h⟩:=bp h
 simp only[Nat.ble_eq]at hn
 rw[uR]at h
 obtain⟨fn,c,hf,hb,hrc,hnt,IG,hds⟩:=hok
 obtain⟨e,bf,aF,bA,h1,h2⟩:=Eb (P:=P) hc hd hrc hds h
 have hrun: ∀c',(∃fn,P.funcs[f]? =some fn∧fn.body=some c')→O7 P fr.n c' (ju 0 us .nil) [] 4 e bf aF bA:=by
  rintro c' ⟨fn',me,hb'⟩
  rw[hf]at me
  simp only[Option.some.injEq]at me
  subst me
  rw[hb]at hb'
  simp only[Option.some.injEq]at hb'
  subst hb'
  exact h2
 have fin:rR e→ul false bf aF fr.res (fun vs=>nW (Hz false aF) vs fun ts=>k (aQ ts))=true→ ∃v,Fn P f us [] v []∧v.bY=true∧k v=true:=by
  intro he hr
  obtain⟨vs,h3,h4⟩:=tv IG hr
  obtain⟨ts,h5,h6⟩:=kF (fun x k h=>DM h) h4
  refine⟨aQ ts,Fg ⟨fn,c,hf,hb,hrc,hnt,IG,hds⟩ hn he hrun (fun fn' me=>?_) h5,?_,h6⟩
  · rw[hf]at me
    simp only[Option.some.injEq]at me
    subst me
    exact h3
  · refine uk ?_
    rw[List.all_eq_true]
    intro u hu
    obtain⟨k',hk',hke⟩:=List.getElem_of_mem hu
    obtain⟨v,_,E4⟩:=dU h5 k' u (by rw[←hke];simp[hk'])
    exact gb E4
 cases e with
 |normal=>exact fin (.inl rfl) h1
 |ret=>exact fin (.inr rfl) h1
 |_=>simp at h1
theorem pQ {call:sG Bool} {dx:sH Bool} {fuel:Nat} (hc:nn P call) (hd:j4 P dx) {f:FuncId} {fr:Aa} (hok:zY P f fr) {us:List W} {hp:HS} {ctr:Nat} {K:V→HS→Nat→Bool}
 (h:ze false P call dx fuel fr us hp ctr K=true): ∃v aF bA,fN P f us hp ctr v aF bA∧K v aF bA=true:=by
 unfold ze at h
 obtain⟨hn,h⟩:=bp h
 simp only[Nat.ble_eq]at hn
 rw[uR]at h
 obtain⟨fn,c,hf,hb,hrc,hnt,IG,hds⟩:=hok
 obtain⟨e,bf,aF,bA,h1,h2⟩:=Eb (P:=P) hc hd hrc hds h
 have hrun: ∀c',(∃fn,P.funcs[f]? =some fn∧fn.body=some c')→O7 P fr.n c' (ju 0 us .nil) hp ctr e bf aF bA:=by
  rintro c' ⟨fn',me,hb'⟩
  rw[hf]at me
  simp only[Option.some.injEq]at me
  subst me
  rw[hb]at hb'
  simp only[Option.some.injEq]at hb'
  subst hb'
  exact h2
 have fin:rR e→ul false bf aF fr.res (fun vs=>K (aQ vs) aF bA)=true→ ∃v aF bA,fN P f us hp ctr v aF bA∧K v aF bA=true:=by
  intro he hr
  obtain⟨vs,h3,h4⟩:=tv IG hr
  refine⟨aQ vs,aF,bA,vL ⟨fn,c,hf,hb,hrc,hnt,IG,hds⟩ hn he hrun (fun fn' me=>?_),h4⟩
  rw[hf]at me
  simp only[Option.some.injEq]at me
  subst me
  exact h3
 cases e with
 |normal=>exact fin (.inl rfl) h1
 |ret=>exact fin (.inr rfl) h1
 |_=>simp at h1
def Ea (P:Program) (gQ:Nat→Option Aa):Prop:= ∀f fr,gQ f=some fr→zY P f fr
def bS (P:Program) (Dk:Nat→List W→Option V):Prop:= ∀f us v,Dk f us=some v→Fn P f us [] v []∧v.bY=true
theorem rX {gQ:Nat→Option Aa} {Dk:Nat→List W→Option V} {fuel:Nat} (E5:Ea P gQ) (Cs:bS P Dk): ∀d,nn P (cA false P gQ Dk fuel d).1∧j4 P (cA false P gQ Dk fuel d).2
 |0=>⟨fun f us hp ctr K h=>by simp[cA]at h,fun f us hp ctr K h=>by simp[cA]at h⟩
 |d+1=>by
  obtain⟨ON,OM⟩:=rX E5 Cs (fuel:=fuel) d
  refine⟨fun f us hp ctr K h=>?_,fun f us hp ctr K h=>?_⟩
  · simp only[cA]at h
    split at h
    · rename_i fr hfr
      have hok:=E5 f fr hfr
      cases hi:fr.inl with
      |true=>
       rw[hi]at h
       exact pQ ON OM hok h
      |false=>
       rw[hi]at h
       simp only[fW]at h
       cases hT:qe us with
       |true=>
        rw[hT]at h
        simp only at h
        split at h
        · rename_i v hv
          rw[dD]at h
          obtain⟨h1,h2⟩:=Cs f us v hv
          exact⟨v,hp,ctr+4,nh (eb h2 hT h1),h⟩
        · obtain⟨v,h1,h2,h3⟩:=gq ON OM hok h
          rw[dD]at h3
          exact⟨v,hp,ctr+4,nh (eb h2 hT h1),h3⟩
       |false=>
        rw[hT]at h
        simp only at h
        cases hfl:(fr.flat&& (bu (bB hp) us).isSome)with
        |true=>
         rw[hfl]at h
         simp only at h
         obtain⟨ts,hts,h⟩:=kF (fun x k h=>DM h) h
         split at h
         · rename_i v hv
           have EZ:v.flat=true∧(ny (ctr+4) fun c=>K v hp c)=true:=bp h
           rw[dD]at EZ
           obtain⟨h1,h2⟩:=Cs f ts v hv
           exact⟨v,hp,ctr+4,lK h2 hts EZ.1 h1,EZ.2⟩
         · obtain⟨v,h1,h2,h3⟩:=gq ON OM hok h
           have EZ:v.flat=true∧(ny (ctr+4) fun c=>K v hp c)=true:=bp h3
           rw[dD]at EZ
           exact⟨v,hp,ctr+4,lK h2 hts EZ.1 h1,EZ.2⟩
        |false=>
         rw[hfl]at h
         exact pQ ON OM hok h
    · simp at h
  · simp only[cA]at h
    split at h
    · rename_i fr hfr
      have hok:=E5 f fr hfr
      cases hT:qe us with
      |true=>
       rw[hT]at h
       simp only[fW]at h
       split at h
       · rename_i v hv
         obtain⟨h1,h2⟩:=Cs f us v hv
         exact⟨v,hp,eb h2 hT h1,h⟩
       · obtain⟨v,h1,h2,h3⟩:=gq ON OM hok h
         exact⟨v,hp,eb h2 hT h1,h3⟩
      |false=>
       rw[hT]at h
       simp only[fW]at h
       split at h
       · rename_i ts hts
         split at h
         · rename_i v hv
           have EZ:v.flat=true∧K v hp=true:=bp h
           obtain⟨h1,h2⟩:=Cs f ts v hv
           exact⟨v,hp,sy h2 hts EZ.1 h1,EZ.2⟩
         · obtain⟨v,h1,h2,h3⟩:=gq ON OM hok h
           have EZ:v.flat=true∧K v hp=true:=bp h3
           exact⟨v,hp,sy h2 hts EZ.1 h1,EZ.2⟩
       · simp at h
    · simp at h
def HO:Value→Value→Bool
 | .int k a, .int k' b=>Nat.beq (Co k) (Co k')&&NR a b
 | .bool a, .bool b=>a==b
 | .string a, .string b=>a.data.toList==b.data.toList
 | .slice none 0 0, .slice none 0 0=>true
 |_,_=>false
theorem HN {a b:Value} (h:HO a b=true):a=b:=by
 unfold HO at h
 split at h
 · simp only[Bool.and_eq_true,HT,beq_iff_eq]at h
   rw[DF h.1,h.2]
 · simp only[beq_iff_eq]at h;rw[h]
 · rename_i a b
   simp only[beq_iff_eq]at h
   congr 1
   cases a;cases b
   congr 1
   exact Array.toList_inj.1 h
 · rfl
 · simp at h
mutual
def NQ:T→T→Bool
 | .val a, .val b=>HO a b
 | .av sz xs, .av sz' ys=>Nat.beq sz sz'&&xV xs ys
 |_,_=>false
def Fo:List T→List T→Bool
 | [],[]=>true
 |a::r,b::s=>NQ a b&&Fo r s
 |_,_=>false
def xV:Lz→Lz→Bool
 | [],[]=>true
 |a::r,b::s=>Fo a b&&xV r s
 |_,_=>false
end
mutual
theorem HP: ∀ {a b:T},NQ a b=true→a=b
 | .val a, .val b,h=>by simp only[NQ]at h;rw[HN h]
 | .av sz xs, .av sz' ys,h=>by
   simp only[NQ,Bool.and_eq_true,Nat.beq_eq]at h
   rw[h.1,Bm h.2]
 | .val _, .av ..,h=>by simp[NQ]at h
 | .av .., .val _,h=>by simp[NQ]at h
theorem DQ: ∀ {a b:List T},Fo a b=true→a=b
 | [],[],_=>rfl
 |a::r,b::s,h=>by
  simp only[Fo,Bool.and_eq_true]at h
  rw[HP h.1,DQ h.2]
 | [],_::_,h=>by simp[Fo]at h
 |_::_,[],h=>by simp[Fo]at h
theorem Bm: ∀ {a b:Lz},xV a b=true→a=b
 | [],[],_=>rfl
 |a::r,b::s,h=>by
  simp only[xV,Bool.and_eq_true]at h
  rw[DQ h.1,Bm h.2]
 | [],_::_,h=>by simp[xV]at h
 |_::_,[],h=>by simp[xV]at h
end
def Vb:C→C→Bool
 | .t a, .t b=>NQ a b
 |_,_=>false
def Fp:List C→List C→Bool
 | [],[]=>true
 |a::r,b::s=>Vb a b&&Fp r s
 |_,_=>false
def Va:W→W→Bool
 | .one a, .one b=>Vb a b
 | .agg a, .agg b=>Fp a b
 |_,_=>false
def Bl:List W→List W→Bool
 | [],[]=>true
 |a::r,b::s=>Va a b&&Bl r s
 |_,_=>false
def YX:V→V→Bool
 | .w a, .w b=>Va a b
 | .dQ a, .dQ b=>Bl a b
 |_,_=>false
theorem HU {a b:C} (h:Vb a b=true):a=b:=by
 cases a<;>cases b<;>simp[Vb]at h
 rw[HP h]
theorem DR: ∀ {a b:List C},Fp a b=true→a=b
 | [],[],_=>rfl
 |a::r,b::s,h=>by
  simp only[Fp,Bool.and_eq_true]at h
  rw[HU h.1,DR h.2]
 | [],_::_,h=>by simp[Fp]at h
 |_::_,[],h=>by simp[Fp]at h
theorem HM {a b:W} (h:Va a b=true):a=b:=by
 cases a<;>cases b<;>simp[Va]at h
 · rw[HU h]
 · rw[DR h]
theorem zG: ∀ {a b:List W},Bl a b=true→a=b
 | [],[],_=>rfl
 |a::r,b::s,h=>by
  simp only[Bl,Bool.and_eq_true]at h
  rw[HM h.1,zG h.2]
 | [],_::_,h=>by simp[Bl]at h
 |_::_,[],h=>by simp[Bl]at h
theorem NP {a b:V} (h:YX a b=true):a=b:=by
 cases a<;>cases b<;>simp[YX]at h
 · rw[HM h]
 · rw[zG h]
theorem aZ {gQ:Nat→Option Aa} {Dk:Nat→List W→Option V} {fuel d:Nat} (E5:Ea P gQ) (Cs:bS P Dk) {f:FuncId} {fr:Aa} (hfr:gQ f=some fr) {us:List W} {v:V}
 (h:ou false P (cA false P gQ Dk fuel d).1 (cA false P gQ Dk fuel d).2 fuel fr us (fun v'=>YX v' v)=true):Fn P f us [] v []∧v.bY=true:=by
 obtain⟨h1,h2⟩:=rX E5 Cs (fuel:=fuel) d
 obtain⟨v',h3,h4,h5⟩:=gq h1 h2 (E5 f fr hfr) h
 have:=NP h5
 subst this
 exact⟨h3,h4⟩
end Go.aS
end
section
namespace Go.aS
open Go
variable {P:Program} {M A:Nat→Prop} {ρ:Env} {F:Nat→Prop} {st:St} {a:Act} {w:World}
theorem kS.LK {ops:Array Oper} {i:Nat} {K:St→Nat→Prop} {ctr:Nat} (h:kS P ops i K st ctr): ∃st' c',K st' c'∧kS P ops i (fun s c=>s=st'∧c=c') st ctr:=by
 unfold kS at h⊢
 split at h
 · exact⟨st,ctr,h,⟨rfl,rfl⟩⟩
 · obtain⟨hd,h⟩:=h
   split at h
   · exact h.elim
   · rename_i hg
     exact⟨_,_,h,hd,by simp only[hg];exact⟨trivial,trivial⟩⟩
   · rename_i hg
     rcases h with h|h
     · obtain⟨g,us,hc,he,v,heap',c',h1,h2⟩:=h
       exact⟨_,_,h2,hd,by simp only[hg];refine .inl ⟨g,us,hc,he,v,heap',c',h1,?_⟩;first|trivial|exact⟨rfl,rfl⟩|exact⟨trivial,trivial⟩⟩
     · obtain⟨v,heap',h1,h2⟩:=h
       exact⟨_,_,h2,hd,by simp only[hg];refine .inr ⟨v,heap',h1,?_⟩;first|trivial|exact⟨rfl,rfl⟩|exact⟨trivial,trivial⟩⟩
theorem Kq.toWp {ops:Array Oper} {o:Oper} {i n:Nat} {x:Ro} {g:Option (Nat×Bool)} {ctr:Nat} {tm:TS} {hp:HS} {K:TS→HS→Nat→Prop}
 (hi:ops[i]? =some o) (hx:aY P o=some x) (hgd:gM ops o g) (h:Kq P n ⟨o.dst,g,x⟩ tm hp ctr K):
 ∃bf,(∀t,find bf t=find tm t)∧kS P ops i (nH n K) ⟨n,bf,hp⟩ ctr:=by
 unfold Kq at h
 split at h
 · exact h.elim
 · rename_i hd
   simp only at hd
   have gx: ∀ {bf:TS},(∀t,find bf t=find tm t)→aW ops o bf=some false→K (eL bf o.dst (.dQ [])) hp ctr→ ∃bf,(∀t,find bf t=find tm t)∧kS P ops i (nH n K) ⟨n,bf,hp⟩ ctr:=by
    intro bf he jf hK
    refine⟨bf,he,?_⟩
    unfold kS
    simp only[hi]
    refine⟨hd,?_⟩
    simp only[jf,kA]
    exact⟨rfl,hK⟩
   have wanted: ∀ {bf:TS},(∀t,find bf t=find tm t)→aW ops o bf=some true→wX P n ⟨o.dst,g,x⟩ bf hp ctr K→ ∃bf,(∀t,find bf t=find tm t)∧kS P ops i (nH n K) ⟨n,bf,hp⟩ ctr:=by
    intro bf he jf hX
    exact⟨bf,he,wX.wpOp (st:=⟨n,bf,hp⟩) hi hx hd jf hX⟩
   rcases hgd with⟨BS,rfl⟩|⟨j,want,d,BS,hj,rfl⟩
   · simp only at h
     exact wanted (fun _=>rfl) (by simp[aW,BS]) h
   · have eS: ∀ {bf:TS} {b:Bool},find bf d=some (bV b)→aW ops o bf=some (b==want):=by
      intro bf b hf
      simp only[aW,BS,hj,hf]
     simp only at h
     split at h
     · rename_i b hf
       have lit: ∀ {c:Bool},b=c→ ∀t,find ((d,bV c)::tm) t=find tm t:=by
        intro c hb t
        subst hb
        simp only[aq]
        split
        · rename_i e;subst e;exact hf.symm
        · rfl
       split at h
       · rcases jd h with⟨hb,h⟩|⟨hb,h⟩
         · exact wanted (lit hb) (by rw[eS (b:=true) (by simp[aq])];rfl) h
         · exact gx (lit hb) (by rw[eS (b:=false) (by simp[aq])];rfl) h
       · rcases jd h with⟨hb,h⟩|⟨hb,h⟩
         · exact gx (lit hb) (by rw[eS (b:=true) (by simp[aq])];rfl) h
         · exact wanted (lit hb) (by rw[eS (b:=false) (by simp[aq])];rfl) h
     · rename_i hf
       exact gx (fun _=>rfl) (by simp only[aW,BS,hj,hf]) h
     · exact h.elim
theorem Ac {K:TS→HS→Nat→Prop} {Q:Exit→TS→HS→Nat→Prop} {e:Exit} (h:e≠ .normal):gU K Q e=Q e:=by
 cases e<;>first|rfl|exact absurd rfl h
theorem F3 {K:St→Nat→Prop} {Q:Exit→St→Nat→Prop} {e:Exit} (h:e≠ .normal):F4 K Q e=Q e:=by
 cases e<;>first|rfl|exact absurd rfl h
theorem Ef {id:Nat} {Q:Exit→TS→HS→Nat→Prop} {e:Exit} (h: ∀i,e≠ .exit i):yl id Q e=Q e:=by
 cases e<;>first|rfl|exact absurd rfl (h _)
theorem Fx {id:Nat} {Q:Exit→St→Nat→Prop} {e:Exit} (h: ∀i,e≠ .exit i):rj id Q e=Q e:=by
 cases e<;>first|rfl|exact absurd rfl (h _)
def Is (st':St) (c':Nat):St→Nat→Prop:=fun s c=>s=st'∧c=c'
theorem tj.LK {ops:Array Oper} {n:Nat} {K:TS→HS→Nat→Prop}: ∀ {l:List Oper} {rs:List kr} {k:Nat} {tm:TS} {hp:HS} {ctr:Nat},
 (∀j,ops[k+j]? =l[j]?)→aT P ops l=some rs→tj P n rs tm hp ctr K→
 ∃st' c',nH n K st' c'∧ ∀ (M A:Nat→Prop) (ρ:Env) (a:Act) (w:World) (Q:Exit→Act→World→Prop),Rel M A ρ (bt ctr) ⟨n,tm,hp⟩ a w→(∀a' w',Post M A ρ w (Is st' c') a' w'→Q .normal a' w')→
  wpOps P ops Q (List.range' k l.length) a w
 | [],rs,k,tm,hp,ctr,hl,eA,h=>by
   simp only[aT,Option.some.injEq]at eA
   subst eA
   exact⟨⟨n,tm,hp⟩,ctr,⟨rfl,h⟩,fun M A ρ a w Q hr hq=>hq _ _ (Post.here hr ⟨rfl,rfl⟩)⟩
 |o::l,rs,k,tm,hp,ctr,hl,eA,h=>by
  simp only[aT]at eA
  split at eA
  · rename_i x l' hx hl'
    have hi:ops[k]? =some o:=by simpa using hl 0
    obtain⟨g,rfl,hgd⟩:=jw eA
    simp only[tj]at h
    obtain⟨bf,he,hw⟩:=Kq.toWp (ops:=ops) hi hx hgd h
    obtain⟨st1,c1,⟨rV,hK1⟩,EY⟩:=kS.LK hw
    obtain⟨n1,nF,hp1⟩:=st1
    simp only at rV hK1
    subst rV
    obtain⟨st2,c2,hK2,UM⟩:=tj.LK (k:=k+1) (fun j=>by have:=hl (j+1);rw[show k+1+j=k+(j+1) by omega,this];simp) hl' hK1
    refine⟨st2,c2,hK2,fun M A ρ a w Q hr hq=>?_⟩
    rw[List.length_cons,List.range'_succ,wpOps_cons]
    have dr:Rel M A ρ (bt ctr) ⟨n1,bf,hp⟩ a w:=hr.forget rfl (fun t v hv=>by rw[←he t];exact hv) (fun _ _ hb=>hb)
    refine kS.sound EY dr fun a' w' aF=>?_
    obtain⟨st',c',A',ρ',⟨rfl,rfl⟩,h2,h3,h4,h5⟩:=aF
    exact UM M A' ρ' a' w' Q h2 fun a2 w2 hp2=>hq _ _ (hp2.trans h3 h4 h5)
  · simp at eA
theorem X.LK {n:Nat}: ∀ {c:Code} {r:Rc},aP P c=some r→ ∀ {Q:Exit→TS→HS→Nat→Prop} {tm:TS} {hp:HS} {ctr:Nat},X P n r Q tm hp ctr→
 ∃e st' c',nH n (Q e) st' c'∧Wp P c (fun e2 s c=>e2=e∧Is st' c' s c) ⟨n,tm,hp⟩ ctr:=by
 intro c
 induction c with
 |skip=>
  intro r hr Q tm hp ctr h
  simp only[aP,Option.some.injEq]at hr
  subst hr
  exact⟨.normal,⟨n,tm,hp⟩,ctr,⟨rfl,h⟩,Wp.skip ⟨rfl,rfl,rfl⟩⟩
 |ret=>
  intro r hr Q tm hp ctr h
  simp only[aP,Option.some.injEq]at hr
  subst hr
  exact⟨.ret,⟨n,tm,hp⟩,ctr,⟨rfl,h⟩,Wp.ret ⟨rfl,rfl,rfl⟩⟩
 |exit id=>
  intro r hr Q tm hp ctr h
  simp only[aP,Option.some.injEq]at hr
  subst hr
  exact⟨.exit id,⟨n,tm,hp⟩,ctr,⟨rfl,h⟩,Wp.exit ⟨rfl,rfl,rfl⟩⟩
 |seq x y G3 G2=>
  intro r hr Q tm hp ctr h
  simp only[aP]at hr
  split at hr
  · rename_i rx ry hx hy
    simp only[Option.some.injEq]at hr
    subst hr
    simp only[X]at h
    obtain⟨e1,st1,c1,⟨rV,h1⟩,w1⟩:=G3 hx h
    obtain⟨n1,nF,hp1⟩:=st1
    simp only at rV h1
    subst rV
    by_cases mP:e1= .normal
    · subst mP
      obtain⟨e2,st2,c2,h2,w2⟩:=G2 hy h1
      refine⟨e2,st2,c2,h2,Wp.seq (w1.mono ?_)⟩
      rintro e s c ⟨rfl,rfl,rfl⟩
      exact w2
    · rw[Ac mP]at h1
      refine⟨e1,⟨n1,nF,hp1⟩,c1,⟨rfl,h1⟩,Wp.seq (w1.mono ?_)⟩
      rintro e s c ⟨rfl,rfl,rfl⟩
      rw[F3 mP]
      exact⟨rfl,rfl,rfl⟩
  · simp at hr
 |cond c x y G3 G2=>
  intro r hr Q tm hp ctr h
  simp only[aP]at hr
  split at hr
  · rename_i rx ry hx hy
    simp only[Option.some.injEq]at hr
    subst hr
    simp only[X]at h
    split at h
    · rename_i b hb
      have hb':((⟨n,tm,hp⟩:St).get c).gk =some b:=by rw[←bh];exact hb
      rcases jd h with⟨rfl,h⟩|⟨rfl,h⟩
      · obtain⟨e,s,c',h1,h2⟩:=G3 hx h
        exact⟨e,s,c',h1,Wp.cond hb' h2⟩
      · obtain⟨e,s,c',h1,h2⟩:=G2 hy h
        exact⟨e,s,c',h1,Wp.cond hb' h2⟩
    · exact h.elim
  · simp at hr
 |block id b ih=>
  intro r hr Q tm hp ctr h
  simp only[aP]at hr
  split at hr
  · rename_i rb hb
    simp only[Option.some.injEq]at hr
    subst hr
    simp only[X]at h
    obtain⟨e1,st1,c1,⟨rV,h1⟩,w1⟩:=ih hb h
    cases e1 with
    |exit id'=>
     simp only[yl]at h1
     split at h1
     · rename_i bJ
       refine⟨_,_,_,⟨rV,h1⟩,Wp.block (w1.mono ?_)⟩
       rintro e s c ⟨rfl,rfl,rfl⟩
       simp only[rj,bJ,if_true]
       exact⟨trivial,rfl,rfl⟩
     · rename_i bJ
       refine⟨_,_,_,⟨rV,h1⟩,Wp.block (w1.mono ?_)⟩
       rintro e s c ⟨rfl,rfl,rfl⟩
       simp only[rj,bJ,if_false]
       exact⟨trivial,rfl,rfl⟩
    |_=>
     rw[Ef (by simp)]at h1
     refine⟨_,st1,c1,⟨rV,h1⟩,Wp.block (w1.mono ?_)⟩
     rintro e s c ⟨rfl,rfl,rfl⟩
     rw[Fx (by simp)]
     exact⟨rfl,rfl,rfl⟩
  · simp at hr
 |loop b ih=>
  intro r hr Q tm hp ctr h
  simp only[aP]at hr
  split at hr
  · rename_i rb hb
    simp only[Option.some.injEq]at hr
    subst hr
    simp only[X]at h
    obtain⟨I,Yw,Ct⟩:=h
    obtain⟨sI,o6,c0,ID,m,hI⟩:=Yw.get
    have key: ∀ (m:Nat) (tm:TS) (hp:HS) (c:Nat),I m tm hp c→ ∃e st' c',nH n (Q e) st' c'∧ ∀ (M A:Nat→Prop) (ρ:Env) (a:Act) (w:World) (b':Frame) (kk:List _) (cs:List _),Rel M A ρ (bt c) ⟨n,tm,hp⟩ a w→
     ∃a' w',Post M A ρ w (Is st' c') a' w'∧Arrives P (lone (b'.at a (.code b:: .inLoop b::kk)) cs w) b' kk cs e a' w':=by
     intro m
     induction m using Nat.strongRecOn with
     |_ m ihm=>
      intro tm hp c hI
      obtain⟨e1,st1,c1,⟨rV,h1⟩,w1⟩:=ih hb (Ct m tm hp c hI)
      obtain⟨n1,nF,hp1⟩:=st1
      simp only at rV h1
      subst rV
      by_cases mP:e1= .normal
      · subst mP
        obtain⟨tm3,hp3,c3,Xy,m',hm',Ty⟩:=bM.get h1
        obtain⟨e2,st2,c2,h2,rW⟩:=ihm m' hm' _ _ _ Ty
        refine⟨e2,st2,c2,h2,fun M A ρ a w b' kk cs hr=>?_⟩
        obtain⟨e,a1,I5,⟨rfl,st',c',A',ρ',⟨rfl,rfl⟩,r2,r3,r4,r5⟩,jG⟩:=(by
         obtain⟨e,a1,I5,hp1,jG⟩:=w1 M A ρ a w hr b' (.inLoop b::kk) cs
         obtain⟨st',c',A',ρ',⟨he,hs⟩,r⟩:=hp1
         exact⟨e,a1,I5,⟨he,st',c',A',ρ',hs,r⟩,jG⟩: ∃e a1 I5,(e=Exit.normal∧ ∃st' c' A' ρ',Is ⟨n1,nF,hp1⟩ c1 st' c'∧Rel M A' ρ' (bt c') st' a1 I5∧df M w I5∧iJ ρ ρ'∧fM M A A' w)∧Arrives P (lone (b'.at a (.code b:: .inLoop b::kk)) cs w) b' (.inLoop b::kk) cs e a1 I5)
        obtain⟨A2,ρ2,qN,Hr,xN⟩:=Xy _ _ _ _ _ _ r2
        obtain⟨a2,w2,hp2,A8⟩:=rW M A2 ρ2 a1 I5 b' kk cs qN
        exact⟨a2,w2,hp2.trans r3 (r4.trans Hr) (r5.trans xN r3.size), .of_steps (Steps.trans jG (.one step_inLoop)) A8⟩
      · rw[Ac mP]at h1
        refine⟨e1,⟨n1,nF,hp1⟩,c1,⟨rfl,h1⟩,fun M A ρ a w b' kk cs hr=>?_⟩
        obtain⟨e,a1,I5,X4,jG⟩:=w1 M A ρ a w hr b' (.inLoop b::kk) cs
        obtain⟨st',c',A',ρ',⟨rfl,hs⟩,r⟩:=X4
        refine⟨a1,I5,⟨st',c',A',ρ',hs,r⟩,?_⟩
        cases e with
        |normal=>exact absurd rfl mP
        |_=>exact .pass (x:= .inLoop b) rfl (fun _ _=> .inl (by simp)) jG
    obtain⟨e,st',c',h1,h2⟩:=key m _ _ _ hI
    refine⟨e,st',c',h1,Wp.FW (st:=⟨n,tm,hp⟩) ID ?_⟩
    intro M A ρ a w hr b' kk cs
    obtain⟨a',w',aF,jG⟩:=h2 M A ρ a w b' kk cs hr
    obtain⟨s1,s2,s3,s4,s5,s6⟩:=aF
    exact⟨e,a',w',⟨s1,s2,s3,s4,⟨rfl,s5⟩,s6⟩, .of_steps (.one step_loop) jG⟩
  · simp at hr
 |region id ops d=>
  intro r hr Q tm hp ctr h
  cases d with
  |true=>
   simp only[aP]at hr
   split at hr
   · rename_i l hl
     split at hr
     · rename_i hc
       simp only[Bool.and_eq_true]at hc
       simp only[Option.some.injEq]at hr
       subst hr
       simp only[X]at h
       obtain⟨tmT,hpT,v,fs,⟨q0,q1⟩,_,q3,q4,q5⟩:=qg.trace (P:=P) (ops:=ops) (n:=n) (base:=ctr) (k:=0) (fun j=>by simp) hl rfl (by simpa using h)
       simp only[Nat.zero_add]at q1 q5
       refine⟨.normal,⟨n,tmT ops.size,hpT ops.size⟩,ctr+4 * ops.size,⟨rfl,by simpa using q1⟩,?_⟩
       intro M A ρ a w cE
       have AV:Rel M A ρ (bt ctr) ⟨n,tmT 0,hpT 0⟩ a w:=cE.forget rfl (fun t u hu=>by rw[←q3 t];exact hu) (fun k b hb=>by rw[q4]at hb;exact hb)
       refine vC hc.1 (fun i o ho=>q5 i o (by simpa using ho)) (fun i o ho e he=>?_) q0 AV ?_
       · have:=jc hc.2 i (bc o) (by simp[ho]) e he
         omega
       · rintro a' w' ⟨st',c',A',ρ',⟨rfl,rfl⟩,h2⟩
         exact⟨_,_,A',ρ',⟨rfl,rfl,rfl⟩,h2⟩
     · simp at hr
   · simp at hr
  |false=>
   simp only[aP]at hr
   split at hr
   · rename_i l hl
     simp only[Option.some.injEq]at hr
     subst hr
     simp only[X]at h
     obtain⟨st',c',h1,h2⟩:=tj.LK (P:=P) (ops:=ops) (k:=0) (l:=ops.toList) (fun j=>by simp) hl h
     refine⟨.normal,st',c',h1,fun M A ρ a w cE=>wp_region ?_⟩
     have:=h2 M A ρ a w (fun e a' w'=>Post M A ρ w (fun s c=>e= .normal∧Is st' c' s c) a' w') cE (fun a' w' hp=>by
      obtain⟨s1,s2,s3,s4,s5,s6⟩:=hp
      exact⟨s1,s2,s3,s4,⟨rfl,s5⟩,s6⟩)
     rw[List.range_eq_range']
     simpa using this
   · simp at hr
 |_=>intro r hr;simp[aP]at hr
def TW (P:Program) (rs:List ResultVar) (Good:List W→Prop):Exit→TS→HS→Nat→Prop
 | .normal,tm,hp,_| .ret,tm,hp,_=> ∃us ts,aM P hp tm rs=some us∧bu (bB hp) us=some ts∧Good ts
 |_,_,_,_=>False
section
variable {Tb:Tables} {F F':Array Func}
theorem BA: ∀n,(Program.mk Tb F).alikeButTags n=(Program.mk Tb F').alikeButTags n
 |0=>by funext t u;rfl
 |n+1=>by
  funext t u
  simp only[Program.alikeButTags,BA n]
theorem By:(Program.mk Tb F).stoodInHeld=(Program.mk Tb F').stoodInHeld:=by
 funext t
 have:= @BA Tb F F'
 simp only[Program.stoodInHeld,Program.stoodInAs,Program.underlying,Program.underlyingId,Program.depth,this]
 rfl
theorem Bz: ∀n,(Program.mk Tb F).eqGuardType n=(Program.mk Tb F').eqGuardType n
 |0=>by funext t;rfl
 |n+1=>by
  funext t
  have:= @By Tb F F'
  simp only[Program.eqGuardType,Bz n,Program.underlying]
theorem Mn (P:Program) (t:TypeId):aH P (underlying t)=P.underlying t:=by
 cases h:P.underlying t with
 |some d=>exact aN h
 |none=>
  show aH P (match P.underlying t with|some d=>pure d|none=>stuck "no such type")=none
  rw[h]
  rfl
theorem Kk (t:TypeId):rP (Program.mk Tb F) t=rP (Program.mk Tb F') t:=by
 have h:(Program.mk Tb F).underlying t=(Program.mk Tb F').underlying t:=rfl
 simp only[rP,isAgg,aJ,Mn,h]
 cases(Program.mk Tb F').underlying t with
 |none=>rfl
 |some d=>cases d<;>rfl
theorem DY: ∀ (fs:List Field) off,kj (Program.mk Tb F) off fs=kj (Program.mk Tb F') off fs
 | [],_=>rfl
 |f::r,off=>by simp only[kj,DY r,Kk (F:=F) (F':=F')]
theorem xY: ∀ (fs:List Field),placesOf (Program.mk Tb F) fs=placesOf (Program.mk Tb F') fs
 | []=>rfl
 |f::r=>by simp only[placesOf,xY r];rfl
theorem TP (he: ∀f,enters (Program.mk Tb F) f=enters (Program.mk Tb F') f) (o:Oper):aY (Program.mk Tb F) o=aY (Program.mk Tb F') o:=by
 have h1:placesOf (Program.mk Tb F)=placesOf (Program.mk Tb F'):=funext xY
 have h2:kj (Program.mk Tb F)=kj (Program.mk Tb F'):=funext fun o=>funext fun l=>DY l o
 have h3:= @Bz Tb F F'
 have h4:= @By Tb F F'
 have h5:o3 (Program.mk Tb F)=o3 (Program.mk Tb F'):=by
  funext t
  simp only[o3,h2,h3,h4,Program.depth]
  rfl
 have h6:(Program.mk Tb F).underlying=(Program.mk Tb F').underlying:=rfl
 have h7:iR (Program.mk Tb F)=iR (Program.mk Tb F'):=rfl
 have h8:cG (Program.mk Tb F)=cG (Program.mk Tb F'):=rfl
 have h9:B4 (Program.mk Tb F)=B4 (Program.mk Tb F'):=rfl
 have h10:mZ (Program.mk Tb F)=mZ (Program.mk Tb F'):=rfl
 have h11:Cg (Program.mk Tb F)=Cg (Program.mk Tb F'):=rfl
 have h12:enters (Program.mk Tb F)=enters (Program.mk Tb F'):=funext he
 simp only[aY,lu,aI,h1,h5,h6,h7,h8,h9,h10,h11,h12]
theorem H9 (he: ∀f,enters (Program.mk Tb F) f=enters (Program.mk Tb F') f) (all:Array Oper): ∀l,aT (Program.mk Tb F) all l=aT (Program.mk Tb F') all l
 | []=>rfl
 |o::r=>by simp only[aT,TP he,H9 he all r]
theorem Y4 (he: ∀f,enters (Program.mk Tb F) f=enters (Program.mk Tb F') f) (c:Code):aP (Program.mk Tb F) c=aP (Program.mk Tb F') c:=by
 induction c with
 |region a ops b=>cases b<;>simp only[aP,H9 he]<;>rfl
 |_=>simp only[aP, *]
end
def K5 (b:Bool):Func:={name:= "",origin:= "",params:= #[],resultTypes:= #[],nfree:=0,ntmps:=0,results:= #[],body:=if b then some .skip else none,norace:=false,tmpNames:= #[]}
def Dm:Array Func:=(Sj.foldl (fun l i=>l.set i (K5 false)) (List.replicate W9 (K5 true))).toArray
class ni (P:Program) (Tb:outParam Tables):Prop where
 tb:P.toTables=Tb
 ok: ∀f,enters P f=enters ⟨Tb,Dm⟩ f
theorem ni.of {P:Program} {Tb:Tables} (h:P.toTables=Tb) (n:Nat) (h1:Nat.ble P.funcs.size n=true) (h2:Nat.ble Dm.size n=true) (h3:((List.range n).all fun f=>enters P f==enters ⟨Tb,Dm⟩ f)=true):ni P Tb:=by
 refine⟨h,fun f=>?_⟩
 by_cases hf:f < n
 · have:=List.all_eq_true.1 h3 f (List.mem_range.2 hf)
   simpa using this
 · have hf:=Nat.le_of_not_lt hf
   simp only[enters,Array.getElem?_eq_none (Nat.le_trans (Nat.le_of_ble_eq_true h1) hf),Array.getElem?_eq_none (Nat.le_trans (Nat.le_of_ble_eq_true h2) hf)]
def NG (Tb:Tables) (fn:Func):Option (Nat×List ResultVar×Rc):=
 match fn.body with
 |some b=>match aP ⟨Tb,Dm⟩ b with
  |some r=>some (fn.ntmps,fn.results.toList,r)
  |none=>none
 |none=>none
theorem zC {P:Program} {Tb:Tables} [hS:ni P Tb] {fn:Func} {n:Nat} {rs:List ResultVar} {r:Rc} (h:NG Tb fn=some (n,rs,r)): ∃c,fn.body=some c∧aP P c=some r∧fn.ntmps=n∧fn.results.toList=rs:=by
 obtain⟨h0,he⟩:=hS
 obtain⟨Tb',Fs⟩:=P
 subst h0
 unfold NG at h
 split at h
 · rename_i b hb
   split at h
   · rename_i q hq
     simp only[Option.some.injEq,Prod.mk.injEq]at h
     exact⟨b,hb,by rw[Y4 he,hq,h.2.2],h.1,h.2.1⟩
   · cases h
 · cases h
theorem ae {Tb:Tables} [ni P Tb] {f:FuncId} {fn:Func} {r:Rc} {args:List W} {n:Nat} {rs:List ResultVar} {Good:List W→Prop} (hf:P.funcs[f]? =some fn) (h:X P n r (TW P rs Good) (dc 0 args) [] 4)
 (hi:NG Tb fn=some (n,rs,r):=by conv=>lhs;cbv) (hl:args.length≤n:=by simp): ∃ts,Fn P f args [] (aQ ts) []∧(aQ ts).bY=true∧Good ts:=by
 obtain⟨c,hb,hr,hn,eA⟩:=zC (P:=P) hi
 subst hn
 subst eA
 obtain⟨e,st',c',⟨hn',hq⟩,hw⟩:=X.LK hr h
 obtain⟨n',bf,aF⟩:=st'
 simp only at hn' hq
 subst hn'
 have main: ∀us ts,rR e→aM P aF bf fn.results.toList=some us→bu (bB aF) us=some ts→Good ts→ ∃ts,Fn P f args [] (aQ ts) []∧(aQ ts).bY=true∧Good ts:=by
  intro vs ts he fR hts hg
  refine⟨ts,?_,uk ?_,hg⟩
  · intro w A ρ xs hH hxs
    refine calls_of_wp hf hb ?_
    have hl':args.length=xs.size:=by simpa using hxs.1
    have cE:Rel (fun b=>o7 ρ [] b∨w.heap.size≤b) A ρ (bt 4) ⟨fn.ntmps,dc 0 args,[]⟩ {tmps:=xs++Array.replicate (fn.ntmps - xs.size) undef,defers:=[]} w:=by
     refine⟨by simp;omega,rfl,fun t v hv=>?_,hH.heap,hH.inj,hH.fresh,hH.bound,hH.may,hH.dX⟩
     obtain⟨_,u,hu,rfl⟩:=eG _ _ _ _ hv
     simp only[Nat.sub_zero]at hu
     have ht:t < xs.size:=by rw[←hl'];exact(List.getElem?_eq_some_iff.1 hu).1
     have zg:xs.toList[t]? =some xs[t]:=by simp[ht]
     have:=hxs.2 t u _ hu zg
     have e:(xs++Array.replicate (fn.ntmps - xs.size) undef).getD t undef=xs[t]:=by simp[Array.getD_eq_getD_getElem?,Array.getElem?_append_left ht,ht]
     rw[e]
     exact this
    refine wp_mono (hw _ A ρ _ w cE) ?_
    rintro e2 a' w' ⟨st2,c2,A',ρ',⟨rfl,rfl,rfl⟩,dr,dJ,cF,OW⟩
    have jf:=xP hH.bound OW
    obtain⟨ws,hvs,hR⟩:=ey dr fR
    have hm:(fn.results.mapM fun(r:ResultVar)=>match r with
     | .tmp t=>(pure (a'.tmps.getD t undef):Sem Value)
     | .cell b t=>do loadVar t (←asAddr (a'.tmps.getD b undef))).run P w'= .ok ws.toArray w':=by
     rw[Array.mapM_eq_mapM_toList]
     simp only[Sem.run_map]
     exact(congrArg (fun r:Result (List Value)=>Result.andThen r fun a w'=>Result.ok a.toArray w') hvs).trans rfl
    have hrun:(results fn a'.tmps).run P w'= .ok (if h:ws.toArray.size=1 then ws.toArray[0]else .tuple ws.toArray) w':=by
     show(Bind.bind (fn.results.mapM fun(r:ResultVar)=>match r with
      | .tmp t=>(pure (a'.tmps.getD t undef):Sem Value)
      | .cell b t=>do loadVar t (←asAddr (a'.tmps.getD b undef))) fun vs=>Pure.pure (if h:vs.size=1 then vs[0]else .tuple vs)).run P w'=_
     rw[Sem.run_bind,hm]
     rfl
    have hB: ∀id blk b,find aF id=some blk→ρ' id=some (.fz b)→¬A b:=by
     intro id blk b hf hρ hA
     have hM:=(Rel.own dr hf hρ).1
     rcases hM with⟨id',fp,me,_⟩|hM
     · simp[find]at me
     · have:=hH.bound b hA
       omega
    have hlen:=fF hts
    have one: ∀ (k:Nat) (u:W) (y:Value),ts[k]? =some u→(∀v,vs[k]? =some v→RW w' A' ρ' v y)→RW w' A ρ u y:=by
     intro k u y hu hv
     obtain⟨v,jT,E4⟩:=dU hts k u hu
     exact fT dr (fun b hb=>jf.1 b hb) hB E4 (hv v jT) ρ
    have fin:a'.defers=[]∧ ∃v,(results fn a'.tmps).run P w'= .ok v w'∧ ∃x A' ρ' F',Ending.returned v= .returned x∧RV w' A' ρ' (aQ ts) x∧HR (fun b=>o7 ρ [] b∨w.heap.size≤b) A' ρ' F' [] w'∧
     df (fun b=>o7 ρ [] b∨w.heap.size≤b) w w'∧iJ ρ ρ'∧bE A A' w:=by
     refine⟨dr.defers,_,hrun,_,A,ρ,bt 4,rfl,?_,⟨rfl,rfl,fun t v hv=>by simp[find]at hv,fun id blk hb=>by simp[find]at hb,fun id id' b b' q hb=>by simp[find]at hb,hH.fresh,fun b hb=>Nat.lt_of_lt_of_le (hH.bound b hb) dJ.size,fun b hb=> .inr (Nat.le_trans dJ.size hb),hH.dX.Fk dJ (fun _ _ h=>h)⟩,dJ,iJ.refl _,bE.refl _ _⟩
     match vs,ws,ts,hR,hlen,one with
     | [],[],[],_,_,_=>exact⟨#[],by simp,rfl,by simp⟩
     | [u],[v],[t],hR,_,one=>exact one 0 t v rfl (fun v' jT=>by simp only[List.getElem?_cons_zero,Option.some.injEq]at jT;subst jT;exact hR.2 0 u v rfl rfl)
     |u::u2::r,v::v2::s,t::t2::q,hR,hlen,one=>
      have hne:¬ (v::v2::s).toArray.size=1:=by simp
      simp only[hne,dite_false]
      refine⟨_,rfl,?_,fun k x y hx hy=>one k x y hx (fun v' jT=>hR.2 k v' y jT (by simpa using hy))⟩
      have:=hR.1
      simp at this hlen⊢
      omega
     | [],_::_,_,hR,_,_=>exact absurd hR.1 (by simp)
     |_::_,[],_,hR,_,_=>exact absurd hR.1 (by simp)
     | [_],_::_::_,_,hR,_,_=>exact absurd hR.1 (by simp)
     |_::_::_,[_],_,hR,_,_=>exact absurd hR.1 (by simp)
     | [],[],_::_,_,hlen,_=>simp at hlen
     | [_],[_],[],_,hlen,_=>simp at hlen
     | [_],[_],_::_::_,_,hlen,_=>simp at hlen
     |_::_::_,_::_::_,[],_,hlen,_=>simp at hlen
     |_::_::_,_::_::_,[_],_,hlen,_=>simp at hlen
    rcases he with rfl|rfl
    · exact fin
    · exact fin
  · rw[List.all_eq_true]
    intro u hu
    obtain⟨k',hk',hke⟩:=List.getElem_of_mem hu
    obtain⟨v,_,E4⟩:=dU hts k' u (by rw[←hke];simp[hk'])
    exact gb E4
 cases e with
 |normal=>obtain⟨us,ts,h1,h2,h3⟩:=hq;exact main us ts (.inl rfl) h1 h2 h3
 |ret=>obtain⟨us,ts,h1,h2,h3⟩:=hq;exact main us ts (.inr rfl) h1 h2 h3
 |_=>exact hq.elim
end Go.aS
end
section
namespace Go.aS.Cd
open Go Go.Proofs
instance WE:ni Tryz.prog Tryz.progTables:=ni.of rfl 300 (by kernel_rfl) (by kernel_rfl) (by kernel_rfl)
abbrev t (n:Nat):dO:= .t n
abbrev k (n:Int):dO:= .c (iV .i64 n)
abbrev kb (b:Bool):dO:= .c (bV b)
abbrev p (d:Nat) (r:Ro):kr:=⟨some d,none,r⟩
abbrev q (r:Ro):kr:=⟨none,none,r⟩
abbrev i (n:Int):T:= .val (.int .i64 n)
abbrev u (n:Int):T:= .val (.int .u32 n)
abbrev bo (b:Bool):T:= .val (.bool b)
abbrev nl:T:= .val (.slice none 0 0)
abbrev Bt (d:Nat) (o:BinOp) (a b:Nat):kr:=p d (.bin o (t a) (t b))
abbrev Bi (d:Nat) (o:BinOp) (a:Nat) (n:Int):kr:=p d (.bin o (t a) (k n))
abbrev Pt (d a b:Nat):kr:=p d (.pick (t a) (kb true) (t b))
abbrev Pf (d a b:Nat):kr:=p d (.pick (t a) (t b) (kb false))
variable {P:Program}
def Iy (P:Program):List (Nat×Aa)→Prop
 | []=>True
 |(f,fr)::r=>zY P f fr∧Iy P r
theorem Bd: ∀ {l:List (Nat×Aa)},Iy P l→Ea P (find l)
 | [],_,f,fr,h=>by simp[find]at h
 |(g,gr)::r,hl,f,fr,h=>by
  rw[aq]at h
  split at h
  · rename_i e
    subst e
    simp only[Option.some.injEq]at h
    subst h
    exact hl.1
  · exact Bd hl.2 f fr h
def bN:List (Nat×List W×V)→Nat→List W→Option V
 | [],_,_=>none
 |(g,ar,v)::r,f,us=>fW (Nat.beq g f&&Bl ar us) (some v) (bN r f us)
theorem Ja:bS P (bN []):=fun f us v h=>by simp[bN]at h
theorem aV {l:List (Nat×List W×V)} {g:Nat} {ar:List W} {v:V} (h:bS P (bN l)) (he:Fn P g ar [] v []∧v.bY=true):bS P (bN ((g,ar,v)::l)):=by
 intro f us v' hv
 simp only[bN]at hv
 cases hc:(Nat.beq g f&&Bl ar us)with
 |true=>
  rw[hc]at hv
  simp only[fW,Option.some.injEq]at hv
  subst hv
  simp only[Bool.and_eq_true,Nat.beq_eq]at hc
  obtain⟨rfl,h2⟩:=hc
  rw[←zG h2]
  exact he
 |false=>
  rw[hc]at hv
  exact h f us v' hv
end Go.aS.Cd
end
section
namespace Go.aS
open Go
variable {P:Program} {M A:Nat→Prop} {ρ:Env} {F:Nat→Prop} {st:St} {a:Act} {w:World}
theorem HB.ak {M2:Nat→Prop} {ρ2:Env} {f:Nat→Option Nat} {id k:Nat} {blk:bi} (h:HB w M A ρ id blk) (hρ: ∀id k l,f id=some k→ρ id=some l→ρ2 k=some l)
 (hk: ∀l,ρ id=some l→ρ2 k=some l) (hM: ∀b,ρ id=some (.fz b)→M b→M2 b):HB w M2 A ρ2 k (blk.ak f):=by
 cases blk with
 |row sz xs=>
  obtain⟨q1,q2⟩:=h
  refine⟨fun e he=>?_,?_⟩
  · simp only[List.mem_map]at he
    obtain⟨e',he',rfl⟩:=he
    simpa using q1 e' he'
  · rcases q2 with⟨b,c,e,k1,k2,k3,k4,k5,k6⟩|⟨k1,k2⟩
    · refine .inl ⟨b,c,e,hk _ k1,hM b k1 k2,k3,k4,by simpa using k5,fun i el j q hi hj=>?_⟩
      simp only[List.getElem?_map,Option.map_eq_some_iff]at hi
      obtain⟨BX,A5,rfl⟩:=hi
      simp only[List.getElem?_map,Option.map_eq_some_iff]at hj
      obtain⟨q',DJ,rfl⟩:=hj
      obtain⟨y,hy,dr,h1⟩:=k6 i BX j q' A5 DJ
      exact⟨y,hy,dr.ak hρ,h1⟩
    · exact .inr ⟨hk _ k1,by rw[k2];rfl⟩
 |mp es clock=>
  obtain⟨b,en,k1,k2,k3,k4,k5,k6⟩:=h
  refine⟨b,en,hk _ k1,hM b k1 k2,k3,k4,by simpa using k5,fun i k c n hi=>?_⟩
  simp only[List.getElem?_map,Option.map_eq_some_iff]at hi
  obtain⟨⟨k',c',n'⟩,hi',he⟩:=hi
  simp only[Prod.mk.injEq]at he
  obtain⟨rfl,rfl,rfl⟩:=he
  obtain⟨e,h1,h2,h3,h4,h5⟩:=k6 i k' c' n' hi'
  exact⟨e,h1,h2,h3,h4.ak hρ,h5.ak⟩
theorem HB.some {id:Nat} {blk:bi} (h:HB w M A ρ id blk): ∃l,ρ id=some l:=by
 cases blk with
 |row sz xs=>rcases h.2 with⟨b,c,e,k1,_⟩|⟨k1,_⟩<;>exact⟨_,k1⟩
 |mp es clock=>obtain⟨b,en,k1,_⟩:=h;exact⟨_,k1⟩
def bz:List Nat→Nat→Option Nat
 | [],_=>none
 |x::r,id=>if x=id then some 0 else(bz r id).map (· +1)
theorem dW: ∀ {ids:List Nat} {id k:Nat},bz ids id=some k→ids[k]? =some id
 | [],id,k,h=>by simp[bz]at h
 |x::r,id,k,h=>by
  simp only[bz]at h
  split at h
  · rename_i e;simp only[Option.some.injEq]at h;subst h;subst e;rfl
  · simp only[Option.map_eq_some_iff]at h
    obtain⟨k',h',rfl⟩:=h
    simpa using dW h'
theorem ir: ∀ {ids:List Nat} {id:Nat},bz ids id=none→ ∀k:Nat,ids[k]? ≠some id
 | [],id,_,k=>by simp
 |x::r,id,h,k=>by
  simp only[bz]at h
  split at h
  · simp at h
  · rename_i e
    simp only[Option.map_eq_none_iff]at h
    cases k with
    |zero=>simpa using e
    |succ k=>simpa using ir h k
def fS (ids:List Nat) (ctr j:Nat):Option Nat:=if j < 4 then some ((ids[j]?).getD (ctr+j))else none
def cJ (f:Nat→Option Nat) (hp:List (Nat×bi)):Nat→List Nat→List (Nat×bi)
 |_,[]=>[]
 |j,id::r=>match find hp id with
  |some b=>(j,b.ak f)::cJ f hp (j+1) r
  |none=>cJ f hp (j+1) r
theorem ca {f:Nat→Option Nat} {hp:List (Nat×bi)}: ∀ {ids:List Nat} {j k:Nat} {b:bi},find (cJ f hp j ids) k=some b→ ∃i id b',k=j+i∧ids[i]? =some id∧find hp id=some b'∧b=b'.ak f
 | [],j,k,b,h=>by simp[cJ,find]at h
 |id::r,j,k,b,h=>by
  simp only[cJ]at h
  have tl:find (cJ f hp (j+1) r) k=some b→ ∃i id', ∃b',k=j+i∧(id::r)[i]? =some id'∧find hp id'=some b'∧b=b'.ak f:=by
   intro h
   obtain⟨i,id',b',h1,h2,h3,h4⟩:=ca h
   exact⟨i+1,id',b',by omega,by simpa using h2,h3,h4⟩
  split at h
  · rename_i b0 hb0
    rw[aq]at h
    split at h
    · rename_i e
      simp only[Option.some.injEq]at h
      exact⟨0,id,b0,by omega,rfl,hb0,h.symm⟩
    · exact tl h
  · exact tl h
def iN (ids:List Nat):List (Nat×bi)→List (Nat×bi)
 | []=>[]
 |p::r=>match bz ids p.1 with
  |some _=>iN ids r
  |none=>p::iN ids r
theorem jW {ids:List Nat}: ∀ {hp:List (Nat×bi)} {k:Nat} {b:bi},find (iN ids hp) k=some b→bz ids k=none∧find hp k=some b
 | [],k,b,h=>by simp[iN,find]at h
 |(q,c)::r,k,b,h=>by
  simp only[iN]at h
  split at h
  · rename_i j hj
    obtain⟨h1,h2⟩:=jW h
    refine⟨h1,?_⟩
    rw[aq]
    split
    · rename_i e
      subst e
      rw[hj]at h1
      simp at h1
    · exact h2
  · rename_i hj
    rw[aq]at h⊢
    split at h
    · rename_i e
      subst e
      rw[if_pos rfl]
      exact⟨hj,h⟩
    · rename_i e
      obtain⟨h1,h2⟩:=jW h
      rw[if_neg e]
      exact⟨h1,h2⟩
def eM (g:Nat→Option Nat):List (Nat×bi)→List (Nat×bi)
 | []=>[]
 |p::r=>match g p.1 with
  |some k=>(k,p.2.ak g)::eM g r
  |none=>eM g r
theorem iG {g:Nat→Option Nat} (hinj: ∀i j k,g i=some k→g j=some k→i=j): ∀ {hout:List (Nat×bi)} {k:Nat} {b:bi},find (eM g hout) k=some b→ ∃j b',g j=some k∧find hout j=some b'∧b=b'.ak g
 | [],k,b,h=>by simp[eM,find]at h
 |(q,c)::r,k,b,h=>by
  simp only[eM]at h
  split at h
  · rename_i k' hk'
    rw[aq]at h
    split at h
    · rename_i e
      subst e
      simp only[Option.some.injEq]at h
      exact⟨q,c,hk',by rw[aq,if_pos rfl],h.symm⟩
    · rename_i e
      obtain⟨j,b',h1,h2,h3⟩:=iG hinj h
      refine⟨j,b',h1,?_,h3⟩
      rw[aq,if_neg]
      · exact h2
      · intro e'
        subst e'
        rw[hk']at h1
        exact e (Option.some.inj h1)
  · rename_i hk'
    obtain⟨j,b',h1,h2,h3⟩:=iG hinj h
    refine⟨j,b',h1,?_,h3⟩
    rw[aq,if_neg]
    · exact h2
    · intro e'
      subst e'
      rw[hk']at h1
      simp at h1
def uS (ids:List Nat) (ctr:Nat):Bool:=decide (ids.length≤4)&&ids.all (fun id=>decide (id < ctr))&&decide ids.Nodup
theorem zN {f:FuncId} {us args:List W} {hp hin hout:List (Nat×bi)} {ctr:Nat} {res:V} (ids:List Nat) (hok:uS ids ctr=true) (hfn:Fn P f args hin res hout)
 (ha:us.map (W.ak (bz ids))=args) (hh:cJ (bz ids) hp 0 ids=hin):
 fN P f us hp ctr (res.ak (fS ids ctr)) (eM (fS ids ctr) hout++iN ids hp) (ctr+4):=by
 subst ha
 subst hh
 simp only[uS,Bool.and_eq_true,decide_eq_true_eq,List.all_eq_true]at hok
 obtain⟨⟨hlen,hlt⟩,E0⟩:=hok
 have hidx: ∀ {i j id:Nat},ids[i]? =some id→ids[j]? =some id→i=j:=by
  intro i j id h1 h2
  obtain⟨hi,e1⟩:=List.getElem?_eq_some_iff.1 h1
  obtain⟨hj,e2⟩:=List.getElem?_eq_some_iff.1 h2
  exact(List.getElem_inj E0).1 (e1.trans e2.symm)
 have hinv: ∀ {j id:Nat},ids[j]? =some id→bz ids id=some j:=by
  intro j id h
  cases hi:bz ids id with
  |none=>exact absurd h (ir hi j)
  |some k=>rw[hidx (dW hi) h]
 have jE: ∀ {j id:Nat},ids[j]? =some id→id < ctr:=fun h=>hlt _ (List.mem_of_getElem? h)
 have BQ: ∀ {j id:Nat},ids[j]? =some id→j < 4:=fun h=>by have:=(List.getElem?_eq_some_iff.1 h).1;omega
 intro M A ρ a w n L xs hr hx
 let ρ0:Env:=fun j=>(ids[j]?).bind ρ
 have M7: ∀id k l,bz ids id=some k→ρ id=some l→ρ0 k=some l:=by
  intro id k l h1 h2
  simp only[ρ0,dW h1,Option.bind_some,h2]
 let M':Nat→Prop:=fun b=>o7 ρ0 (cJ (bz ids) hp 0 ids) b∨w.heap.size≤b
 have J1: ∀b,b < w.heap.size→M' b→M b∧A b:=by
  intro b hb hm
  rcases hm with⟨j,blk,hf,hρ⟩|hm
  · obtain⟨i,id,b',rfl,h2,h3,_⟩:=ca hf
    simp only[Nat.zero_add,ρ0,h2,Option.bind_some]at hρ
    exact((hr.heap id b' h3).lt hρ).2
  · omega
 have hH:HR M' A ρ0 (bt 4) (cJ (bz ids) hp 0 ids) w:=by
  refine⟨rfl,rfl,fun t v hv=>by simp[find]at hv,fun j blk hf=>?_,fun j j' blk fp b h1 h2 r1 r2=>?_,fun j hj=>?_,hr.bound,fun b hb=> .inr hb,hr.dX.sub (fun b hb hm=>(J1 b hb hm).1) (fun _ h=>h)⟩
  · obtain⟨i,id,b',rfl,h2,h3,rfl⟩:=ca hf
    refine(hr.heap id b' h3).ak M7 (fun l hl=>by simp only[Nat.zero_add,ρ0,h2,Option.bind_some,hl]) (fun b hb _=> .inl ⟨0+i,_,hf,by simp only[Nat.zero_add,ρ0,h2,Option.bind_some,hb]⟩)
  · obtain⟨i,id,b1,rfl,h3,h4,_⟩:=ca h1
    obtain⟨i',id',b2,rfl,LB,NA,_⟩:=ca h2
    simp only[Nat.zero_add,ρ0,h3,LB,Option.bind_some]at r1 r2
    have:=hr.inj id id' b1 b2 b h4 NA r1 r2
    subst this
    rw[hidx h3 LB]
  · simp only[ρ0]
    rw[List.getElem?_eq_none (by simp only[bt]at hj;omega)]
    rfl
 have hx':wY w A ρ0 (us.map (W.ak (bz ids))) xs.toList:=by
  refine⟨by simpa using hx.1,fun k u y hu hy=>?_⟩
  simp only[List.getElem?_map,Option.map_eq_some_iff]at hu
  obtain⟨u',zh,rfl⟩:=hu
  exact(hx.2 k u' y zh hy).ak M7
 refine(hfn w A ρ0 xs hH hx').mono ?_
 rintro e w' ⟨x,A',ρ',F',rfl,hv,dr,dJ,cF,hg⟩
 let ρ2:Env:=fun k=>match bz ids k with
  |some j=>ρ' j
  |none=>if ctr≤k∧k < ctr+4 then ρ' (k - ctr)else ρ k
 have Lx: ∀j k l,fS ids ctr j=some k→ρ' j=some l→ρ2 k=some l:=by
  intro j k l h1 h2
  simp only[fS]at h1
  split at h1
  · rename_i hj
    simp only[Option.some.injEq]at h1
    cases hi:ids[j]? with
    |some id=>
     rw[hi]at h1
     simp only[Option.getD_some]at h1
     subst h1
     simp only[ρ2,hinv hi]
     exact h2
    |none=>
     rw[hi]at h1
     simp only[Option.getD_none]at h1
     subst h1
     have hn:bz ids (ctr+j)=none:=by
      cases hq:bz ids (ctr+j)with
      |none=>rfl
      |some q=>have:=jE (dW hq);omega
     simp only[ρ2,hn]
     rw[if_pos ⟨by omega,by omega⟩,show ctr+j - ctr=j by omega]
     exact h2
  · simp at h1
 have Lw: ∀i j k,fS ids ctr i=some k→fS ids ctr j=some k→i=j:=by
  intro i j k h1 h2
  simp only[fS]at h1 h2
  split at h1
  · split at h2
    · simp only[Option.some.injEq]at h1 h2
      cases hi:ids[i]? with
      |some id=>
       cases hj:ids[j]? with
       |some id'=>
        rw[hi]at h1;rw[hj]at h2
        simp only[Option.getD_some]at h1 h2
        subst h1;subst h2
        exact hidx hi hj
       |none=>
        rw[hi]at h1;rw[hj]at h2
        simp only[Option.getD_some,Option.getD_none]at h1 h2
        have:=jE hi
        omega
      |none=>
       cases hj:ids[j]? with
       |some id'=>
        rw[hi]at h1;rw[hj]at h2
        simp only[Option.getD_some,Option.getD_none]at h1 h2
        have:=jE hj
        omega
       |none=>
        rw[hi]at h1;rw[hj]at h2
        simp only[Option.getD_none]at h1 h2
        omega
    · simp at h2
  · simp at h1
 have hE:cU ρ ρ2:=by
  intro id l hl
  simp only[ρ2]
  cases hi:bz ids id with
  |some j=>
   have hj:=BQ (dW hi)
   exact cF j l hj (M7 id j l hi hl)
  |none=>
   simp only
   rw[if_neg]
   · exact hl
   · rintro⟨h1,_⟩
     have:=hr.fresh id h1
     rw[this]at hl
     simp at hl
 have A4:df M w w':=dJ.weaken (fun i hi ho=>(J1 i hi ho).1)
 have hk:dZ A A' w w':=⟨dJ.size,fun b hb Hj=>⟨dJ.block b hb (fun hm=>Hj (J1 b hb hm).2),fun h=>Hj (hg.2 b hb h)⟩⟩
 have YP: ∀b,M' b→M b:=fun b hm=>by
  rcases Nat.lt_or_ge b w.heap.size with hlt|hge
  · exact(J1 b hlt hm).1
  · exact hr.may b hge
 refine⟨x,A',ρ2,rfl,⟨hr.size,hr.defers,fun t v hv=>(hr.tmps t v hv).keeps hk dJ.shape hE,fun k blk hf=>?_,fun k k' blk fp b h1 h2 r1 r2=>?_,fun k hk'=>?_,dr.bound,fun b hb=>hr.may b (Nat.le_trans dJ.size hb),hr.dX.Fk A4 hg.2⟩,hv.ak Lx,A4,hE,hg⟩
 · simp only[cM,Option.or_eq_some_iff]at hf
   rcases hf with hf|⟨_,hf⟩
   · obtain⟨j,b',h1,h2,rfl⟩:=iG Lw hf
     exact(dr.heap j b' h2).ak Lx (fun l hl=>Lx j k l h1 hl) (fun b _ hm=>YP b hm)
   · obtain⟨h1,h2⟩:=jW hf
     have hb:=hr.heap k blk h2
     refine hb.keeps hk dJ.shape hE hg.1 (fun b BU=>dJ.block b (hb.lt BU).1 ?_)
     intro hm
     rcases hm with⟨j,bl,Yr,SF⟩|hm
     · obtain⟨i,id,b',rfl,q2,q3,_⟩:=ca Yr
       simp only[Nat.zero_add,ρ0,q2,Option.bind_some]at SF
       have:=hr.inj k id blk b' b h2 q3 BU SF
       subst this
       exact ir h1 i q2
     · have:=(hb.lt BU).1
       omega
 · have old: ∀ {k:Nat} {bl:bi} {b:Nat},find (iN ids hp) k=some bl→ρ2 k=some (.fz b)→find hp k=some bl∧ρ k=some (.fz b)∧bz ids k=none∧b < w.heap.size:=by
    intro k bl b hf hρ
    obtain⟨g1,g2⟩:=jW hf
    obtain⟨l,hl⟩:=(hr.heap k bl g2).some
    have:=hE k l hl
    rw[this]at hρ
    simp only[Option.some.injEq]at hρ
    subst hρ
    exact⟨g2,hl,g1,((hr.heap k bl g2).lt hl).1⟩
   have new: ∀ {k:Nat} {bl:bi} {b:Nat},find (eM (fS ids ctr) hout) k=some bl→ρ2 k=some (.fz b)→ ∃j b',fS ids ctr j=some k∧find hout j=some b'∧ρ' j=some (.fz b):=by
    intro k bl b hf hρ
    obtain⟨j,b',g1,g2,_⟩:=iG Lw hf
    obtain⟨l,hl⟩:=(dr.heap j b' g2).some
    have:=Lx j k l g1 hl
    rw[this]at hρ
    simp only[Option.some.injEq]at hρ
    subst hρ
    exact⟨j,b',g1,g2,hl⟩
   have LL: ∀ {k k':Nat} {bl z8:bi} {b:Nat},find (eM (fS ids ctr) hout) k=some bl→ρ2 k=some (.fz b)→find (iN ids hp) k'=some z8→ρ2 k'=some (.fz b)→False:=by
    intro k k' bl z8 b h1 r1 h2 r2
    obtain⟨j,b',g1,g2,g3⟩:=new h1 r1
    obtain⟨q1,q2,q3,q4⟩:=old h2 r2
    have hm:=((dr.heap j b' g2).lt g3).2.1
    rcases hm with⟨i,O5,UX,hρi⟩|hm
    · obtain⟨i',id,b2,rfl,p2,p3,_⟩:=ca UX
      simp only[Nat.zero_add,ρ0,p2,Option.bind_some]at hρi
      have:=hr.inj k' id z8 b2 b q1 p3 q2 hρi
      subst this
      exact ir q3 i' p2
    · omega
   simp only[cM,Option.or_eq_some_iff]at h1 h2
   rcases h1 with h1|⟨_,h1⟩<;>rcases h2 with h2|⟨_,h2⟩
   · obtain⟨j,b',g1,g2,g3⟩:=new h1 r1
     obtain⟨j',b'',g1',g2',g3'⟩:=new h2 r2
     have:=dr.inj j j' b' b'' b g2 g2' g3 g3'
     subst this
     rw[g1]at g1'
     exact Option.some.inj g1'
   · exact(LL h1 r1 h2 r2).elim
   · exact(LL h2 r2 h1 r1).elim
   · obtain⟨q1,q2,_⟩:=old h1 r1
     obtain⟨q1',q2',_⟩:=old h2 r2
     exact hr.inj k k' _ _ b q1 q1' q2 q2'
 · simp only[bt]at hk'
   have hn:bz ids k=none:=by
    cases hq:bz ids k with
    |none=>rfl
    |some q=>have:=jE (dW hq);omega
   simp only[ρ2,hn]
   rw[if_neg (by omega)]
   exact hr.fresh k (by simp only[bt];omega)
theorem sA {f:FuncId} {us args:List W} {hp hin hout:List (Nat×bi)} {ctr:Nat} {res:V} (ids:List Nat) (hok:uS ids ctr=true) (hfn:Fn P f args hin res hout)
 (ha:us.map (W.ak (bz ids))=args) (hh:cJ (bz ids) hp 0 ids=hin):
 dK P f us hp ctr (res.ak (fS ids ctr)) (eM (fS ids ctr) hout++iN ids hp) (ctr+4):=
 (zN ids hok hfn ha hh).m
theorem CV {f:FuncId} {us args:List W} {hp hin:List (Nat×bi)} {res:V} (ids:List Nat) (hlen:ids.length≤4) (E0:ids.Nodup) (hsub: ∀id,id∈ids→id∈us.flatMap W.ids) (hfn:Fn P f args hin res hin)
 (ha:us.map (W.ak (bz ids))=args) (hh:cJ (bz ids) hp 0 ids=hin)
 (A7: ∀id,id∈ids→ ∃b,find hp id=some b∧(b.ak (bz ids)).ak (fun j=>ids[j]?)=b):
 Ix P hp f us (res.ak (fun j=>ids[j]?)):=by
 subst ha
 have hidx: ∀ {i j id:Nat},ids[i]? =some id→ids[j]? =some id→i=j:=by
  intro i j id h1 h2
  obtain⟨hi,e1⟩:=List.getElem?_eq_some_iff.1 h1
  obtain⟨hj,e2⟩:=List.getElem?_eq_some_iff.1 h2
  exact(List.getElem_inj E0).1 (e1.trans e2.symm)
 have hinv: ∀ {j id:Nat},ids[j]? =some id→bz ids id=some j:=by
  intro j id h
  cases hi:bz ids id with
  |none=>exact absurd h (ir hi j)
  |some k=>rw[hidx (dW hi) h]
 have BQ: ∀ {j id:Nat},ids[j]? =some id→j < 4:=fun h=>by have:=(List.getElem?_eq_some_iff.1 h).1;omega
 intro hp2 hag M A ρ F a w n L xs hr hx
 have CA: ∀id,id∈ids→find hp2 id=find hp id:=fun id bJ=>hag id (hsub id bJ)
 have hsame: ∀ (l:List Nat) (j:Nat),(∀id,id∈l→id∈ids)→cJ (bz ids) hp2 j l=cJ (bz ids) hp j l:=by
  intro l
  induction l with
  |nil=>intro j _;rfl
  |cons x l ih=>
   intro j hl
   simp only[cJ]
   rw[CA x (hl x List.mem_cons_self),ih (j+1) (fun id bJ=>hl id (List.mem_cons_of_mem _ bJ))]
 rw[←hsame ids 0 (fun _ h=>h)]at hh
 subst hh
 let ρ0:Env:=fun j=>(ids[j]?).bind ρ
 have M7: ∀id k l,bz ids id=some k→ρ id=some l→ρ0 k=some l:=by
  intro id k l h1 h2
  simp only[ρ0,dW h1,Option.bind_some,h2]
 let M':Nat→Prop:=fun b=>o7 ρ0 (cJ (bz ids) hp2 0 ids) b∨w.heap.size≤b
 have J1: ∀b,b < w.heap.size→M' b→M b∧A b:=by
  intro b hb hm
  rcases hm with⟨j,blk,hf,hρ⟩|hm
  · obtain⟨i,id,b',rfl,h2,h3,_⟩:=ca hf
    simp only[Nat.zero_add,ρ0,h2,Option.bind_some]at hρ
    exact((hr.heap id b' h3).lt hρ).2
  · omega
 have hH:HR M' A ρ0 (bt 4) (cJ (bz ids) hp2 0 ids) w:=by
  refine⟨rfl,rfl,fun t v hv=>by simp[find]at hv,fun j blk hf=>?_,fun j j' blk fp b h1 h2 r1 r2=>?_,fun j hj=>?_,hr.bound,fun b hb=> .inr hb,hr.dX.sub (fun b hb hm=>(J1 b hb hm).1) (fun _ h=>h)⟩
  · obtain⟨i,id,b',rfl,h2,h3,rfl⟩:=ca hf
    refine(hr.heap id b' h3).ak M7 (fun l hl=>by simp only[Nat.zero_add,ρ0,h2,Option.bind_some,hl]) (fun b hb _=> .inl ⟨0+i,_,hf,by simp only[Nat.zero_add,ρ0,h2,Option.bind_some,hb]⟩)
  · obtain⟨i,id,b1,rfl,h3,h4,_⟩:=ca h1
    obtain⟨i',id',b2,rfl,LB,NA,_⟩:=ca h2
    simp only[Nat.zero_add,ρ0,h3,LB,Option.bind_some]at r1 r2
    have:=hr.inj id id' b1 b2 b h4 NA r1 r2
    subst this
    rw[hidx h3 LB]
  · simp only[ρ0]
    rw[List.getElem?_eq_none (by simp only[bt]at hj;omega)]
    rfl
 have hx':wY w A ρ0 (us.map (W.ak (bz ids))) xs.toList:=by
  refine⟨by simpa using hx.1,fun k u y hu hy=>?_⟩
  simp only[List.getElem?_map,Option.map_eq_some_iff]at hu
  obtain⟨u',zh,rfl⟩:=hu
  exact(hx.2 k u' y zh hy).ak M7
 refine(hfn w A ρ0 xs hH hx').mono ?_
 rintro e w' ⟨x,A',ρ',F',rfl,hv,dr,dJ,cF,hg⟩
 let ρ2:Env:=fun k=>match bz ids k with
  |some j=>ρ' j
  |none=>ρ k
 have Lx: ∀j k l,ids[j]? =some k→ρ' j=some l→ρ2 k=some l:=by
  intro j k l h1 h2
  simp only[ρ2,hinv h1]
  exact h2
 have hE:cU ρ ρ2:=by
  intro id l hl
  simp only[ρ2]
  cases hi:bz ids id with
  |some j=>exact cF j l (BQ (dW hi)) (M7 id j l hi hl)
  |none=>exact hl
 have A4:df M w w':=dJ.weaken (fun i hi ho=>(J1 i hi ho).1)
 have hk:dZ A A' w w':=⟨dJ.size,fun b hb Hj=>⟨dJ.block b hb (fun hm=>Hj (J1 b hb hm).2),fun h=>Hj (hg.2 b hb h)⟩⟩
 have YP: ∀b,M' b→M b:=fun b hm=>by
  rcases Nat.lt_or_ge b w.heap.size with hlt|hge
  · exact(J1 b hlt hm).1
  · exact hr.may b hge
 have Xl: ∀ (l:List Nat) (s i id:Nat) (b:bi),l.Nodup→l[i]? =some id→find hp2 id=some b→find (cJ (bz ids) hp2 s l) (s+i)=some (b.ak (bz ids)):=by
  intro l
  induction l with
  |nil=>intro s i id b _ h;simp at h
  |cons y l ih=>
   intro s i id b E0 h hf
   cases i with
   |zero=>
    simp only[List.getElem?_cons_zero,Option.some.injEq]at h
    subst h
    simp only[cJ,hf,find,Nat.add_zero,if_true]
   |succ i=>
    simp only[List.getElem?_cons_succ]at h
    have:=ih (s+1) i id b (List.nodup_cons.1 E0).2 h hf
    rw[show s+(i+1)=s+1+i by omega]
    simp only[cJ]
    split
    · rw[aq,if_neg (by omega)];exact this
    · exact this
 have same: ∀ {k:Nat} {l:_},ρ k=some l→ρ2 k=some l:=fun h=>hE _ _ h
 refine⟨x,A',ρ2,rfl,⟨hr.size,hr.defers,fun t v hv=>(hr.tmps t v hv).keeps hk dJ.shape hE,fun k blk hf=>?_,fun k k' blk fp b h1 h2 r1 r2=>?_,fun k hk'=>?_,dr.bound,fun b hb=>hr.may b (Nat.le_trans dJ.size hb),hr.dX.Fk A4 hg.2⟩,hv.ak Lx,A4,hE,hg⟩
 · cases hi:bz ids k with
   |some j=>
    have E2:=dW hi
    have Cw:=Xl ids 0 j k blk E0 E2 hf
    rw[Nat.zero_add]at Cw
    have hb:=dr.heap j _ Cw
    have:=hb.ak (f:=fun j=>ids[j]?) (ρ2:=ρ2) (M2:=M) (k:=k) Lx (fun l hl=>Lx j k l E2 hl) (fun b _ hm=>YP b hm)
    obtain⟨b0,hb0,oT⟩:=A7 k (List.mem_of_getElem? E2)
    rw[←CA k (List.mem_of_getElem? E2),hf]at hb0
    rw[←Option.some.inj hb0]at oT
    rw[oT]at this
    exact this
   |none=>
    have hb:=hr.heap k blk hf
    refine hb.keeps hk dJ.shape hE hg.1 (fun b BU=>dJ.block b (hb.lt BU).1 ?_)
    intro hm
    rcases hm with⟨j,bl,Yr,SF⟩|hm
    · obtain⟨i,id,b',rfl,q2,q3,_⟩:=ca Yr
      simp only[Nat.zero_add,ρ0,q2,Option.bind_some]at SF
      have:=hr.inj k id blk b' b hf q3 BU SF
      subst this
      exact ir hi i q2
    · have:=(hb.lt BU).1
      omega
 · obtain⟨l,hl⟩:=(hr.heap k blk h1).some
   obtain⟨l',hl'⟩:=(hr.heap k' fp h2).some
   have e1:=same hl
   have e2:=same hl'
   rw[e1]at r1
   rw[e2]at r2
   simp only[Option.some.injEq]at r1 r2
   subst r1
   subst r2
   exact hr.inj k k' blk fp b h1 h2 hl hl'
 · have h0:=hr.fresh k hk'
   cases hi:bz ids k with
   |none=>simp only[ρ2,hi];exact h0
   |some j=>
    exfalso
    have E2:=dW hi
    obtain⟨b0,hb0,_⟩:=A7 k (List.mem_of_getElem? E2)
    rw[←CA k (List.mem_of_getElem? E2)]at hb0
    obtain⟨l,hl⟩:=(hr.heap k b0 hb0).some
    rw[h0]at hl
    simp at hl
end Go.aS
end
