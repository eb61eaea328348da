import Derived.Test.YtcaeamnhfodfoaaGreatMA
import Derived.Laws.Strings
import Derived.Test.YtcaeamnhfodfoaaGreatProg
set_option linter.all false
section
namespace Go.aR
open Go
variable {P:Program} {M A:Nat→Prop} {ρ:Env} {F:Nat→Prop} {a:Act} {w:World}
def tO (ids:List Nat) (src h:HS):HS:=
 ids.foldl (fun h id=>match find src id with|some b=>(id,b)::del h id|none=>del h id) h
theorem gb (src:HS) (id:Nat): ∀ (ids:List Nat) (h:HS),find (tO ids src h) id=if id∈ids then find src id else find h id
 | [],h=>by simp[tO]
 |k::r,h=>by
  have ih:=gb src id r (match find src k with|some b=>(k,b)::del h k|none=>del h k)
  simp only[tO,List.foldl_cons]at ih⊢
  rw[ih]
  by_cases hr:id∈r
  · simp[hr]
  · simp only[hr,if_false,List.mem_cons,or_false]
    by_cases hk:id=k
    · subst hk
      simp only[if_true]
      cases hs:find src id with
      |none=>simp[fE]
      |some b=>simp[az]
    · simp only[hk,if_false]
      have hk':¬k=id:=fun e=>hk e.symm
      cases hs:find src k with
      |none=>simp[fE,hk]
      |some b=>simp[az,fE,hk,hk']
section
variable (dst:Nat→Option Nat) (v:Nat→V) (wr:Nat→List Nat) (hpT:Nat→HS) (sE:TS) (pb:HS)
def nG (L:Nat→Bool):Nat→TS
 |0=>sE
 |i+1=>if L i then eE (nG L i) (dst i) (v i)else nG L i
def nN (L:Nat→Bool):Nat→HS
 |0=>pb
 |i+1=>if L i then tO (wr i) (hpT (i+1)) (nN L i)else nN L i
theorem gf (tm:TS) (d:Option Nat) (u:V) (t:Nat):find (eE tm d u) t=if d=some t then some u else find tm t:=by
 cases d with
 |none=>simp[eE]
 |some d=>simp only[eE,az,Option.some.injEq]
theorem mq (L1 L2:Nat→Bool) (t:Nat): ∀k,(∀i,i < k→dst i=some t→L1 i=L2 i)→find (nG dst v sE L1 k) t=find (nG dst v sE L2 k) t
 |0,_=>rfl
 |k+1,h=>by
  have ih:=mq L1 L2 t k (fun i hi=>h i (by omega))
  simp only[nG]
  by_cases hd:dst k=some t
  · rw[h k (by omega) hd]
    split
    · simp only[gf,hd,if_true]
    · exact ih
  · have e: ∀ (L:Nat→Bool),find (if L k then eE (nG dst v sE L k) (dst k) (v k)else nG dst v sE L k) t=find (nG dst v sE L k) t:=by
     intro L
     split
     · simp only[gf,hd,if_false]
     · rfl
    rw[e L1,e L2,ih]
theorem xX (L:Nat→Bool) (t i:Nat) (hd:dst i=some t) (hL:L i=true): ∀k,i < k→(∀j,i < j→j < k→dst j=some t→L j=false)→find (nG dst v sE L k) t=some (v i)
 |0,h,_=>by omega
 |k+1,h,hj=>by
  simp only[nG]
  by_cases e:i=k
  · subst e
    simp only[hL,if_true,gf,hd]
  · have ih:=xX L t i hd hL k (by omega) (fun j h1 h2=>hj j h1 (by omega))
    by_cases hk:dst k=some t
    · rw[hj k (by omega) (by omega) hk]
      exact ih
    · split
      · simp only[gf,hk,if_false];exact ih
      · exact ih
theorem mM (L1 L2:Nat→Bool) (id:Nat): ∀k,(∀i,i < k→id∈wr i→L1 i=L2 i)→find (nN wr hpT pb L1 k) id=find (nN wr hpT pb L2 k) id
 |0,_=>rfl
 |k+1,h=>by
  have ih:=mM L1 L2 id k (fun i hi=>h i (by omega))
  simp only[nN]
  by_cases hd:id∈wr k
  · rw[h k (by omega) hd]
    split
    · simp only[gb,hd,if_true]
    · exact ih
  · have e: ∀ (L:Nat→Bool),find (if L k then tO (wr k) (hpT (k+1)) (nN wr hpT pb L k)else nN wr hpT pb L k) id=find (nN wr hpT pb L k) id:=by
     intro L
     split
     · simp only[gb,hd,if_false]
     · rfl
    rw[e L1,e L2,ih]
theorem yJ (L:Nat→Bool) (id i:Nat) (hd:id∈wr i) (hL:L i=true): ∀k,i < k→(∀j,i < j→j < k→id∈wr j→L j=false)→find (nN wr hpT pb L k) id=find (hpT (i+1)) id
 |0,h,_=>by omega
 |k+1,h,hj=>by
  simp only[nN]
  by_cases e:i=k
  · subst e
    simp only[hL,if_true,gb,hd]
  · have ih:=yJ L id i hd hL k (by omega) (fun j h1 h2=>hj j h1 (by omega))
    by_cases hk:id∈wr k
    · rw[hj k (by omega) (by omega) hk]
      exact ih
    · split
      · simp only[gb,hk,if_false];exact ih
      · exact ih
theorem pq (tmT:Nat→TS) (N:Nat) (h0:tmT 0=sE) (hs: ∀i,i < N→ ∀t,find (tmT (i+1)) t=find (eE (tmT i) (dst i) (v i)) t) (L:Nat→Bool) (t:Nat): ∀k,k≤N→(∀i,i < k→L i=true)→find (nG dst v sE L k) t=find (tmT k) t
 |0,_,_=>by rw[h0];rfl
 |k+1,hk,hL=>by
  simp only[nG,hL k (by omega),if_true]
  rw[hs k (by omega) t,gf,gf,pq tmT N h0 hs L t k (by omega) (fun i hi=>hL i (by omega))]
theorem pW (N:Nat) (h0:hpT 0=pb) (hs: ∀i,i < N→ ∀id,¬id∈wr i→find (hpT (i+1)) id=find (hpT i) id) (L:Nat→Bool) (id:Nat): ∀k,k≤N→(∀i,i < k→L i=true)→find (nN wr hpT pb L k) id=find (hpT k) id
 |0,_,_=>by rw[h0];rfl
 |k+1,hk,hL=>by
  simp only[nN,hL k (by omega),if_true,gb]
  split
  · rfl
  · rename_i hn
    rw[pW N h0 hs L id k (by omega) (fun i hi=>hL i (by omega)),hs k (by omega) id hn]
theorem tF (i:Nat) (t:Nat): ∀k,i≤k→find (nG dst v sE (fun j=>decide (j < i)) k) t=find (nG dst v sE (fun j=>decide (j < i)) i) t
 |0,h=>by have:i=0:=by omega
          subst this;rfl
 |k+1,h=>by
  by_cases e:i=k+1
  · subst e;rfl
  · have ih:=tF i t k (by omega)
    have hn:decide (k < i)=false:=by simp;omega
    simp only[nG]
    rw[if_neg (by simp;omega)]
    exact ih
theorem uH (i:Nat) (id:Nat): ∀k,i≤k→find (nN wr hpT pb (fun j=>decide (j < i)) k) id=find (nN wr hpT pb (fun j=>decide (j < i)) i) id
 |0,h=>by have:i=0:=by omega
          subst this;rfl
 |k+1,h=>by
  by_cases e:i=k+1
  · subst e;rfl
  · have ih:=uH i id k (by omega)
    simp only[nN]
    rw[if_neg (by simp;omega)]
    exact ih
end
theorem fe.sound {ops:Array Oper} {o:Oper} {i n nid:Nat} {tm:TS} {hp aG:HS} {v:V} {Q:Exit→Act→World→Prop} {K':Act→World→Prop} (hi:ops[i]? =some o)
 (h:fe P ops o n tm hp nid v aG) (hr:Rel M A ρ F ⟨n,tm,hp⟩ a w) (hF: ∀k,nid≤k→k < nid+4→F k)
 (hk: ∀a' w' A' ρ',Rel M A' ρ' (Sub F nid) ⟨n,eE tm o.dst v,aG⟩ a' w'→dc M w w'→cU ρ ρ'→bJ A A' w→K' a' w'):wpOp P ops Q i K' a w:=by
 obtain⟨hd,h⟩:=h
 have yP:=jw hd
 unfold wpOp
 simp only[hi]
 have fin: ∀ {a2:Act} {w2:World} {A2:Nat→Prop} {ρ2:Env} {x:Value} {hp2:HS},Rel M A2 ρ2 (Sub F nid) ⟨n,tm,hp2⟩ a2 w2→RV w2 A2 ρ2 v x→Rel M A2 ρ2 (Sub F nid) ⟨n,eE tm o.dst v,hp2⟩ (a2.put o.dst x) w2:=by
  intro a2 w2 A2 ρ2 x hp2 r1 r2
  have:=r1.put (dst:=o.dst) r2 yP
  rw[kx]at this
  exact this
 split at h
 · exact h.elim
 · rename_i hg
   have:=cV hr hg
   simp only[this,Bool.false_eq_true,if_false]
   obtain⟨rfl,rfl⟩:=h
   exact hk _ _ A ρ (fin (hr.sub fun id h=>h.1) qy) (dc.refl _ _) (cU.refl _) (bJ.refl _ _)
 · rename_i hg
   have:=cV hr hg
   simp only[this,if_true]
   refine .inl ?_
   split at h
   · rename_i g us hc
     obtain⟨he,hct⟩:=h
     obtain⟨xs,hx,hxs⟩:=lK (P:=P) hr hc he
     simp only[Oper.wp,hx,Oper.upon]
     refine(ee.sound hr hF hct hxs).mono ?_
     rintro e w' ⟨x,A',ρ',rfl,r1,r2,r3,r4,r5⟩
     exact hk _ _ A' ρ' (fin r1 r2) r3 r4 r5
   · obtain⟨x,w',A',ρ',hrun,r1,r2,r3,r4,r5⟩:=lG h hr (hF nid (Nat.le_refl _) (by omega))
     rcases hrun with hrun|⟨hrun,rfl⟩
     · simp only[Oper.wp,hrun,Oper.upon]
       exact hk _ _ A' ρ' (fin r1 r2) r3 r4 r5
     · simp only[Oper.wp,hrun,Oper.upon]
       exact hk _ _ A' ρ' (fin r1 r2) r3 r4 r5
def bf (o:Oper):List Nat:=(o.after.toList.filter (Region.binds .any)).map (·.on)
def kg:List (List Nat)→List Nat→List Nat
 | [],acc=>acc
 |es::r,acc=>kg r (acc++[es.foldl (fun s e=>s|||2 ^ e|||acc.getD e 0) 0])
theorem A3: ∀ (r:List (List Nat)) (acc:List Nat), ∃tail,kg r acc=acc++tail∧tail.length=r.length
 | [],acc=>⟨[],by simp[kg]⟩
 |es::r,acc=>by
  obtain⟨tail,h1,h2⟩:=A3 r (acc++[es.foldl (fun s e=>s|||2 ^ e|||acc.getD e 0) 0])
  exact⟨_::tail,by simp only[kg];rw[h1,List.append_assoc];rfl,by simp[h2]⟩
theorem A4: ∀ (r:List (List Nat)) (acc:List Nat) (k:Nat) (es:List Nat),r[k]? =some es→(∀e,e∈es→e < acc.length+k)→
 (kg r acc).getD (acc.length+k) 0=es.foldl (fun s e=>s|||2 ^ e|||(kg r acc).getD e 0) 0
 | [],acc,k,es,h,_=>by simp at h
 |GH::r,acc,0,es,h,he=>by
  simp only[List.getElem?_cons_zero,Option.some.injEq]at h
  subst h
  simp only[kg,Nat.add_zero]
  obtain⟨tail,h1,_⟩:=A3 r (acc++[GH.foldl (fun s e=>s|||2 ^ e|||acc.getD e 0) 0])
  rw[h1]
  have e1: ∀e,e∈GH→(acc++[GH.foldl (fun s e=>s|||2 ^ e|||acc.getD e 0) 0]++tail).getD e 0=acc.getD e 0:=by
   intro e hm
   have:=he e hm
   simp only[List.getD_eq_getElem?_getD,List.append_assoc]
   rw[List.getElem?_append_left (by omega)]
  have e2:(acc++[GH.foldl (fun s e=>s|||2 ^ e|||acc.getD e 0) 0]++tail).getD acc.length 0=GH.foldl (fun s e=>s|||2 ^ e|||acc.getD e 0) 0:=by
   simp[List.getD_eq_getElem?_getD]
  rw[e2]
  have gen: ∀ (l:List Nat) (s:Nat),(∀e,e∈l→e∈GH)→l.foldl (fun s e=>s|||2 ^ e|||acc.getD e 0) s=l.foldl (fun s e=>s|||2 ^ e|||(acc++[GH.foldl (fun s e=>s|||2 ^ e|||acc.getD e 0) 0]++tail).getD e 0) s:=by
   intro l
   induction l with
   |nil=>intro s _;rfl
   |cons x l ih=>
    intro s hs
    simp only[List.foldl_cons]
    rw[e1 x (hs x (by simp)),ih _ (fun e h=>hs e (by simp[h]))]
  exact gen GH 0 (fun _ h=>h)
 |GH::r,acc,k+1,es,h,he=>by
  have:=A4 r (acc++[GH.foldl (fun s e=>s|||2 ^ e|||acc.getD e 0) 0]) k es (by simpa using h) (fun e hm=>by have:=he e hm;simp;omega)
  simp only[kg]
  rw[show acc.length+(k+1)=(acc++[GH.foldl (fun s e=>s|||2 ^ e|||acc.getD e 0) 0]).length+k by simp;omega]
  exact this
theorem nV (g:Nat→Nat) (j:Nat): ∀ (l:List Nat) (s:Nat),(l.foldl (fun s e=>s|||2 ^ e|||g e) s).testBit j=true→s.testBit j=true∨ ∃e,e∈l∧(j=e∨(g e).testBit j=true)
 | [],s,h=> .inl h
 |e::r,s,h=>by
  simp only[List.foldl_cons]at h
  rcases nV g j r _ h with h|⟨e',h1,h2⟩
  · simp only[Nat.testBit_or,Bool.or_eq_true,Nat.testBit_two_pow,decide_eq_true_eq]at h
    rcases h with(h|h)|h
    · exact .inl h
    · exact .inr ⟨e,by simp, .inl h.symm⟩
    · exact .inr ⟨e,by simp, .inr h⟩
  · exact .inr ⟨e',by simp[h1],h2⟩
theorem o7 {Es:List (List Nat)} (hE: ∀ (i:Nat) (es:List Nat),Es[i]? =some es→ ∀e,e∈es→e < i) {L:Nat→Bool}: ∀ (i:Nat),i < Es.length→
 (∀ (k:Nat) (es:List Nat),k < i→L k=true→Es[k]? =some es→ ∀e,e∈es→L e=true)→(∀ (es:List Nat),Es[i]? =some es→ ∀e,e∈es→L e=true)→ ∀j,((kg Es []).getD i 0).testBit j=true→L j=true∧j < i:=by
 intro i
 induction i using Nat.strongRecOn with
 |_ i ih=>
  intro hi dW hE' j hb
  obtain⟨es,jB⟩: ∃es,Es[i]? =some es:=⟨Es[i],by simp[hi]⟩
  have:=A4 Es [] i es jB (fun e he=>by simpa using hE i es jB e he)
  simp only[List.length_nil,Nat.zero_add]at this
  rw[this]at hb
  rcases nV _ j es 0 hb with h|⟨e,he,h⟩
  · simp at h
  · have hlt:=hE i es jB e he
    have hLe:=hE' es jB e he
    rcases h with rfl|h
    · exact⟨hLe,hlt⟩
    · obtain⟨h1,h2⟩:=ih e hlt (by omega) (fun k es' hk=>dW k es' (by omega)) (fun es' anW e' he'=>dW e es' hlt hLe anW e' he') j h
      exact⟨h1,by omega⟩
def B6 (l r:List Nat):Bool:=l.all fun x=> !r.contains x
theorem cL {l r:List Nat} (h:B6 l r=true) {x:Nat} (hx:x∈l) (hy:x∈r):False:=by
 have:=List.all_eq_true.1 h x hx
 simp only[Bool.not_eq_true',List.contains_eq_mem]at this
 simp[hy]at this
structure gP where
 dst:Option Nat
 nm:List Nat
 rd:List Nat
 wr:List Nat
def gP.apart (f g:gP):Bool:=
 B6 f.dst.toList g.nm&&B6 g.dst.toList f.nm&&B6 f.dst.toList g.dst.toList&&B6 f.wr g.rd&&B6 g.wr f.rd&&B6 f.wr g.wr
def vl (Es:List (List Nat)) (fs:List gP):Bool:=
 let bits:=kg Es []
 (List.range fs.length).all fun j=>match fs[j]? with
   |some g=>(List.range j).all fun i=>match fs[i]? with
    |some f=>(bits.getD j 0).testBit i||f.apart g
    |none=>true
   |none=>true
theorem sj {Es:List (List Nat)} {fs:List gP} (h:vl Es fs=true) {i j:Nat} {f g:gP} (hij:i < j) (hf:fs[i]? =some f) (hg:fs[j]? =some g):
 ((kg Es []).getD j 0).testBit i=true∨f.apart g=true:=by
 unfold vl at h
 have hj:j < fs.length:=(List.getElem?_eq_some_iff.1 hg).1
 have:=List.all_eq_true.1 h j (List.mem_range.2 hj)
 simp only[hg]at this
 have:=List.all_eq_true.1 this i (List.mem_range.2 hij)
 simp only[hf,Bool.or_eq_true]at this
 exact this
theorem exists_least {p:Nat→Bool}: ∀ {N:Nat},(∃i,i < N∧p i=false)→ ∃i,i < N∧p i=false∧ ∀j,j < i→p j=true
 |0,⟨i,h,_⟩=>by omega
 |N+1,⟨i,h,hp⟩=>by
  by_cases hq: ∃i,i < N∧p i=false
  · obtain⟨k,h1,h2,h3⟩:=exists_least hq
    exact⟨k,by omega,h2,h3⟩
  · have hi:i=N:=by
     rcases Nat.lt_or_ge i N with hl|hl
     · exact absurd ⟨i,hl,hp⟩ hq
     · omega
    subst hi
    refine⟨i,by omega,hp,fun j hj=>?_⟩
    cases hpj:p j with
    |true=>rfl
    |false=>exact absurd ⟨j,hj,hpj⟩ hq
def ng (L:Nat→Bool):Nat→Nat
 |0=>0
 |k+1=>ng L k+if L k then 0 else 1
theorem rf {L:Nat→Bool}: ∀ {k:Nat},ng L k=0→ ∀i,i < k→L i=true
 |0,_,i,hi=>by omega
 |k+1,h,i,hi=>by
  simp only[ng]at h
  by_cases e:i=k
  · subst e
    cases hL:L i with
    |true=>rfl
    |false=>simp[hL]at h
  · exact rf (k:=k) (by omega) i (by omega)
theorem vv {L L':Nat→Bool} {i:Nat} (hi:L i=false) (hi':L' i=true) (hne: ∀j,j≠i→L' j=L j): ∀ {k:Nat},i < k→ng L' k+1=ng L k
 |0,h=>by omega
 |k+1,h=>by
  simp only[ng]
  by_cases e:i=k
  · subst e
    have same: ∀ {m:Nat},m≤i→ng L' m=ng L m:=by
     intro m
     induction m with
     |zero=>intro _;rfl
     |succ m ih=>intro hm;simp only[ng];rw[ih (by omega),hne m (by omega)]
    rw[same (Nat.le_refl _),hi,hi']
    simp
  · have:=vv hi hi' hne (k:=k) (by omega)
    rw[hne k (fun e'=>e e'.symm)]
    omega
def Dn (M A:Nat→Prop) (ρ:Env) (w:World) (Q:St→Nat→Prop) (a':Act) (w':World):Prop:=
 ∃st' bC A' ρ',Q st' bC∧Rel M A' ρ' (bD bC) st' a' w'∧dc M w w'∧cU ρ ρ'∧bJ A A' w
theorem Dn.JW {Q:St→Nat→Prop} {a':Act} {w':World} (h:Dn M A ρ w Q a' w'):Post M A ρ w Q a' w':=by
 obtain⟨st',c',A',ρ',h1,h2,h3,h4,h5⟩:=h
 exact⟨st',c',A',ρ',h1,h2,h3,h4.JW,h5.m⟩
theorem AQ {ops:Array Oper} {n base:Nat} {tmT:Nat→TS} {hpT:Nat→HS} {v:Nat→V} {fs:List gP} {id:Nat} {Q:Exit→Act→World→Prop}
 (hfo:P.follows .mixedOrders=true)
 (hstep: ∀i o,ops[i]? =some o→fe P ops o n (tmT i) (hpT i) (base+4 * i) (v i) (hpT (i+1))∧(∀t,find (tmT (i+1)) t=find (eE (tmT i) o.dst (v i)) t)∧
   ∃f,fs[i]? =some f∧f.dst=o.dst∧(∀t,t∈names ops o→t∈f.nm)∧(∀k,k∈iQ (St.get ⟨n,tmT i,hpT i⟩) o→k∈f.rd)∧(∀k,k∈s8 (St.get ⟨n,tmT i,hpT i⟩) (base+4 * i) o→k∈f.wr))
 (hE: ∀i o,ops[i]? =some o→ ∀e,e∈bf o→e < i)
 (hok:vl (ops.toList.map bf) fs=true)
 (cF:Rel M A ρ (bD base) ⟨n,tmT 0,hpT 0⟩ a w)
 (hQ: ∀a' w',Dn M A ρ w (fun st c=>st=⟨n,tmT ops.size,hpT ops.size⟩∧c=base+4 * ops.size) a' w'→Q .normal a' w'):(Code.region id ops true).wp P Q a w:=by
 refine wp_region_any hfo ?_
 let N:=ops.size
 let dst:Nat→Option Nat:=fun i=>(ops[i]?).bind (·.dst)
 let wr:Nat→List Nat:=fun i=>((ops[i]?).map fun o=>s8 (St.get ⟨n,tmT i,hpT i⟩) (base+4 * i) o).getD []
 have hop: ∀i,i < N→ ∃o,ops[i]? =some o:=fun i hi=>⟨ops[i],by simp[show i < ops.size from hi]⟩
 have uN: ∀i o,ops[i]? =some o→dst i=o.dst:=fun i o h=>by simp only[dst,h,Option.bind_some]
 have hwr: ∀i o,ops[i]? =some o→wr i=s8 (St.get ⟨n,tmT i,hpT i⟩) (base+4 * i) o:=by
  intro i o h
  simp only[wr,h,Option.map_some,Option.getD_some]
 have uJ: ∀i,i < N→ ∀k,¬k∈wr i→find (hpT (i+1)) k=find (hpT i) k:=by
  intro i hi k hk
  obtain⟨o,ho⟩:=hop i hi
  obtain⟨h1,_⟩:=hstep i o ho
  obtain⟨_,_,h3⟩:=h1.loc (tm2:=tmT i) (hp2:=hpT i) (fun _ _=>rfl) (fun _ _=>rfl) (fun _ _=>rfl)
  rw[hwr i o ho]at hk
  exact(h3.2 k hk).1
 have FW: ∀i,i < N→ ∀t,find (tmT (i+1)) t=find (eE (tmT i) (dst i) (v i)) t:=by
  intro i hi t
  obtain⟨o,ho⟩:=hop i hi
  rw[(hstep i o ho).2.1 t,uN i o ho]
 have SN: ∀ (i:Nat) (es:List Nat),(ops.toList.map bf)[i]? =some es→ ∀e,e∈es→e < i:=by
  intro i es h e he
  simp only[List.getElem?_map,Array.getElem?_toList,Option.map_eq_some_iff]at h
  obtain⟨o,ho,rfl⟩:=h
  exact hE i o ho e he
 let cZ:Array Bool→Nat→Bool:=fun listed i=>listed.getD i false
 let Fr:(Nat→Bool)→Nat→Prop:=fun L k=>base+4 * N≤k∨ ∃j,j < N∧L j=false∧base+4 * j≤k∧k < base+4 * j+4
 have iv: ∀ {L:Nat→Bool} {i:Nat},i < N→(∀k o,ops[k]? =some o→L k=true→ ∀e,e∈bf o→L e=true)→(∀o,ops[i]? =some o→ ∀e,e∈bf o→L e=true)→
  ∀j,((kg (ops.toList.map bf) []).getD i 0).testBit j=true→L j=true:=by
  intro L i hi dW HD j hb
  refine(o7 SN i (by simpa using hi) (fun k es _ Eg jB e he=>?_) (fun es jB e he=>?_) j hb).1
  · simp only[List.getElem?_map,Array.getElem?_toList,Option.map_eq_some_iff]at jB
    obtain⟨o,ho,rfl⟩:=jB
    exact dW k o ho Eg e he
  · simp only[List.getElem?_map,Array.getElem?_toList,Option.map_eq_some_iff]at jB
    obtain⟨o,ho,rfl⟩:=jB
    exact HD o ho e he
 have hNs:N=ops.size:=rfl
 have finish: ∀ (L:Nat→Bool) (a':Act) (w':World) (A':Nat→Prop) (ρ':Env),(∀i,i < N→L i=true)→
  Rel M A' ρ' (Fr L) ⟨n,nG dst v (tmT 0) L N,nN wr hpT (hpT 0) L N⟩ a' w'→dc M w w'→cU ρ ρ'→bJ A A' w→Q .normal a' w':=by
  intro L a' w' A' ρ' hall hr dI cG hg
  refine hQ _ _ ⟨⟨n,tmT ops.size,hpT ops.size⟩,base+4 * ops.size,A',ρ',⟨rfl,rfl⟩,?_,dI,cG,hg⟩
  have h1:Rel M A' ρ' (Fr L) ⟨n,tmT ops.size,hpT ops.size⟩ a' w':=hr.forget rfl (fun t u hu=>by
   rw[show find (⟨n,nG dst v (tmT 0) L N,nN wr hpT (hpT 0) L N⟩:St).tmps t=find (tmT N) t from pq dst v (tmT 0) tmT N rfl FW L t N (Nat.le_refl _) hall];exact hu) (fun k b hb=>by
   rw[show find (⟨n,nG dst v (tmT 0) L N,nN wr hpT (hpT 0) L N⟩:St).heap k=find (hpT N) k from pW wr hpT (hpT 0) N rfl uJ L k N (Nat.le_refl _) hall];exact hb)
  exact h1.sub (fun k hk=> .inl hk)
 have main: ∀ (fuel:Nat) (listed:Array Bool) (a':Act) (w':World) (A':Nat→Prop) (ρ':Env),listed.size=N→ng (cZ listed) N≤fuel→
  (∀k o,ops[k]? =some o→cZ listed k=true→ ∀e,e∈bf o→cZ listed e=true)→
  Rel M A' ρ' (Fr (cZ listed)) ⟨n,nG dst v (tmT 0) (cZ listed) N,nN wr hpT (hpT 0) (cZ listed) N⟩ a' w'→dc M w w'→cU ρ ρ'→bJ A A' w→
  wpAny P .any ops Q fuel listed a' w':=by
  intro fuel
  induction fuel with
  |zero=>
   intro listed a' w' A' ρ' hsz Ee dW hr dI cG hg
   have hall:=rf (Nat.le_zero.1 Ee)
   refine⟨?_,finish _ a' w' A' ρ' hall hr dI cG hg⟩
   apply List.eq_nil_iff_forall_not_mem.2
   intro i hi
   rw[mem_ready]at hi
   obtain⟨h0,o,ho,_⟩:=hi
   have hlt:i < N:=(Array.getElem?_eq_some_iff.1 ho).1
   have:=hall i hlt
   simp only[cZ,Array.getD_eq_getD_getElem?]at this h0
   have jD:i < listed.size:=by omega
   simp[jD]at this h0
   simp[this]at h0
  |succ fuel ih=>
   intro listed a' w' A' ρ' hsz Ee dW hr dI cG hg
   refine⟨fun As=>?_,fun i hi=>?_⟩
   · by_cases hex: ∃i,i < N∧cZ listed i=false
     · exfalso
       obtain⟨i,hi,hL,BQ⟩:=exists_least hex
       obtain⟨o,ho⟩:=hop i hi
       have:i∈Region.ready .any ops listed:=by
        rw[mem_ready]
        refine⟨?_,o,ho,fun e he hb=>?_⟩
        · simp only[cZ,Array.getD_eq_getD_getElem?]at hL⊢
          have jD:i < listed.size:=by omega
          simpa[jD]using hL
        · have hm:e.on∈bf o:=by simp only[bf,List.mem_map,List.mem_filter];exact⟨e,⟨by simpa using he,hb⟩,rfl⟩
          exact BQ _ (hE i o ho _ hm)
       rw[As]at this
       simp at this
     · exact finish _ a' w' A' ρ' (fun i hi=>by cases h:cZ listed i with|true=>rfl|false=>exact absurd ⟨i,hi,h⟩ hex) hr dI cG hg
   · rw[mem_ready]at hi
     obtain⟨h0,o,ho,uM⟩:=hi
     have yM:i < N:=(Array.getElem?_eq_some_iff.1 ho).1
     have Eh:cZ listed i=false:=by
      simp only[cZ,Array.getD_eq_getD_getElem?]at h0⊢
      have jD:i < listed.size:=by omega
      simpa[jD]using h0
     have HD: ∀e,e∈bf o→cZ listed e=true:=by
      intro e he
      simp only[bf,List.mem_map,List.mem_filter]at he
      obtain⟨ed,⟨h1,h2⟩,rfl⟩:=he
      exact uM ed (by simpa using h1) h2
     obtain⟨hst,amA,f,hf,fd,fn,fr,fw⟩:=hstep i o ho
     have order: ∀j oj g,j≠i→ops[j]? =some oj→fs[j]? =some g→(f.apart g=true∨g.apart f=true)∨(j < i∧cZ listed j=true)∨(i < j∧cZ listed j=false):=by
      intro j oj g ff oZ jb
      have hjN:j < N:=(Array.getElem?_eq_some_iff.1 oZ).1
      rcases Nat.lt_or_gt_of_ne ff with hlt|hgt
      · rcases sj hok hlt jb hf with hb|hb
        · exact .inr (.inl ⟨hlt,iv yM dW (fun o' vP=>by rw[ho]at vP;simp only[Option.some.injEq]at vP;subst vP;exact HD) j hb⟩)
        · exact .inl (.inr hb)
      · rcases sj hok hgt hf jb with hb|hb
        · refine .inr (.inr ⟨hgt,?_⟩)
          cases hLj:cZ listed j with
          |false=>rfl
          |true=>
           have:=iv hjN dW (fun o' vP=>dW j o' vP hLj) i hb
           rw[Eh]at this
           simp at this
        · exact .inl (.inl hb)
     have uW: ∀j,j < N→ ∃oj g,ops[j]? =some oj∧fs[j]? =some g∧g.dst=dst j∧ ∀k,k∈wr j→k∈g.wr:=by
      intro j hj
      obtain⟨oj,oZ⟩:=hop j hj
      obtain⟨_,_,g,g1,g2,_,_,g5⟩:=hstep j oj oZ
      exact⟨oj,g,oZ,g1,by rw[g2,uN j oj oZ],fun k hk=>g5 k (by rw[hwr j oj oZ]at hk;exact hk)⟩
     have apart_spec: ∀ {f g:gP},(f.apart g=true∨g.apart f=true)→(∀t,f.dst=some t→g.dst=some t→False)∧(∀t,g.dst=some t→t∈f.nm→False)∧(∀k,k∈g.wr→k∈f.rd→False)∧(∀k,k∈g.wr→k∈f.wr→False):=by
      intro f g h
      rcases h with h|h<;>simp only[gP.apart,Bool.and_eq_true]at h<;>obtain⟨⟨⟨⟨⟨h1,h2⟩,h3⟩,h4⟩,h5⟩,h6⟩:=h
      · exact⟨fun t a b=>cL (x:=t) h3 (by simp[a]) (by simp[b]),fun t a b=>cL (x:=t) h2 (by simp[a]) b,fun k a b=>cL h5 a b,fun k a b=>cL h6 b a⟩
      · exact⟨fun t a b=>cL (x:=t) h3 (by simp[b]) (by simp[a]),fun t a b=>cL (x:=t) h1 (by simp[a]) b,fun k a b=>cL h4 a b,fun k a b=>cL h6 a b⟩
     have Ch: ∀t,t∈names ops o→find (nG dst v (tmT 0) (cZ listed) N) t=find (tmT i) t:=by
      intro t ht
      rw[mq dst v (tmT 0) (cZ listed) (fun j=>decide (j < i)) t N ?_,tF dst v (tmT 0) i t N (Nat.le_of_lt yM),pq dst v (tmT 0) tmT N rfl FW _ t i (Nat.le_of_lt yM) (fun j hj=>by simpa using hj)]
      intro j hj yO
      by_cases ff:j=i
      · subst ff;rw[Eh];simp
      · obtain⟨oj,g,oZ,jb,gd,gw⟩:=uW j hj
        rcases order j oj g ff oZ jb with hap|⟨h1,h2⟩|⟨h1,h2⟩
        · exact((apart_spec hap).2.1 t (by rw[gd,yO]) (fn t ht)).elim
        · rw[h2];simp[h1]
        · rw[h2];simp;omega
     have vG: ∀k,(k∈f.rd∨k∈f.wr)→find (nN wr hpT (hpT 0) (cZ listed) N) k=find (hpT i) k:=by
      intro k hk
      rw[mM wr hpT (hpT 0) (cZ listed) (fun j=>decide (j < i)) k N ?_,uH wr hpT (hpT 0) i k N (Nat.le_of_lt yM),pW wr hpT (hpT 0) N rfl uJ _ k i (Nat.le_of_lt yM) (fun j hj=>by simpa using hj)]
      intro j hj yO
      by_cases ff:j=i
      · subst ff;rw[Eh];simp
      · obtain⟨oj,g,oZ,jb,gd,gw⟩:=uW j hj
        rcases order j oj g ff oZ jb with hap|⟨h1,h2⟩|⟨h1,h2⟩
        · rcases hk with hk|hk
          · exact((apart_spec hap).2.2.1 k (gw k yO) hk).elim
          · exact((apart_spec hap).2.2.2 k (gw k yO) hk).elim
        · rw[h2];simp[h1]
        · rw[h2];simp;omega
     have F7: ∀k,k∈four (base+4 * i)→k∈f.wr:=fun k hk=>fw k (by simp only[s8,List.mem_append];exact .inl hk)
     obtain⟨mN,N0,IW⟩:=hst.loc (tm2:=nG dst v (tmT 0) (cZ listed) N) (hp2:=nN wr hpT (hpT 0) (cZ listed) N) Ch (fun k hk=>vG k (.inl (fr k hk))) (fun k hk=>vG k (.inr (F7 k hk)))
     rw[←hwr i o ho]at IW
     refine fe.sound ho N0 hr (fun k h1 h2=> .inr ⟨i,yM,Eh,h1,h2⟩) ?_
     intro a2 w2 A2 ρ2 r1 r2 r3 r4
     have F2: ∀j,cZ (listed.setIfInBounds i true) j=if j=i then true else cZ listed j:=by
      intro j
      by_cases ff:j=i
      · subst ff
        have:j < listed.size:=by omega
        simp[cZ,Array.getD_eq_getD_getElem?,this]
      · simp only[cZ,ff,if_false]
        exact getD_set_ne false (fun e=>ff e.symm)
     have uQ:cZ (listed.setIfInBounds i true) i=true:=by rw[F2];simp
     have lV: ∀j,j≠i→cZ (listed.setIfInBounds i true) j=cZ listed j:=fun j hj=>by rw[F2,if_neg hj]
     have later: ∀j,i < j→j < N→(∀oj g,ops[j]? =some oj→fs[j]? =some g→(f.apart g=true∨g.apart f=true)→False)→cZ (listed.setIfInBounds i true) j=false:=by
      intro j h1 h2 h3
      obtain⟨oj,g,oZ,jb,gd,gw⟩:=uW j h2
      rw[lV j (by omega)]
      rcases order j oj g (by omega) oZ jb with hap|⟨h4,_⟩|⟨_,h5⟩
      · exact(h3 oj g oZ jb hap).elim
      · omega
      · exact h5
     refine ih (listed.setIfInBounds i true) a2 w2 A2 ρ2 (by simpa using hsz) ?_ ?_ ?_ (dI.trans r2) (cG.trans r3) (hg.trans r4 dI.size)
     · have:=vv (L:=cZ listed) (L':=cZ (listed.setIfInBounds i true)) Eh uQ lV (k:=N) yM
       omega
     · intro k ok' sP Eg e he
       by_cases pX:k=i
       · subst pX
         rw[ho]at sP
         simp only[Option.some.injEq]at sP
         subst sP
         exact getD_set_true (HD e he)
       · rw[lV k pX]at Eg
         exact getD_set_true (dW k ok' sP Eg e he)
     · refine(Rel.forget (st':=⟨n,nG dst v (tmT 0) (cZ (listed.setIfInBounds i true)) N,nN wr hpT (hpT 0) (cZ (listed.setIfInBounds i true)) N⟩) r1 rfl (fun t u hu=>?_) (fun k b hb=>?_)).sub (fun k hk=>?_)
       · simp only[gf]
         split
         · rename_i hd
           have od:=xX dst v (tmT 0) (cZ (listed.setIfInBounds i true)) t i (by rw[uN i o ho];exact hd) uQ N yM (fun j h1 h2 h3=>later j h1 h2 (fun oj g oZ jb hap=>by
            obtain⟨_,g',_,xn,gd,_⟩:=uW j h2
            rw[jb]at xn
            simp only[Option.some.injEq]at xn
            subst xn
            exact(apart_spec hap).1 t (by rw[fd];exact hd) (by rw[gd];exact h3)))
           rw[←od];exact hu
         · rename_i hd
           rw[mq dst v (tmT 0) (cZ listed) (cZ (listed.setIfInBounds i true)) t N (fun j hj yO=>by
            by_cases ff:j=i
            · subst ff;rw[uN j o ho]at yO;exact absurd yO hd
            · exact(lV j ff).symm)]
           exact hu
       · by_cases hk:k∈wr i
         · have hkw:k∈f.wr:=fw k (by rw[←hwr i o ho];exact hk)
           have od:=yJ wr hpT (hpT 0) (cZ (listed.setIfInBounds i true)) k i hk uQ N yM (fun j h1 h2 h3=>later j h1 h2 (fun oj g oZ jb hap=>by
            obtain⟨_,g',_,xn,_,gw⟩:=uW j h2
            rw[jb]at xn
            simp only[Option.some.injEq]at xn
            subst xn
            exact(apart_spec hap).2.2.2 k (gw k h3) hkw))
           rw[IW.1 k hk, ←od];exact hb
         · rw[(IW.2 k hk).2,mM wr hpT (hpT 0) (cZ listed) (cZ (listed.setIfInBounds i true)) k N (fun j hj yO=>by
            by_cases ff:j=i
            · subst ff;exact absurd yO hk
            · exact(lV j ff).symm)]
           exact hb
       · refine⟨?_,?_⟩
         · rcases hk with hk|⟨j,h1,h2,h3⟩
           · exact .inl hk
           · by_cases ff:j=i
             · subst ff;rw[uQ]at h2;simp at h2
             · rw[lV j ff]at h2;exact .inr ⟨j,h1,h2,h3⟩
         · rintro⟨q1,q2⟩
           rcases hk with hk|⟨j,h1,h2,h3,h4⟩
           · omega
           · by_cases ff:j=i
             · subst ff;rw[uQ]at h2;simp at h2
             · omega
 have h0: ∀i,cZ (Array.replicate ops.size false) i=false:=by
  intro i
  simp only[cZ,Array.getD_eq_getD_getElem?]
  by_cases hi:i < ops.size<;>simp[hi]
 refine main ops.size (Array.replicate ops.size false) a _ A ρ (by simp[N]) ?_ (fun k o _ hL=>by rw[h0]at hL;simp at hL) ?_ (dc.drew M w) (cU.refl _) (bJ.refl _ _)
 · have: ∀k,ng (cZ (Array.replicate ops.size false)) k=k:=by
    intro k
    induction k with
    |zero=>rfl
    |succ k ih=>simp only[ng,ih,h0];simp
   rw[this]
   exact Nat.le_refl _
 · have eT: ∀k,nG dst v (tmT 0) (cZ (Array.replicate ops.size false)) k=tmT 0:=by
    intro k
    induction k with
    |zero=>rfl
    |succ k ih=>simp only[nG,h0,Bool.false_eq_true,if_false,ih]
   have eH: ∀k,nN wr hpT (hpT 0) (cZ (Array.replicate ops.size false)) k=hpT 0:=by
    intro k
    induction k with
    |zero=>rfl
    |succ k ih=>simp only[nN,h0,Bool.false_eq_true,if_false,ih]
   rw[eT,eH]
   refine cF.drew.sub (fun k hk=>?_)
   simp only[bD]
   rcases hk with hk|⟨j,_,_,h3,_⟩<;>omega
theorem vj {ops:Array Oper} {n base:Nat} {tmT:Nat→TS} {hpT:Nat→HS} {v:Nat→V} {fs:List gP} {id:Nat} {Q:Exit→Act→World→Prop}
 (hfo:P.follows .mixedOrders=true)
 (hstep: ∀i o,ops[i]? =some o→fe P ops o n (tmT i) (hpT i) (base+4 * i) (v i) (hpT (i+1))∧(∀t,find (tmT (i+1)) t=find (eE (tmT i) o.dst (v i)) t)∧
   ∃f,fs[i]? =some f∧f.dst=o.dst∧(∀t,t∈names ops o→t∈f.nm)∧(∀k,k∈iQ (St.get ⟨n,tmT i,hpT i⟩) o→k∈f.rd)∧(∀k,k∈s8 (St.get ⟨n,tmT i,hpT i⟩) (base+4 * i) o→k∈f.wr))
 (hE: ∀i o,ops[i]? =some o→ ∀e,e∈bf o→e < i)
 (hok:vl (ops.toList.map bf) fs=true)
 (cF:Rel M A ρ (bD base) ⟨n,tmT 0,hpT 0⟩ a w)
 (hQ: ∀a' w',Post M A ρ w (fun st c=>st=⟨n,tmT ops.size,hpT ops.size⟩∧c=base+4 * ops.size) a' w'→Q .normal a' w'):(Code.region id ops true).wp P Q a w:=
 AQ hfo hstep hE hok cF fun a' w' h=>hQ a' w' h.JW
end Go.aR
end
section
namespace Go.aR
open Go
inductive Rc where
 |skip
 |ret
 |exit (id:Nat)
 |seq (a b:Rc)
 |cond (c:dN) (a b:Rc)
 |block (id:Nat) (b:Rc)
 |loop (b:Rc)
 |region (ops:List gn)
 |draw (ops:List gn) (es:List (List Nat))
def aT (P:Program) (all:Array Oper):List Oper→Option (List gn)
 | []=>some []
 |o::r=>
  match bn P o,aT P all r with
  |some x,some l=>
   match o.guard with
   |none=>some (⟨o.dst,none,x⟩::l)
   |some (j,want)=>
    match(all[j]?).bind (·.dst)with
    |some d=>some (⟨o.dst,some (d,want),x⟩::l)
    |none=>none
  |_,_=>none
def tj:Nat→List (List Nat)→Bool
 |_,[]=>true
 |i,es::r=>es.all (fun e=>decide (e < i))&&tj (i+1) r
def ae (P:Program):Code→Option Rc
 | .skip=>some .skip
 | .ret=>some .ret
 | .exit id=>some (.exit id)
 | .seq a b=>match ae P a,ae P b with
   |some x,some y=>some (.seq x y)
   |_,_=>none
 | .cond c a b=>match ae P a,ae P b with
   |some x,some y=>some (.cond (dj c) x y)
   |_,_=>none
 | .block id b=>match ae P b with
   |some x=>some (.block id x)
   |none=>none
 | .loop b=>match ae P b with
   |some x=>some (.loop x)
   |none=>none
 | .region _ ops false=>match aT P ops ops.toList with
   |some l=>some (.region l)
   |none=>none
 | .region _ ops true=>match aT P ops ops.toList with
   |some l=>if P.follows .mixedOrders&&tj 0 (ops.toList.map bf)then some (.draw l (ops.toList.map bf))else none
   |none=>none
 |_=>none
def Cv (tm:TS):List dN→Option (List W)
 | []=>some []
 |x::r=>match x.get tm,Cv tm r with
  | .w u,some l=>some (u::l)
  |_,_=>none
def qT {α:Sort _} (n:Nat) (k:Nat→α):α:=
 match n with
 |0=>k 0
 |m+1=>k (Nat.succ m)
theorem iw {α:Sort _} (n:Nat) (k:Nat→α):qT n k=k n:=by cases n<;>rfl
def yn (tm:TS) (dst:Option Nat) (v:V) (K:TS→Prop):Prop:=
 match dst with
 |some d=>K ((d,v)::tm)
 |none=>K tm
theorem jN (tm:TS) (dst:Option Nat) (v:V) (K:TS→Prop):yn tm dst v K=K (eE tm dst v):=by cases dst<;>rfl
def fnX (v:V) (us:List W):Option (FuncId×List W):=
 match v with
 | .w (.one (.jy f cW))=>some (f,us++cW.map fun p=> .one (.ptr p.1 p.2.1 p.2.2.1 p.2.2.2))
 | .w (.one (.kR f true ts))=>some (f, .agg (ts.map .t)::us)
 | .w (.one (.kR f false [t]))=>some (f, .one (.t t)::us)
 | .w (.one (.t (.val (.func (.func f) first cW))))=>if first.isEmpty&&cW.isEmpty then some (f,us)else none
 |_=>none
def EvR (P:Program) (op:Op) (ty:TypeId) (tm:TS) (hp:HS) (ctr:Nat) (v:V) (aG:HS):Prop:=
 (∀get,bN get ⟨none,op,ty, "", #[],none⟩=none)∧ ∀ (n:Nat) (o:Oper),o.op=op→o.type=ty→aj P (St.get ⟨n,tm,hp⟩) hp ctr o=some (v,aG)
def MK (P:Program) (o:gn) (tm:TS) (hp:HS) (ctr:Nat) (K:TS→HS→Nat→Prop):Prop:=
 match o.op with
 | .call f args=>match Cv tm args with
   |some us=> ∃v aG,ee P hp ctr f us v aG∧rV v fun v=>yn tm o.dst v fun bg=>qT (ctr+4) fun c=>K bg aG c
   |none=>False
 | .fb x args=>match Cv tm args with
   |some us=>match fnX (x.get tm) us with
    |some (f,fg)=>enters P f=true∧ ∃v aG,ee P hp ctr f fg v aG∧rV v fun v=>yn tm o.dst v fun bg=>qT (ctr+4) fun c=>K bg aG c
    |none=>False
   |none=>False
 | .raw op ty=> ∃v aG,EvR P op ty tm hp ctr v aG∧rV v fun v=>yn tm o.dst v fun bg=>qT (ctr+4) fun c=>K bg aG c
 |r=>XR r tm hp ctr fun v aG=>yn tm o.dst v fun bg=>qT (ctr+4) fun c=>K bg aG c
def jz (P:Program) (n:Nat) (op:Op) (ty:TypeId) (tm:TS) (hp:HS) (ctr:Nat) (v:V) (aG:HS):Prop:=
 ∀o:Oper,o.op=op→o.type=ty→Hj P o n tm hp ctr v aG
def wF (P:Program) (n:Nat) (o:gn) (tm:TS) (hp:HS) (ctr:Nat) (K:TS→HS→Nat→Prop):Prop:=
 match o.op with
 | .call f args=>match Cv tm args with
   |some us=> ∃v aG c',fm P f us hp ctr v aG c'∧rV v fun v=>yn tm o.dst v fun bg=>qT c' fun c=>K bg aG c
   |none=>False
 | .fb x args=>match Cv tm args with
   |some us=>match fnX (x.get tm) us with
    |some (f,fg)=>enters P f=true∧ ∃v aG c',fm P f fg hp ctr v aG c'∧rV v fun v=>yn tm o.dst v fun bg=>qT c' fun c=>K bg aG c
    |none=>False
   |none=>False
 | .raw op ty=> ∃v aG,jz P n op ty tm hp ctr v aG∧rV v fun v=>yn tm o.dst v fun bg=>qT (ctr+4) fun c=>K bg aG c
 |r=>XR r tm hp ctr fun v aG=>yn tm o.dst v fun bg=>qT (ctr+4) fun c=>K bg aG c
def Jj (P:Program) (n:Nat) (o:gn) (tm:TS) (hp:HS) (ctr:Nat) (K:TS→HS→Nat→Prop):Prop:=
 match gi n o.dst with
 |false=>False
 |true=>
  match o.guard with
  |none=>wF P n o tm hp ctr K
  |some (d,want)=>
   match find tm d with
   |some (.w (.one (.t (.val (.bool b)))))=>
    match want with
    |true=>br b (wF P n o ((d,bV true)::tm) hp ctr K) (K (eE ((d,bV false)::tm) o.dst (.ej [])) hp ctr)
    |false=>br b (K (eE ((d,bV true)::tm) o.dst (.ej [])) hp ctr) (wF P n o ((d,bV false)::tm) hp ctr K)
   |some (.ej [])=>K (eE tm o.dst (.ej [])) hp ctr
   |_=>False
def s7 (P:Program) (n:Nat):List gn→TS→HS→Nat→(TS→HS→Nat→Prop)→Prop
 | [],tm,hp,ctr,K=>K tm hp ctr
 |o::r,tm,hp,ctr,K=>Jj P n o tm hp ctr fun tm hp ctr=>s7 P n r tm hp ctr K
def Ro.hJ:Ro→List dN
 | .kC x| .box x| .load _ x| .xC _ x| .field _ _ x| .extract x _| .len x| .nK x| .not x| .neg x| .conv _ x| .G1 x=>[x]
 | .pick c x y=>[c,x,y]
 | .alloc _=>[]
 | .build _ ps=>ps.map (·.2.2)
 | .aY _ _ ps=>ps.map (·.2)
 | .store _ x y| .fW _ x y| .uC _ _ x y| .make _ _ x y| .append _ _ x y| .bin _ x y| .qk _ x y| .AO _ _ x y| .mw x y| .nJ x y| .qF x y=>[x,y]
 | .slice _ x lo hi=>x::(lo.toList++hi.toList)
 | .jy _ cW=>cW
 | .call _ xs=>xs
 | .fb x xs=>x::xs
 | .raw op _=>op.operands.toList.map dj
def Ro.looks:Ro→Bool
 | .raw op _=>Go.aR.looks op
 | .load .. | .store .. | .append .. | .len .. | .nK .. | .mw .. | .nJ .. | .call .. | .fb .. | .conv .. | .G1 .. =>true
 |_=>false
def Ro.wrt:Ro→Bool
 | .raw op _=>writes op
 | .store .. | .append .. =>true
 |_=>false
def Ra:dN→Option Nat
 | .t n=>some n
 | .c _=>none
def dD (o:gn) (tm:TS) (ctr:Nat):gP:=
 let rd:=if o.op.looks then o.op.hJ.flatMap fun x=>(x.get tm).ids else []
 ⟨o.dst,o.op.hJ.filterMap Ra++(o.guard.map (·.1)).toList,rd,four ctr++if o.op.wrt then rd else []⟩
def G7 (P:Program) (n:Nat) (o:gn) (tm:TS) (hp:HS) (ctr:Nat) (K:gP→TS→HS→Nat→Prop):Prop:=
 match gi n o.dst with
 |false=>False
 |true=>
  match o.guard with
  |none=>MK P o tm hp ctr (K (dD o tm ctr))
  |some (d,want)=>
   match find tm d with
   |some (.w (.one (.t (.val (.bool b)))))=>
    match want with
    |true=>br b (MK P o ((d,bV true)::tm) hp ctr (K (dD o ((d,bV true)::tm) ctr))) (K (dD o ((d,bV false)::tm) ctr) (eE ((d,bV false)::tm) o.dst (.ej [])) hp (ctr+4))
    |false=>br b (K (dD o ((d,bV true)::tm) ctr) (eE ((d,bV true)::tm) o.dst (.ej [])) hp (ctr+4)) (MK P o ((d,bV false)::tm) hp ctr (K (dD o ((d,bV false)::tm) ctr)))
   |some (.ej [])=>K (dD o tm ctr) (eE tm o.dst (.ej [])) hp (ctr+4)
   |_=>False
def qo (P:Program) (n:Nat):List gn→List gP→TS→HS→Nat→(List gP→TS→HS→Nat→Prop)→Prop
 | [],fs,tm,hp,ctr,K=>K fs tm hp ctr
 |o::r,fs,tm,hp,ctr,K=>G7 P n o tm hp ctr fun f tm hp ctr=>qo P n r (fs++[f]) tm hp ctr K
def gU (K:TS→HS→Nat→Prop) (Q:Exit→TS→HS→Nat→Prop):Exit→TS→HS→Nat→Prop
 | .normal=>K
 |e=>Q e
def xQ (id:Nat) (Q:Exit→TS→HS→Nat→Prop):Exit→TS→HS→Nat→Prop
 | .exit id'=>if id'=id then Q .normal else Q (.exit id')
 |e=>Q e
def dP (tm:TS) (hp:HS) (ctr:Nat) (bg:TS) (aG:HS) (c':Nat):Prop:=
 ∀ (M A:Nat→Prop) (ρ:Env) (n:Nat) (a:Act) (w:World),Rel M A ρ (bD ctr) ⟨n,tm,hp⟩ a w→ ∃A' ρ',Rel M A' ρ' (bD c') ⟨n,bg,aG⟩ a w∧iK ρ ρ'∧fI M A A' w
theorem dP.av {tm:TS} {hp:HS} {ctr:Nat} {S:Ren} (hok:S.ok=true):dP tm hp ctr (S.tm tm) (S.hp hp) S.ctr:=fun M A _ _ _ w hr=>by
 obtain⟨ρ',h1,h2⟩:=hr.av hok
 exact⟨A,ρ',h1,h2,fI.refl M A w⟩
theorem dP.refl {tm:TS} {hp:HS} {ctr:Nat}:dP tm hp ctr tm hp ctr:=fun M A ρ _ _ w hr=>⟨A,ρ,hr,iK.refl _,fI.refl M A w⟩
theorem dP.trans {tm nH tm2:TS} {hp hp1 hp2:HS} {c c1 c2:Nat} (h:dP tm hp c nH hp1 c1) (k:dP nH hp1 c1 tm2 hp2 c2):dP tm hp c tm2 hp2 c2:=by
 intro M A ρ n a w hr
 obtain⟨A1,ρ1,h1,e1,g1⟩:=h M A ρ n a w hr
 obtain⟨A2,ρ2,h2,e2,g2⟩:=k M A1 ρ1 n a w h1
 exact⟨A2,ρ2,h2,e1.trans e2,g1.trans g2 (Nat.le_refl _)⟩
inductive bP (J:TS→HS→Nat→Prop):TS→HS→Nat→Prop
 |mk {tm:TS} {hp:HS} {ctr:Nat} (S:Ren) (hok:S.ok=true) (h:J (S.tm tm) (S.hp hp) S.ctr):bP J tm hp ctr
 |sem {tm:TS} {hp:HS} {ctr:Nat} {bg:TS} {aG:HS} {c':Nat} (hw:dP tm hp ctr bg aG c') (h:bP J bg aG c'):bP J tm hp ctr
theorem bP.mk' {J:TS→HS→Nat→Prop} {tm:TS} {hp:HS} {ctr:Nat} (h: ∃S:Ren,S.ok=true∧J (S.tm tm) (S.hp hp) S.ctr):bP J tm hp ctr:=by
 obtain⟨S,h1,h2⟩:=h
 exact .mk S h1 h2
theorem bP.get {J:TS→HS→Nat→Prop} {tm:TS} {hp:HS} {ctr:Nat} (h:bP J tm hp ctr): ∃bg aG c',dP tm hp ctr bg aG c'∧J bg aG c':=by
 induction h with
 |mk S hok h=>exact⟨_,_,_,dP.av hok,h⟩
 |sem hw _ ih=>
  obtain⟨bg,aG,c',h1,h2⟩:=ih
  exact⟨bg,aG,c',hw.trans h1,h2⟩
def X (P:Program) (n:Nat):Rc→(Exit→TS→HS→Nat→Prop)→TS→HS→Nat→Prop
 | .skip,Q,tm,hp,ctr=>Q .normal tm hp ctr
 | .ret,Q,tm,hp,ctr=>Q .ret tm hp ctr
 | .exit id,Q,tm,hp,ctr=>Q (.exit id) tm hp ctr
 | .seq a b,Q,tm,hp,ctr=>X P n a (gU (X P n b Q) Q) tm hp ctr
 | .cond c a b,Q,tm,hp,ctr=>
   match(c.get tm).gk with
   |some v=>br v (X P n a Q tm hp ctr) (X P n b Q tm hp ctr)
   |none=>False
 | .block id b,Q,tm,hp,ctr=>X P n b (xQ id Q) tm hp ctr
 | .loop b,Q,tm,hp,ctr=> ∃I:Nat→TS→HS→Nat→Prop,bP (fun tm hp c=> ∃m,I m tm hp c) tm hp ctr∧
    ∀m tm hp c,I m tm hp c→X P n b (gU (bP fun tm hp c=> ∃m',m' < m∧I m' tm hp c) Q) tm hp c
 | .region ops,Q,tm,hp,ctr=>s7 P n ops tm hp ctr (Q .normal)
 | .draw ops es,Q,tm,hp,ctr=>qo P n ops [] tm hp ctr fun fs tm hp ctr=>vl es fs=true∧Q .normal tm hp ctr
variable {P:Program} {M A:Nat→Prop} {ρ:Env} {F:Nat→Prop} {st:St} {a:Act} {w:World}
theorem oA (st:St): ∀ (xs:List Operand),Cv st.tmps (xs.map dj)=oC st.get xs
 | []=>rfl
 |x::r=>by simp only[List.map_cons,Cv,oC,bk,oA st r];rfl
def nM (n:Nat) (K:TS→HS→Nat→Prop):St→Nat→Prop:=fun st c=>st.n=n∧K st.tmps st.heap c
theorem vW {o:Oper} {f:FuncId} {args:List dN} (h:aI P o=some (.call f args)):
 ∃fc gY,o.op= .call ⟨.value (.func f),fc,gY⟩∧args=fc.toList.map dj∧enters P f=true:=by
 obtain⟨dst,op,ty,pos,after,guard⟩:=o
 cases op
 case call c=>
  obtain⟨callee,fc,gY⟩:=c
  simp only[aI]at h
  split at h
  · split at h
    · split at h
      · simp at h
      · simp at h
      · simp at h
    · simp at h
  · split at h
    · simp at h
    · simp at h
  · split at h
    · simp at h
    · simp at h
  · split at h
    · split at h
      · split at h
        · split at h
          · simp at h
          · simp at h
        · simp at h
      · simp at h
    · simp at h
  · rename_i g
    split at h
    · rename_i he
      simp only[Option.some.injEq,Ro.call.injEq]at h
      obtain⟨rfl,rfl⟩:=h
      exact⟨fc,gY,rfl,rfl,he⟩
    · simp at h
  · simp at h
 all_goals
  exfalso
  simp only[aI]at h
  repeat' (split at h)
  all_goals first
   |contradiction
   |(simp at h;done)
   |(simp[Option.map_eq_some_iff]at h;done)
theorem lq {o:Oper} {f:FuncId} {args:List dN} (h:bn P o=some (.call f args)):
 ∃fc gY,o.op= .call ⟨.value (.func f),fc,gY⟩∧args=fc.toList.map dj∧enters P f=true:=by
 unfold bn at h
 split at h
 · rename_i r' dn
   replace dn:=dF dn
   simp only[Option.some.injEq]at h
   subst h
   exact vW dn
 · simp only[Option.some.injEq]at h
   rcases kw o with⟨t,args,gY,_,e⟩|e
   · rw[e]at h;simp at h
   · rw[e]at h;simp at h
theorem tS {o:Oper} {x:dN} {args:List dN} (h:aI P o=some (.fb x args)):False:=by
 obtain⟨dst,op,ty,pos,after,guard⟩:=o
 cases op<;>simp only[aI]at h
 all_goals (repeat' split at h)
 all_goals simp at h
theorem yh {o:Oper} {op:Op} {ty:TypeId} (h:aI P o=some (.raw op ty)):False:=by
 obtain⟨dst,op,ty,pos,after,guard⟩:=o
 cases op<;>simp only[aI]at h
 all_goals (repeat' split at h)
 all_goals simp at h
theorem j4 {o:Oper} {x:dN} {args:List dN} (h:bn P o=some (.fb x args)): ∃t fc gY,o.op= .call ⟨.value (.tmp t),fc,gY⟩∧x= .t t∧args=fc.toList.map dj:=by
 unfold bn at h
 split at h
 · rename_i r hr
   replace hr:=dF hr
   simp only[Option.some.injEq]at h
   subst h
   exfalso
   exact tS hr
 · simp only[Option.some.injEq]at h
   rcases kw o with⟨t,fc,gY,ho,e⟩|e
   · rw[e]at h
     simp only[Ro.fb.injEq]at h
     exact⟨t,fc,gY,ho,h.1.symm,h.2.symm⟩
   · rw[e]at h;simp at h
theorem jL {o:Oper} {op:Op} {ty:TypeId} (h:bn P o=some (.raw op ty)):op=o.op∧ty=o.type:=by
 unfold bn at h
 split at h
 · rename_i r hr
   replace hr:=dF hr
   simp only[Option.some.injEq]at h
   subst h
   exfalso
   exact yh hr
 · simp only[Option.some.injEq]at h
   rcases kw o with⟨t,fc,gY,ho,e⟩|e
   · rw[e]at h;simp at h
   · rw[e]at h
     simp only[Ro.raw.injEq]at h
     exact⟨h.1.symm,h.2.symm⟩
theorem wF.wpOp {ops:Array Oper} {o:Oper} {i:Nat} {x:Ro} {g:Option (Nat×Bool)} {ctr:Nat} {K:TS→HS→Nat→Prop} (hi:ops[i]? =some o) (hx:bn P o=some x)
 (hd:gi st.n o.dst=true) (hg:aV ops o st.tmps=some true) (h:wF P st.n ⟨o.dst,g,x⟩ st.tmps st.heap ctr K):kU P ops i (nM st.n K) st ctr:=by
 unfold kU
 simp only[hi]
 refine⟨hd,?_⟩
 simp only[hg]
 unfold wF at h
 split at h
 · rename_i f args kF
   simp only at kF
   subst kF
   obtain⟨fc,gY,ho,rfl,mO⟩:=lq hx
   simp only[oA]at h
   split at h
   · rename_i us fQ
     obtain⟨v,aG,c',hc,hK⟩:=h
     rw[dM,jN,iw]at hK
     have wu:bN st.get o=some (f,us):=by
      unfold bN
      rw[ho]
      simp only[St.get,V.ofValue,fQ]
      rfl
     exact .inl ⟨f,us,wu,mO,v,aG,c',hc,by rw[td];exact⟨rfl,hK⟩⟩
   · exact h.elim
 · rename_i y args kF
   simp only at kF
   subst kF
   obtain⟨t,fc,gY,ho,rfl,rfl⟩:=j4 hx
   simp only[oA]at h
   split at h
   · rename_i us fQ
     split at h
     · rename_i f fg hf
       obtain⟨mO,v,aG,c',hc,hK⟩:=h
       rw[dM,jN,iw]at hK
       have hv:st.get (.tmp t)=(dN.t t).get st.tmps:=(bk st (.tmp t)).symm
       have wu:bN st.get o=some (f,fg):=by
        unfold bN
        rw[ho]
        unfold fnX at hf
        split at hf
        · rename_i jT
          simp only[Option.some.injEq,Prod.mk.injEq]at hf
          obtain⟨rfl,rfl⟩:=hf
          simp only[hv,jT,fQ]
        · rename_i jT
          simp only[Option.some.injEq,Prod.mk.injEq]at hf
          obtain⟨rfl,rfl⟩:=hf
          simp only[hv,jT,fQ,mF,Option.map_some]
        · rename_i jT
          simp only[Option.some.injEq,Prod.mk.injEq]at hf
          obtain⟨rfl,rfl⟩:=hf
          simp only[hv,jT,fQ,mF,Option.map_some]
        · rename_i jT
          simp only[hv,jT,fQ]
          exact hf
        · simp at hf
       exact .inl ⟨f,fg,wu,mO,v,aG,c',hc,by rw[td];exact⟨rfl,hK⟩⟩
     · exact h.elim
   · exact h.elim
 · rename_i op ty kF
   simp only at kF
   subst kF
   obtain⟨rfl,rfl⟩:=jL hx
   obtain⟨v,aG,hrn,hK⟩:=h
   rw[dM,jN,iw]at hK
   exact .inr ⟨v,aG,hrn o rfl rfl,by rw[td];exact⟨rfl,hK⟩⟩
 · simp only[jN,iw]at h
   obtain⟨h1,v,heap',h2,h3⟩:=vH hx h
   exact .inr ⟨v,heap',lH h2,by rw[td];exact⟨rfl,h3⟩⟩
theorem Rel.lit {n:Nat} {tm:TS} {hp:HS} {d:Nat} {b c:Bool} (h:Rel M A ρ F ⟨n,tm,hp⟩ a w) (hf:find tm d=some (bV b)) (hb:b=c):Rel M A ρ F ⟨n,(d,bV c)::tm,hp⟩ a w:=by
 subst hb
 refine h.forget rfl (fun t v hv=>?_) (fun _ _ h=>h)
 simp only[az]at hv
 split at hv
 · rename_i e;subst e;rw[←hv];exact hf
 · exact hv
theorem Jj.sound {ops:Array Oper} {o:Oper} {i n:Nat} {x:Ro} {g:Option (Nat×Bool)} {ctr:Nat} {tm:TS} {hp:HS} {K:TS→HS→Nat→Prop} {Q:Exit→Act→World→Prop} {K':Act→World→Prop}
 (hi:ops[i]? =some o) (hx:bn P o=some x) (hgd:(o.guard=none∧g=none)∨ ∃j want d,o.guard=some (j,want)∧(ops[j]?).bind (·.dst)=some d∧g=some (d,want))
 (h:Jj P n ⟨o.dst,g,x⟩ tm hp ctr K) (hr:Rel M A ρ (bD ctr) ⟨n,tm,hp⟩ a w) (hk: ∀a' w',Post M A ρ w (nM n K) a' w'→K' a' w'):wpOp P ops Q i K' a w:=by
 unfold Jj at h
 split at h
 · exact h.elim
 · rename_i hd
   simp only at hd
   have gz: ∀ {bg:TS},Rel M A ρ (bD ctr) ⟨n,bg,hp⟩ a w→aV ops o bg=some false→K (eE bg o.dst (.ej [])) hp ctr→wpOp P ops Q i K' a w:=by
    intro bg dn jb hK
    refine kU.sound (K:=nM n K) (ctr:=ctr) ?_ dn hk
    unfold kU
    simp only[hi]
    refine⟨hd,?_⟩
    simp only[jb,kx]
    exact⟨rfl,hK⟩
   have wanted: ∀ {bg:TS},Rel M A ρ (bD ctr) ⟨n,bg,hp⟩ a w→aV ops o bg=some true→wF P n ⟨o.dst,g,x⟩ bg hp ctr K→wpOp P ops Q i K' a w:=by
    intro bg dn jb hX
    exact kU.sound (K:=nM n K) (ctr:=ctr) (wF.wpOp (st:=⟨n,bg,hp⟩) hi hx hd jb hX) dn hk
   rcases hgd with⟨Au,rfl⟩|⟨j,want,d,Au,hj,rfl⟩
   · simp only at h
     exact wanted hr (by simp[aV,Au]) h
   · have eL: ∀ {bg:TS} {b:Bool},find bg d=some (bV b)→aV ops o bg=some (b==want):=by
      intro bg b hf
      simp only[aV,Au,hj,hf]
     simp only at h
     split at h
     · rename_i b hf
       split at h
       · rcases iZ h with⟨hb,h⟩|⟨hb,h⟩
         · exact wanted (hr.lit hf hb) (by rw[eL (b:=true) (by simp[az])];rfl) h
         · exact gz (hr.lit hf hb) (by rw[eL (b:=false) (by simp[az])];rfl) h
       · rcases iZ h with⟨hb,h⟩|⟨hb,h⟩
         · exact gz (hr.lit hf hb) (by rw[eL (b:=true) (by simp[az])];rfl) h
         · exact wanted (hr.lit hf hb) (by rw[eL (b:=false) (by simp[az])];rfl) h
     · rename_i hf
       exact gz hr (by simp only[aV,Au,hj,hf]) h
     · exact h.elim
theorem s7.sound {ops:Array Oper} {n:Nat} {K:TS→HS→Nat→Prop} {Q:Exit→Act→World→Prop}: ∀ {l:List Oper} {rs:List gn} {k:Nat} {M A:Nat→Prop} {ρ:Env} {tm:TS} {hp:HS} {a:Act} {w:World} {ctr:Nat},
 (∀j,ops[k+j]? =l[j]?)→aT P ops l=some rs→s7 P n rs tm hp ctr K→Rel M A ρ (bD ctr) ⟨n,tm,hp⟩ a w→(∀a' w',Post M A ρ w (nM n K) a' w'→Q .normal a' w')→
 wpOps P ops Q (List.range' k l.length) a w
 | [],rs,k,M,A,ρ,tm,hp,a,w,ctr,hl,eK,h,hr,hq=>by
   simp only[aT,Option.some.injEq]at eK
   subst eK
   exact hq _ _ (Post.here hr ⟨rfl,h⟩)
 |o::l,rs,k,M,A,ρ,tm,hp,a,w,ctr,hl,eK,h,hr,hq=>by
  simp only[aT]at eK
  split at eK
  · rename_i x l' hx hl'
    have hi:ops[k]? =some o:=by simpa using hl 0
    have rest: ∀ {g:Option (Nat×Bool)},rs=⟨o.dst,g,x⟩::l'→((o.guard=none∧g=none)∨ ∃j want d,o.guard=some (j,want)∧(ops[j]?).bind (·.dst)=some d∧g=some (d,want))→wpOps P ops Q (List.range' k (l.length+1)) a w:=by
     intro g N2 hgd
     subst N2
     simp only[s7]at h
     rw[List.range'_succ,wpOps_cons]
     refine Jj.sound hi hx hgd h hr (fun a' w' aG=>?_)
     obtain⟨st',c',A',ρ',⟨h1,HE⟩,h2,h3,h4,h5⟩:=aG
     subst h1
     exact s7.sound (k:=k+1) (fun j=>by have:=hl (j+1);rw[show k+1+j=k+(j+1) by omega,this];simp) hl' HE h2 (fun a2 w2 hp2=>hq _ _ (hp2.trans h3 h4 h5))
    split at eK
    · rename_i hg
      simp only[Option.some.injEq]at eK
      exact rest eK.symm (.inl ⟨hg,rfl⟩)
    · rename_i j want hg
      split at eK
      · rename_i d hd
        simp only[Option.some.injEq]at eK
        exact rest eK.symm (.inr ⟨j,want,d,hg,hd,rfl⟩)
      · simp at eK
  · simp at eK
theorem Ao (v:Value):(V.ofValue v).ids=[]:=by
 cases v with
 |agg cs=>
  simp only[V.ofValue]
  split
  · simp only[V.ids,W.ids,List.flatMap_eq_nil_iff,List.mem_map]
    rintro c ⟨x,_,rfl⟩
    rfl
  · rfl
 |_=>rfl
theorem oP {place:Nat→Option (Nat×Nat)}: ∀ {ps:List (Nat×Operand)} {l:List (Nat×Nat×dN)},mJ place ps=some l→ ∀p,p∈ps→dj p.2∈l.map (·.2.2)
 | [],l,h,p,hp=>by simp at hp
 |(i,x)::r,l,h,p,hp=>by
  simp only[mJ]at h
  split at h
  · rename_i off size l' h1 h2
    simp only[Option.some.injEq]at h
    subst h
    rcases List.mem_cons.1 hp with rfl|hp
    · simp
    · simp only[List.map_cons,List.mem_cons];exact .inr (oP h2 p hp)
  · simp at h
theorem vV {o:Oper} {r:Ro} (h:aI P o=some r):(∀x,x∈o.op.operands→dj x∈r.hJ∨ ∃f,x= .func f)∧(looks o.op=true→r.looks=true)∧(writes o.op=true→r.wrt=true):=by
 obtain⟨dst,op,ty,pos,after,guard⟩:=o
 cases op
 case call c=>
  obtain⟨callee,args,gY⟩:=c
  simp only[aI]at h
  split at h
  · split at h
    · rename_i x t hx ht
      split at h
      · simp only[Option.some.injEq]at h
        subst h
        refine⟨fun y hy=>?_,fun _=>rfl,fun hw=>by simp[writes]at hw⟩
        have:y∈args.toList:=by simpa[Op.operands,Call.operands]using hy
        rw[hx]at this
        simp only[List.mem_singleton]at this
        subst this
        exact .inl (by simp[Ro.hJ])
      · simp only[Option.some.injEq]at h
        subst h
        refine⟨fun y hy=>?_,fun _=>rfl,fun hw=>by simp[writes]at hw⟩
        have:y∈args.toList:=by simpa[Op.operands,Call.operands]using hy
        rw[hx]at this
        simp only[List.mem_singleton]at this
        subst this
        exact .inl (by simp[Ro.hJ])
      · simp at h
    · simp at h
  · split at h
    · rename_i x y hx
      simp only[Option.some.injEq]at h
      subst h
      refine⟨fun z hz=>?_,fun _=>rfl,fun hw=>by simp[writes]at hw⟩
      have:z∈args.toList:=by simpa[Op.operands,Call.operands]using hz
      rw[hx]at this
      simp only[List.mem_cons,List.not_mem_nil,or_false]at this
      rcases this with rfl|rfl
      · exact .inl (by simp[Ro.hJ])
      · exact .inl (by simp[Ro.hJ])
    · simp at h
  · split at h
    · rename_i x y hx
      simp only[Option.some.injEq]at h
      subst h
      refine⟨fun z hz=>?_,fun _=>rfl,fun hw=>by simp[writes]at hw⟩
      have:z∈args.toList:=by simpa[Op.operands,Call.operands]using hz
      rw[hx]at this
      simp only[List.mem_cons,List.not_mem_nil,or_false]at this
      rcases this with rfl|rfl
      · exact .inl (by simp[Ro.hJ])
      · exact .inl (by simp[Ro.hJ])
    · simp at h
  · split at h
    · rename_i s x t t' hx ht
      split at h
      · split at h
        · split at h
          · simp only[Option.some.injEq]at h
            subst h
            refine⟨fun y hy=>?_,fun _=>rfl,fun _=>rfl⟩
            have:y∈args.toList:=by simpa[Op.operands,Call.operands]using hy
            rw[hx]at this
            simp only[List.mem_cons,List.not_mem_nil,or_false]at this
            rcases this with rfl|rfl
            · exact .inl (by simp[Ro.hJ])
            · exact .inl (by simp[Ro.hJ])
          · simp at h
        · simp at h
      · simp at h
    · simp at h
  · rename_i f
    split at h
    · simp only[Option.some.injEq]at h
      subst h
      refine⟨fun y hy=>?_,fun _=>rfl,fun hw=>by simp[writes]at hw⟩
      simp only[Op.operands,Call.operands,Array.mem_append]at hy
      rcases hy with hy|hy
      · exact .inr ⟨f,by simpa using hy⟩
      · exact .inl (by simp only[Ro.hJ,List.mem_map];exact⟨y,by simpa using hy,rfl⟩)
    · simp at h
  · simp at h
 case build t ps=>
  simp only[aI]at h
  split at h
  · split at h
    · simp only[Option.map_eq_some_iff]at h
      obtain⟨l,hl,rfl⟩:=h
      refine⟨fun y hy=>?_,fun hl=>by simp[looks]at hl,fun hw=>by simp[writes]at hw⟩
      simp[Op.operands]at hy
      obtain⟨i,hi⟩:=hy
      exact .inl (oP hl (i,y) (by simpa using hi))
    · simp at h
  · split at h
    · simp only[Option.map_eq_some_iff]at h
      obtain⟨l,hl,rfl⟩:=h
      refine⟨fun y hy=>?_,fun hl=>by simp[looks]at hl,fun hw=>by simp[writes]at hw⟩
      simp[Op.operands]at hy
      obtain⟨i,hi⟩:=hy
      exact .inl (oP hl (i,y) (by simpa using hi))
    · simp at h
  · simp at h
 case buildSlice t len ps=>
  simp only[aI]at h
  split at h
  · split at h
    · split at h
      · simp only[Option.some.injEq]at h
        subst h
        refine⟨fun y hy=>?_,fun hl=>by simp[looks]at hl,fun hw=>by simp[writes]at hw⟩
        simp[Op.operands]at hy
        obtain⟨i,hi⟩:=hy
        refine .inl ?_
        simp only[Ro.hJ,List.map_map,List.mem_map]
        exact⟨(i,y),by simpa using hi,rfl⟩
      · simp at h
    · simp at h
  · simp at h
 case makeFunc fn first captured=>
  cases fn with
  |func f=>
   simp only[aI]at h
   split at h
   · rename_i hc
     simp only[Option.some.injEq]at h
     subst h
     simp only[Bool.and_eq_true,Array.isEmpty_iff]at hc
     obtain⟨rfl,_⟩:=hc
     refine⟨fun y hy=>?_,fun hl=>by simp[looks]at hl,fun hw=>by simp[writes]at hw⟩
     refine .inl ?_
     simp only[Ro.hJ,List.mem_map]
     exact⟨y,by simpa[Op.operands]using hy,rfl⟩
   · simp at h
  |_=>simp[aI]at h
 case slice t x lo hi mx=>
  cases mx with
  |some m=>simp[aI]at h
  |none=>
   simp only[aI]at h
   split at h
   · simp only[Option.map_eq_some_iff]at h
     obtain⟨n,hn,rfl⟩:=h
     refine⟨fun y hy=>?_,fun hl=>by simp[looks]at hl,fun hw=>by simp[writes]at hw⟩
     refine .inl ?_
     cases lo<;>cases hi<;>simp[Op.operands,Ro.hJ]at hy⊢ <;>(first|(rcases hy with rfl|rfl|rfl<;>simp)|(rcases hy with rfl|rfl<;>simp)|(subst hy;simp))
   · simp at h
 case unOp op t x=>
  cases op<;>simp only[aI]at h<;>try (simp at h;done)
  all_goals
   simp only[Option.some.injEq]at h
   subst h
   refine⟨fun y hy=>?_,fun hl=>by simp[looks]at hl,fun hw=>by simp[writes]at hw⟩
   simp[Op.operands]at hy
   subst hy
   simp[Ro.hJ]
 all_goals
  simp only[aI]at h
  repeat' (split at h)
  all_goals first
   |contradiction
   |(simp at h;done)
   |(simp only[Option.some.injEq]at h
     subst h
     refine⟨fun y hy=>?_,fun hl=>by first|rfl|(simp[looks]at hl;done),fun hw=>by first|rfl|(simp[writes]at hw;done)⟩
     first
      |(simp[Op.operands]at hy;done)
      |(simp[Op.operands]at hy;rcases hy with rfl|rfl|rfl<;>simp[Ro.hJ];done)
      |(simp[Op.operands]at hy;rcases hy with rfl|rfl<;>simp[Ro.hJ];done)
      |(simp[Op.operands]at hy;subst hy;simp[Ro.hJ];done))
   |(simp only[Option.map_eq_some_iff]at h
     obtain⟨q,hq,rfl⟩:=h
     refine⟨fun y hy=>?_,fun hl=>by first|rfl|(simp[looks]at hl;done),fun hw=>by first|rfl|(simp[writes]at hw;done)⟩
     first
      |(simp[Op.operands]at hy;done)
      |(simp[Op.operands]at hy;rcases hy with rfl|rfl|rfl<;>simp[Ro.hJ];done)
      |(simp[Op.operands]at hy;rcases hy with rfl|rfl<;>simp[Ro.hJ];done)
      |(simp[Op.operands]at hy;subst hy;simp[Ro.hJ];done))
theorem MK.step {o:Oper} {x:Ro} {g:Option (Nat×Bool)} {n ctr:Nat} {tm:TS} {hp:HS} {K:TS→HS→Nat→Prop} (hx:bn P o=some x) (h:MK P ⟨o.dst,g,x⟩ tm hp ctr K):
 ∃v aG,(match bN (St.get ⟨n,tm,hp⟩) o with
  |some (g,us)=>enters P g=true∧ee P hp ctr g us v aG
  |none=>aj P (St.get ⟨n,tm,hp⟩) hp ctr o=some (v,aG))∧K (eE tm o.dst v) aG (ctr+4):=by
 unfold MK at h
 split at h
 · rename_i f args kF
   simp only at kF
   subst kF
   obtain⟨fc,gY,ho,rfl,mO⟩:=lq hx
   have D6:=oA ⟨n,tm,hp⟩ fc.toList
   simp only at D6
   rw[D6]at h
   split at h
   · rename_i us fQ
     obtain⟨v,aG,hc,hK⟩:=h
     rw[dM,jN,iw]at hK
     have wu:bN (St.get ⟨n,tm,hp⟩) o=some (f,us):=by
      unfold bN
      rw[ho]
      have hf:St.get ⟨n,tm,hp⟩ (.func f)= .w (.one (.t (.val (.func (.func f) #[] #[])))):=rfl
      simp only[hf,fQ]
      rfl
     exact⟨v,aG,by rw[wu];exact⟨mO,hc⟩,hK⟩
   · exact h.elim
 · rename_i y args kF
   simp only at kF
   subst kF
   obtain⟨t,fc,gY,ho,rfl,rfl⟩:=j4 hx
   have D6:=oA ⟨n,tm,hp⟩ fc.toList
   simp only at D6
   rw[D6]at h
   split at h
   · rename_i us fQ
     split at h
     · rename_i f fg hf
       obtain⟨mO,v,aG,hc,hK⟩:=h
       rw[dM,jN,iw]at hK
       have hv:St.get ⟨n,tm,hp⟩ (.tmp t)=(dN.t t).get tm:=(bk ⟨n,tm,hp⟩ (.tmp t)).symm
       have wu:bN (St.get ⟨n,tm,hp⟩) o=some (f,fg):=by
        unfold bN
        rw[ho]
        unfold fnX at hf
        split at hf
        · rename_i jT
          simp only[Option.some.injEq,Prod.mk.injEq]at hf
          obtain⟨rfl,rfl⟩:=hf
          simp only[hv,jT,fQ]
        · rename_i jT
          simp only[Option.some.injEq,Prod.mk.injEq]at hf
          obtain⟨rfl,rfl⟩:=hf
          simp only[hv,jT,fQ,mF,Option.map_some]
        · rename_i jT
          simp only[Option.some.injEq,Prod.mk.injEq]at hf
          obtain⟨rfl,rfl⟩:=hf
          simp only[hv,jT,fQ,mF,Option.map_some]
        · rename_i jT
          simp only[hv,jT,fQ]
          exact hf
        · simp at hf
       exact⟨v,aG,by rw[wu];exact⟨mO,hc⟩,hK⟩
     · exact h.elim
   · exact h.elim
 · rename_i op ty kF
   simp only at kF
   subst kF
   obtain⟨rfl,rfl⟩:=jL hx
   obtain⟨v,aG,⟨wu,dI⟩,hK⟩:=h
   rw[dM,jN,iw]at hK
   have aoD:bN (St.get ⟨n,tm,hp⟩) o=none:=by
    have:=wu (St.get ⟨n,tm,hp⟩)
    unfold bN at this⊢
    exact this
   exact⟨v,aG,by rw[aoD];exact dI n o rfl rfl,hK⟩
 · rename_i r hne
   simp only[jN,iw]at h
   obtain⟨h1,v,aG,h2,h3⟩:=vH (st:=⟨n,tm,hp⟩) hx h
   exact⟨v,aG,by rw[h1];exact h2,h3⟩
theorem yg {o:Oper} {r:Ro} (h:bn P o=some r):(∀x,x∈o.op.operands→dj x∈r.hJ∨ ∃f,x= .func f)∧(looks o.op=true→r.looks=true)∧(writes o.op=true→r.wrt=true):=by
 unfold bn at h
 split at h
 · rename_i r' dn
   replace dn:=dF dn
   simp only[Option.some.injEq]at h
   subst h
   exact vV dn
 · simp only[Option.some.injEq]at h
   subst h
   rcases kw o with⟨t,args,gY,ho,e⟩|e
   · rw[e,ho]
     refine⟨fun x hx=> .inl ?_,fun _=>rfl,fun hw=>by simp[writes]at hw⟩
     have hx':x= .tmp t∨x∈args:=by simpa[Op.operands,Call.operands]using hx
     simp only[Ro.hJ,List.mem_cons,List.mem_map]
     rcases hx' with rfl|hx'
     · exact .inl rfl
     · exact .inr ⟨x,by simpa using hx',rfl⟩
   · rw[e]
     refine⟨fun x hx=> .inl ?_,fun hl=>hl,fun hw=>hw⟩
     simp only[Ro.hJ,List.mem_map]
     exact⟨x,by simpa using hx,rfl⟩
theorem xz {ops:Array Oper} {o:Oper} {x:Ro} {g:Option (Nat×Bool)} {n ctr:Nat} {tm:TS} {hp:HS} (hx:bn P o=some x)
 (hgd:(o.guard=none∧g=none)∨ ∃j want d,o.guard=some (j,want)∧(ops[j]?).bind (·.dst)=some d∧g=some (d,want)):
 (dD ⟨o.dst,g,x⟩ tm ctr).dst=o.dst∧(∀t,t∈names ops o→t∈ (dD ⟨o.dst,g,x⟩ tm ctr).nm)∧(∀k,k∈iQ (St.get ⟨n,tm,hp⟩) o→k∈ (dD ⟨o.dst,g,x⟩ tm ctr).rd)∧
   (∀k,k∈s8 (St.get ⟨n,tm,hp⟩) ctr o→k∈ (dD ⟨o.dst,g,x⟩ tm ctr).wr):=by
 obtain⟨h1,h2,h3⟩:=yg hx
 have hrd: ∀k,k∈iQ (St.get ⟨n,tm,hp⟩) o→k∈ (dD ⟨o.dst,g,x⟩ tm ctr).rd:=by
  intro k hk
  simp only[iQ]at hk
  split at hk
  · rename_i hl
    simp only[dD,h2 hl,if_true,List.mem_flatMap]
    simp only[List.mem_flatMap]at hk
    obtain⟨y,hy,hky⟩:=hk
    rw[←bk]at hky
    rcases h1 y (by simpa using hy)with hm|⟨f,rfl⟩
    · exact⟨dj y,hm,hky⟩
    · simp only[dj,dN.get,Ao]at hky
      simp at hky
  · simp at hk
 refine⟨rfl,fun t ht=>?_,hrd,fun k hk=>?_⟩
 · simp only[names,List.mem_append,List.mem_filterMap]at ht
   simp only[dD,List.mem_append,List.mem_filterMap]
   rcases ht with⟨y,hy,hyt⟩|ht
   · left
     cases y with
     |tmp t'=>
      simp only[Option.some.injEq]at hyt
      subst hyt
      rcases h1 (.tmp t') (by simpa using hy)with hm|⟨f,hf⟩
      · exact⟨.t t',hm,rfl⟩
      · simp at hf
     |_=>simp at hyt
   · right
     rcases hgd with⟨hg,rfl⟩|⟨j,want,d,hg,hd,rfl⟩
     · simp[hg]at ht
     · simp only[hg,hd]at ht
       simpa using ht
 · simp only[s8,List.mem_append]at hk
   simp only[dD,List.mem_append]
   rcases hk with hk|hk
   · exact .inl hk
   · split at hk
     · rename_i hw
       right
       rw[if_pos (h3 hw)]
       exact hrd k hk
     · simp at hk
theorem G7.step {ops:Array Oper} {o:Oper} {n ctr:Nat} {x:Ro} {g:Option (Nat×Bool)} {tm:TS} {hp:HS} {K:gP→TS→HS→Nat→Prop}
 (hx:bn P o=some x) (hgd:(o.guard=none∧g=none)∨ ∃j want d,o.guard=some (j,want)∧(ops[j]?).bind (·.dst)=some d∧g=some (d,want)) (h:G7 P n ⟨o.dst,g,x⟩ tm hp ctr K):
 ∃bg v aG,(∀t,find bg t=find tm t)∧fe P ops o n bg hp ctr v aG∧K (dD ⟨o.dst,g,x⟩ bg ctr) (eE bg o.dst v) aG (ctr+4):=by
 unfold G7 at h
 split at h
 · exact h.elim
 · rename_i hd
   simp only at hd
   have wanted: ∀ {bg:TS},(∀t,find bg t=find tm t)→aV ops o bg=some true→MK P ⟨o.dst,g,x⟩ bg hp ctr (K (dD ⟨o.dst,g,x⟩ bg ctr))→
    ∃bg v aG,(∀t,find bg t=find tm t)∧fe P ops o n bg hp ctr v aG∧K (dD ⟨o.dst,g,x⟩ bg ctr) (eE bg o.dst v) aG (ctr+4):=by
    intro bg he hg hX
    obtain⟨v,aG,h1,h2⟩:=MK.step (n:=n) hx hX
    exact⟨bg,v,aG,he,⟨hd,by rw[hg];exact h1⟩,h2⟩
   have gz: ∀ {bg:TS},(∀t,find bg t=find tm t)→aV ops o bg=some false→K (dD ⟨o.dst,g,x⟩ bg ctr) (eE bg o.dst (.ej [])) hp (ctr+4)→
    ∃bg v aG,(∀t,find bg t=find tm t)∧fe P ops o n bg hp ctr v aG∧K (dD ⟨o.dst,g,x⟩ bg ctr) (eE bg o.dst v) aG (ctr+4):=by
    intro bg he hg hK
    exact⟨bg, .ej [],hp,he,⟨hd,by rw[hg];exact⟨rfl,rfl⟩⟩,hK⟩
   rcases hgd with⟨Au,rfl⟩|⟨j,want,d,Au,hj,rfl⟩
   · simp only at h
     exact wanted (fun _=>rfl) (by simp[aV,Au]) h
   · have eL: ∀ {bg:TS} {b:Bool},find bg d=some (bV b)→aV ops o bg=some (b==want):=by
      intro bg b hf
      simp only[aV,Au,hj,hf]
     simp only at h
     split at h
     · rename_i b hf
       have lit: ∀ {c:Bool},b=c→ ∀t,find ((d,bV c)::tm) t=find tm t:=by
        intro c hb t
        subst hb
        simp only[az]
        split
        · rename_i e;subst e;exact hf.symm
        · rfl
       split at h
       · rcases iZ h with⟨hb,h⟩|⟨hb,h⟩
         · exact wanted (lit hb) (by rw[eL (b:=true) (by simp[az])];rfl) h
         · exact gz (lit hb) (by rw[eL (b:=false) (by simp[az])];rfl) h
       · rcases iZ h with⟨hb,h⟩|⟨hb,h⟩
         · exact gz (lit hb) (by rw[eL (b:=true) (by simp[az])];rfl) h
         · exact wanted (lit hb) (by rw[eL (b:=false) (by simp[az])];rfl) h
     · rename_i hf
       exact gz (fun _=>rfl) (by simp only[aV,Au,hj,hf]) h
     · exact h.elim
theorem qo.trace {ops:Array Oper} {n base:Nat} {K:List gP→TS→HS→Nat→Prop}: ∀ {l:List Oper} {rs:List gn} {k:Nat} {Ej:List gP} {tm:TS} {hp:HS},(∀j,ops[k+j]? =l[j]?)→aT P ops l=some rs→
 Ej.length=k→qo P n rs Ej tm hp (base+4 * k) K→
 ∃ (tmT:Nat→TS) (hpT:Nat→HS) (v:Nat→V) (fs:List gP),K fs (tmT (k+l.length)) (hpT (k+l.length)) (base+4 * (k+l.length))∧(∀i,i < k→fs[i]? =Ej[i]?)∧(∀t,find (tmT k) t=find tm t)∧hpT k=hp∧
  ∀j o,l[j]? =some o→fe P ops o n (tmT (k+j)) (hpT (k+j)) (base+4 * (k+j)) (v (k+j)) (hpT (k+j+1))∧(∀t,find (tmT (k+j+1)) t=find (eE (tmT (k+j)) o.dst (v (k+j))) t)∧
   ∃f,fs[k+j]? =some f∧f.dst=o.dst∧(∀t,t∈names ops o→t∈f.nm)∧(∀q,q∈iQ (St.get ⟨n,tmT (k+j),hpT (k+j)⟩) o→q∈f.rd)∧(∀q,q∈s8 (St.get ⟨n,tmT (k+j),hpT (k+j)⟩) (base+4 * (k+j)) o→q∈f.wr)
 | [],rs,k,Ej,tm,hp,hl,eK,hk,h=>by
   simp only[aT,Option.some.injEq]at eK
   subst eK
   exact⟨fun _=>tm,fun _=>hp,fun _=> .undef,Ej,by simpa[qo]using h,fun _ _=>rfl,fun _=>rfl,rfl,fun j o hj=>by simp at hj⟩
 |o::l,rs,k,Ej,tm,hp,hl,eK,hk,h=>by
  simp only[aT]at eK
  split at eK
  · rename_i x l' hx hl'
    have hi:ops[k]? =some o:=by simpa using hl 0
    have jb: ∃g,rs=⟨o.dst,g,x⟩::l'∧((o.guard=none∧g=none)∨ ∃j want d,o.guard=some (j,want)∧(ops[j]?).bind (·.dst)=some d∧g=some (d,want)):=by
     split at eK
     · rename_i hg
       simp only[Option.some.injEq]at eK
       exact⟨_,eK.symm, .inl ⟨hg,rfl⟩⟩
     · rename_i j want hg
       split at eK
       · rename_i d hd
         simp only[Option.some.injEq]at eK
         exact⟨_,eK.symm, .inr ⟨j,want,d,hg,hd,rfl⟩⟩
       · simp at eK
    obtain⟨g,N2,hgd⟩:=jb
    clear eK
    subst N2
    · skip
      simp only[qo]at h
      obtain⟨bg,v0,aG,he,hst,hK⟩:=G7.step (ops:=ops) hx hgd h
      have F8:=xz (ops:=ops) (n:=n) (ctr:=base+4 * k) (tm:=bg) (hp:=hp) hx hgd
      rw[show base+4 * k+4=base+4 * (k+1) by omega]at hK
      obtain⟨tmT,hpT,v,fs,q1,q2,q3,q4,q5⟩:=qo.trace (k:=k+1) (fun j=>by have:=hl (j+1);rw[show k+1+j=k+(j+1) by omega,this];simp) hl' (by simp[hk]) hK
      have Aw:fs[k]? =some (dD ⟨o.dst,g,x⟩ bg (base+4 * k)):=by
       rw[q2 k (by omega),List.getElem?_append_right (by omega),hk];simp
      refine⟨fun i=>if i=k then bg else tmT i,fun i=>if i=k then hp else hpT i,fun i=>if i=k then v0 else v i,fs,?_,?_,?_,?_,?_⟩
      · have e1:k+(o::l).length=k+1+l.length:=by simp;omega
        have e2:¬k+1+l.length=k:=by omega
        simp only[e1,e2,if_false]
        exact q1
      · intro i hi'
        rw[q2 i (by omega),List.getElem?_append_left (by omega)]
      · intro t;simp only[if_true];exact he t
      · simp
      · intro j oj hj
        cases j with
        |zero=>
         simp only[List.getElem?_cons_zero,Option.some.injEq]at hj
         subst hj
         have e2:¬k+1=k:=by omega
         simp only[Nat.add_zero,if_true,e2,if_false,q4]
         exact⟨hst,fun t=>q3 t,_,Aw,F8⟩
        |succ j=>
         have:=q5 j oj (by simpa using hj)
         have e1:¬k+(j+1)=k:=by omega
         have e2:¬k+(j+1)+1=k:=by omega
         simp only[e1,e2,if_false]
         rw[show k+(j+1)=k+1+j by omega]
         exact this
  · simp at eK
theorem iY: ∀ {Es:List (List Nat)} {k:Nat},tj k Es=true→ ∀i es,Es[i]? =some es→ ∀e,e∈es→e < k+i
 | [],k,h,i,es,hi,e,he=>by simp at hi
 |x::r,k,h,i,es,hi,e,he=>by
  simp only[tj,Bool.and_eq_true]at h
  cases i with
  |zero=>
   simp only[List.getElem?_cons_zero,Option.some.injEq]at hi
   subst hi
   have:=List.all_eq_true.1 h.1 e he
   simpa using this
  |succ i=>
   have:=iY h.2 i es (by simpa using hi) e he
   omega
theorem Wp.E3 {c:Code} {Q:Exit→St→Nat→Prop} {ctr:Nat} {bg:TS} {aG:HS} {c':Nat} (hw:dP st.tmps st.heap ctr bg aG c') (h:Wp P c Q ⟨st.n,bg,aG⟩ c'):Wp P c Q st ctr:=by
 intro M A ρ a w hr
 obtain⟨A2,ρ2,uE,he,hg⟩:=hw M A ρ st.n a w hr
 exact wp_mono (h M A2 ρ2 a w uE) (fun e a' w' hp=>hp.trans (dc.refl _ _) he hg)
theorem Wp.post {c:Code} {Q Q':Exit→St→Nat→Prop} {ctr:Nat} (h:Wp P c Q st ctr)
 (hq: ∀e st' c',Q e st' c'→Q' e st' c'∨ ∃tm2 hp2 c2,dP st'.tmps st'.heap c' tm2 hp2 c2∧Q' e ⟨st'.n,tm2,hp2⟩ c2):Wp P c Q' st ctr:=by
 intro M A ρ a w hr
 refine wp_mono (h M A ρ a w hr) ?_
 rintro e a' w' ⟨st',c',A',ρ',h1,h2,h3,h4,h5⟩
 rcases hq e st' c' h1 with h1|⟨tm2,hp2,c2,hw,h1⟩
 · exact⟨st',c',A',ρ',h1,h2,h3,h4,h5⟩
 · obtain⟨A2,ρ2,uE,he,hg⟩:=hw M A' ρ' st'.n a' w' h2
   exact⟨_,c2,A2,ρ2,h1,uE,h3,h4.trans he,h5.trans hg h3.size⟩
theorem X.sound {n:Nat}: ∀ {c:Code} {r:Rc},ae P c=some r→ ∀ {Q:Exit→TS→HS→Nat→Prop} {tm:TS} {hp:HS} {ctr:Nat},X P n r Q tm hp ctr→Wp P c (fun e=>nM n (Q e)) ⟨n,tm,hp⟩ ctr:=by
 intro c
 induction c with
 |skip=>
  intro r hr Q tm hp ctr h
  simp only[ae,Option.some.injEq]at hr
  subst hr
  exact Wp.skip ⟨rfl,h⟩
 |ret=>
  intro r hr Q tm hp ctr h
  simp only[ae,Option.some.injEq]at hr
  subst hr
  exact Wp.ret ⟨rfl,h⟩
 |exit id=>
  intro r hr Q tm hp ctr h
  simp only[ae,Option.some.injEq]at hr
  subst hr
  exact Wp.exit ⟨rfl,h⟩
 |seq x y FT FR=>
  intro r hr Q tm hp ctr h
  simp only[ae]at hr
  split at hr
  · rename_i rx ry hx hy
    simp only[Option.some.injEq]at hr
    subst hr
    simp only[X]at h
    refine Wp.seq ((FT hx h).mono ?_)
    rintro e st' c' ⟨h1,h2⟩
    subst h1
    cases e with
    |normal=>exact FR hy h2
    |_=>exact⟨rfl,h2⟩
  · simp at hr
 |cond c x y FT FR=>
  intro r hr Q tm hp ctr h
  simp only[ae]at hr
  split at hr
  · rename_i rx ry hx hy
    simp only[Option.some.injEq]at hr
    subst hr
    simp only[X]at h
    split at h
    · rename_i b hb
      have hb':((⟨n,tm,hp⟩:St).get c).gk =some b:=by rw[←bk];exact hb
      refine Wp.cond hb' ?_
      rcases iZ h with⟨rfl,h⟩|⟨rfl,h⟩
      · exact FT hx h
      · exact FR hy h
    · exact h.elim
  · simp at hr
 |block id b ih=>
  intro r hr Q tm hp ctr h
  simp only[ae]at hr
  split at hr
  · rename_i rb hb
    simp only[Option.some.injEq]at hr
    subst hr
    simp only[X]at h
    refine Wp.block ((ih hb h).mono ?_)
    rintro e st' c' ⟨h1,h2⟩
    cases e with
    |exit id'=>
     simp only[xQ]at h2
     simp only[ri]
     split
     · rename_i e;rw[if_pos e]at h2;exact⟨h1,h2⟩
     · rename_i e;rw[if_neg e]at h2;exact⟨h1,h2⟩
    |_=>exact⟨h1,h2⟩
  · simp at hr
 |loop b ih=>
  intro r hr Q tm hp ctr h
  simp only[ae]at hr
  split at hr
  · rename_i rb hb
    simp only[Option.some.injEq]at hr
    subst hr
    simp only[X]at h
    obtain⟨I,mO,BP⟩:=h
    obtain⟨sE,pb,c0,Hw,m,hI⟩:=mO.get
    refine Wp.E3 (st:=⟨n,tm,hp⟩) Hw ?_
    refine Wp.loop (fun m=>nM n (I m)) ?_ m _ _ ⟨rfl,hI⟩
    rintro m st' c' ⟨h1,h2⟩
    obtain⟨n',bg,aG⟩:=st'
    simp only at h1 h2
    subst h1
    refine Wp.post (ih hb (BP m bg aG c' h2)) ?_
    rintro e st2 c2 ⟨h3,h4⟩
    cases e with
    |normal=>
     obtain⟨tm3,hp3,c3,hw3,m',hm',SK⟩:=bP.get h4
     exact .inr ⟨tm3,hp3,c3,hw3,m',hm',h3,SK⟩
    |_=>exact .inl ⟨h3,h4⟩
  · simp at hr
 |region id ops d=>
  intro r hr Q tm hp ctr h
  cases d with
  |true=>
   simp only[ae]at hr
   split at hr
   · rename_i l hl
     split at hr
     · rename_i hc
       simp only[Bool.and_eq_true]at hc
       simp only[Option.some.injEq]at hr
       subst hr
       simp only[X]at h
       intro M A ρ a w cF
       obtain⟨tmT,hpT,v,fs,⟨q0,q1⟩,_,q3,q4,q5⟩:=qo.trace (P:=P) (ops:=ops) (n:=n) (base:=ctr) (k:=0) (fun j=>by simp) hl rfl (by simpa using h)
       simp only[Nat.zero_add]at q1 q5
       have Aq:Rel M A ρ (bD ctr) ⟨n,tmT 0,hpT 0⟩ a w:=cF.forget rfl (fun t u hu=>by rw[←q3 t];exact hu) (fun k b hb=>by rw[q4]at hb;exact hb)
       refine vj hc.1 (fun i o ho=>q5 i o (by simpa using ho)) (fun i o ho e he=>?_) q0 Aq ?_
       · have:=iY hc.2 i (bf o) (by simp[ho]) e he
         omega
       · rintro a' w' ⟨st',c',A',ρ',⟨rfl,rfl⟩,h2⟩
         exact⟨_,_,A',ρ',⟨rfl,by simpa using q1⟩,h2⟩
     · simp at hr
   · simp at hr
  |false=>
   simp only[ae]at hr
   split at hr
   · rename_i l hl
     simp only[Option.some.injEq]at hr
     subst hr
     simp only[X]at h
     intro M A ρ a w cF
     refine wp_region ?_
     have:=s7.sound (P:=P) (ops:=ops) (k:=0) (l:=ops.toList) (Q:=fun e a' w'=>Post M A ρ w (nM n (Q e)) a' w') (fun j=>by simp) hl h cF (fun _ _ hp=>hp)
     rw[List.range_eq_range']
     simpa using this
   · simp at hr
 |_=>intro r hr;simp[ae]at hr
end Go.aR
end
section
namespace Go.aR
open Go
inductive Pn where
 |e
 |o (p:Pn)
 |i (p:Pn)
 deriving DecidableEq
def FL:Nat→Nat→Pn
 |0,_=> .e
 |f+1,n=>match n with
  |0=> .e
  |m+1=>match m % 2 with
   |0=> .o (FL f (m / 2))
   |_=> .i (FL f (m / 2))
def key (n:Nat):Pn:=FL n n
def Pn.dec:Pn→Nat
 | .e=>0
 | .o p=>2 * p.dec+1
 | .i p=>2 * p.dec+2
theorem pT: ∀ (f n:Nat),n≤f→(FL f n).dec=n
 |0,n,h=>by
  have:n=0:=by omega
  subst this
  rfl
 |f+1,0,_=>rfl
 |f+1,m+1,h=>by
  simp only[FL]
  have ih:=pT f (m / 2) (by omega)
  split
  · rename_i h0
    simp only[Pn.dec,ih]
    omega
  · rename_i h0
    simp only[Pn.dec,ih]
    have:m % 2≠0:=h0
    omega
theorem key_inj {a b:Nat} (h:key a=key b):a=b:=by
 have h1:=pT a a (Nat.le_refl _)
 have h2:=pT b b (Nat.le_refl _)
 unfold key at h
 rw[h,h2]at h1
 exact h1.symm
inductive Tr where
 |nil
 |node (v:Option V) (l r:Tr)
def Tr.get:Tr→Pn→Option V
 | .nil,_=>none
 | .node v l r,p=>match p with
   | .e=>v
   | .o q=>l.get q
   | .i q=>r.get q
def Tr.set:Pn→Tr→V→Tr
 | .e,t,x=>match t with
   | .nil=> .node (some x) .nil .nil
   | .node _ l r=> .node (some x) l r
 | .o p,t,x=>match t with
   | .nil=> .node none (Tr.set p .nil x) .nil
   | .node v l r=> .node v (Tr.set p l x) r
 | .i p,t,x=>match t with
   | .nil=> .node none .nil (Tr.set p .nil x)
   | .node v l r=> .node v l (Tr.set p r x)
def Tr.put {α:Type}:Pn→Tr→V→(Tr→α)→α
 | .e,t,x,k=>match t with
   | .nil=>k (.node (some x) .nil .nil)
   | .node _ l r=>k (.node (some x) l r)
 | .o p,t,x,k=>match t with
   | .nil=>Tr.put p .nil x fun l=>k (.node none l .nil)
   | .node v l r=>Tr.put p l x fun l=>k (.node v l r)
 | .i p,t,x,k=>match t with
   | .nil=>Tr.put p .nil x fun r=>k (.node none .nil r)
   | .node v l r=>Tr.put p r x fun r=>k (.node v l r)
theorem Tr.put_eq {α:Type}: ∀ (p:Pn) (t:Tr) (x:V) (k:Tr→α),Tr.put p t x k=k (Tr.set p t x)
 | .e,t,x,k=>by cases t<;>rfl
 | .o p,t,x,k=>by cases t<;>simp only[Tr.put,Tr.set,Tr.put_eq p]
 | .i p,t,x,k=>by cases t<;>simp only[Tr.put,Tr.set,Tr.put_eq p]
theorem Tr.th (q:Pn):Tr.nil.get q=none:=by cases q<;>rfl
theorem Tr.yT: ∀ (p:Pn) (t:Tr) (x:V) (q:Pn),(Tr.set p t x).get q=if q=p then some x else t.get q
 | .e,t,x,q=>by cases t<;>cases q<;>simp[Tr.set,Tr.get]
 | .o p,t,x,q=>by cases t<;>cases q<;>simp[Tr.set,Tr.get,Tr.yT p,Tr.th]
 | .i p,t,x,q=>by cases t<;>cases q<;>simp[Tr.set,Tr.get,Tr.yT p,Tr.th]
def ey (tr:Tr) (L:TS):Prop:= ∀t,find L t=tr.get (key t)
def j5 {α:Type} (tm:Tr) (dst:Option Nat) (v:V) (k:Tr→α):α:=
 match dst with
 |some d=>Tr.put (key d) tm v k
 |none=>k tm
def tN (tm:Tr) (dst:Option Nat) (v:V):Tr:=
 match dst with
 |some d=>Tr.set (key d) tm v
 |none=>tm
theorem gF {α:Type} (tm:Tr) (dst:Option Nat) (v:V) (k:Tr→α):j5 tm dst v k=k (tN tm dst v):=by
 cases dst<;>simp[j5,tN,Tr.put_eq]
theorem ey.put {tr:Tr} {L:TS} (h:ey tr L) (dst:Option Nat) (v:V):ey (tN tr dst v) (eE L dst v):=by
 intro t
 cases dst with
 |none=>exact h t
 |some d=>
  simp only[tN,eE,Tr.yT,az]
  by_cases e:d=t
  · subst e;simp
  · have:¬key t=key d:=fun h'=>e (key_inj h').symm
    simp[e,this,h t]
def gT (tm:Tr):dN→V
 | .t n=>(tm.get (key n)).getD .undef
 | .c v=>v
theorem kN {tr:Tr} {L:TS} (h:ey tr L):gT tr=fun x=>x.get L:=by
 funext x
 cases x with
 |t n=>simp only[gT,dN.get,h n]
 |c v=>rfl
def nA {α:Sort _} (n:Nat) (k:Nat→α):α:=
 match n with
 |0=>k 0
 |m+1=>k (Nat.succ m)
theorem dB {α:Sort _} (n:Nat) (k:Nat→α):nA n k=k n:=by cases n<;>rfl
def Ek {α:Sort _} (n:Int) (k:Int→α):α:=
 match n with
 | .ofNat m=>nA m fun m=>k (.ofNat m)
 | .negSucc m=>nA m fun m=>k (.negSucc m)
theorem B0 {α:Sort _} (n:Int) (k:Int→α):Ek n k=k n:=by cases n<;>simp[Ek,dB]
def El {α:Sort _} (b:Bool) (k:Bool→α):α:=
 match b with
 |true=>k true
 |false=>k false
theorem o5 {α:Sort _} (b:Bool) (k:Bool→α):El b k=k b:=by cases b<;>rfl
def fU {α:Type} (b:Bool) (x y:α):α:=
 match b with
 |true=>x
 |false=>y
theorem bt {b:Bool} {x:Bool} (h:fU b x false=true):b=true∧x=true:=by cases b<;>simp_all[fU]
def nth {α:Type}:List α→Nat→Option α
 | [],_=>none
 |x::r,n=>match n with
  |0=>some x
  |m+1=>nth r m
theorem lB {α:Type}: ∀ (l:List α) (n:Nat),nth l n=l[n]?
 | [],n=>by simp[nth]
 |x::r,0=>by simp[nth]
 |x::r,n+1=>by simp[nth,lB r n]
theorem vC {a b:Nat} (h:Nat.blt a b=true):a < b:=Nat.le_of_ble_eq_true h
theorem NN {a b:Nat} (h:a < b):Nat.blt a b=true:=Nat.ble_eq_true_of_le h
theorem Dg (a b:Nat):Nat.blt a b=decide (a < b):=by
 by_cases h:a < b
 · rw[NN h,decide_eq_true h]
 · rw[decide_eq_false h]
   cases h':Nat.blt a b with
   |false=>rfl
   |true=>exact absurd (vC h') h
def mQ (k:IntKind) (n:Int):Int:=
 match k with
 | .i64=>match n with
   | .ofNat m=>fU (Nat.blt m 9223372036854775808) (.ofNat m) (IntKind.wrap .i64 (.ofNat m))
   | .negSucc m=>fU (Nat.blt m 9223372036854775808) (.negSucc m) (IntKind.wrap .i64 (.negSucc m))
 | .u64=>match n with
   | .ofNat m=> .ofNat (m % 18446744073709551616)
   | .negSucc m=>IntKind.wrap .u64 (.negSucc m)
 | .u32=>match n with
   | .ofNat m=> .ofNat (m % 4294967296)
   | .negSucc m=>IntKind.wrap .u32 (.negSucc m)
 |k=>k.wrap n
theorem aa {n:Int} (h0: -9223372036854775808≤n) (h1:n < 9223372036854775808):IntKind.i64.wrap n=n:=by
 simp[IntKind.wrap,IntKind.bits,IntKind.signed]
 omega
theorem zP (k:IntKind) (b:Bool) (n:Int) (h:b=true→k.wrap n=n):fU b n (k.wrap n)=k.wrap n:=by
 cases b with
 |false=>rfl
 |true=>exact(h rfl).symm
theorem mP (k:IntKind) (n:Int):mQ k n=k.wrap n:=by
 unfold mQ
 split
 · split
   · rename_i m
     refine zP .i64 _ _ fun h=>aa ?_ ?_
     · have:=vC h;simp only[Int.ofNat_eq_natCast];omega
     · have:=vC h;simp only[Int.ofNat_eq_natCast];omega
   · rename_i m
     refine zP .i64 _ _ fun h=>aa ?_ ?_
     · have:=vC h;omega
     · have:=vC h;omega
 · split
   · rename_i m
     simp only[IntKind.wrap,IntKind.bits,IntKind.signed,Bool.false_and,Int.ofNat_eq_natCast]
     simp
   · rfl
 · split
   · rename_i m
     simp only[IntKind.wrap,IntKind.bits,IntKind.signed,Bool.false_and,Int.ofNat_eq_natCast]
     simp
   · rfl
 · rfl
def DW (a b:Int):Bool:=
 match a,b with
 | .ofNat x, .ofNat y=>Nat.blt x y
 | .ofNat _, .negSucc _=>false
 | .negSucc _, .ofNat _=>true
 | .negSucc x, .negSucc y=>Nat.blt y x
theorem BI (a b:Int):DW a b=decide (a < b):=by
 cases a with
 |ofNat x=>
  cases b with
  |ofNat y=>simp only[DW,Dg];exact decide_eq_decide.2 (by simp only[Int.ofNat_eq_natCast];omega)
  |negSucc y=>simp only[DW];exact(decide_eq_false (by simp only[Int.ofNat_eq_natCast];omega)).symm
 |negSucc x=>
  cases b with
  |ofNat y=>simp only[DW];exact(decide_eq_true (by simp only[Int.ofNat_eq_natCast];omega)).symm
  |negSucc y=>simp only[DW,Dg];exact decide_eq_decide.2 (by omega)
def OB (a b:Int):Bool:=
 match a,b with
 | .ofNat x, .ofNat y=>Nat.beq x y
 | .negSucc x, .negSucc y=>Nat.beq x y
 |_,_=>false
theorem GP (a b:Int):OB a b=(a==b):=by
 rw[Bool.eq_iff_iff,beq_iff_eq]
 cases a<;>cases b<;>simp[OB]
 omega
def BJ:IntKind→Nat
 | .i8=>0| .i16=>1| .i32=>2| .i64=>3| .u8=>4| .u16=>5| .u32=>6| .u64=>7
theorem CS {k k':IntKind} (h:Nat.beq (BJ k) (BJ k')=true):k=k':=by
 cases k<;>cases k'<;>first|rfl|simp[BJ]at h
def Nq (n:Nat):Int:= .ofNat (2 ^ n)
theorem Im (n:Nat):Nq n=(2:Int) ^ n:=by simp[Nq]
def Nf (a:Int) (n:Nat):Int:=
 match a with
 | .ofNat m=> .ofNat (m / 2 ^ n)
 |a=>a.fdiv (2 ^ n)
theorem Ib (a:Int) (n:Nat):Nf a n=a.fdiv (2 ^ n):=by
 cases a with
 |ofNat m=>
  simp only[Nf]
  rw[Int.fdiv_eq_ediv_of_nonneg _ (by exact_mod_cast Nat.zero_le _)]
  simp
 |negSucc m=>rfl
def orI (k:IntKind) (a b:Int):Int:=
 match a,b with
 | .ofNat x, .ofNat y=>fU (Nat.blt x (2 ^ k.bits)&&Nat.blt y (2 ^ k.bits)) (mQ k (.ofNat (x|||y))) (k.wrap (BitVec.ofInt k.bits (.ofNat x)|||BitVec.ofInt k.bits (.ofNat y)).toNat)
 |a,b=>k.wrap (BitVec.ofInt k.bits a|||BitVec.ofInt k.bits b).toNat
theorem jQ {w x:Nat} (h:x < 2 ^ w):(BitVec.ofInt w (Int.ofNat x)).toNat=x:=by
 rw[BitVec.toNat_ofInt]
 show((x:Int) % ((2 ^ w:Nat):Int)).toNat=x
 rw[←Int.natCast_emod,Int.toNat_natCast,Nat.mod_eq_of_lt h]
theorem NC (k:IntKind) (a b:Int):orI k a b=k.wrap (BitVec.ofInt k.bits a|||BitVec.ofInt k.bits b).toNat:=by
 cases a<;>cases b<;>simp only[orI]
 rename_i x y
 cases h:(Nat.blt x (2 ^ k.bits)&&Nat.blt y (2 ^ k.bits))with
 |false=>rfl
 |true=>
  simp only[Bool.and_eq_true,Nat.blt,Nat.ble_eq]at h
  simp only[fU,mP,BitVec.toNat_or]
  rw[jQ (by omega),jQ (by omega)]
  rfl
def OV (k:IntKind) (a b:Int):Int:=
 match a,b with
 | .ofNat x, .ofNat y=>fU (Nat.blt x (2 ^ k.bits)&&Nat.blt y (2 ^ k.bits)) (mQ k (.ofNat (x&&& y))) (k.wrap (BitVec.ofInt k.bits (.ofNat x)&&& BitVec.ofInt k.bits (.ofNat y)).toNat)
 |a,b=>k.wrap (BitVec.ofInt k.bits a&&& BitVec.ofInt k.bits b).toNat
theorem Ji (k:IntKind) (a b:Int):OV k a b=k.wrap (BitVec.ofInt k.bits a&&& BitVec.ofInt k.bits b).toNat:=by
 cases a<;>cases b<;>simp only[OV]
 rename_i x y
 cases h:(Nat.blt x (2 ^ k.bits)&&Nat.blt y (2 ^ k.bits))with
 |false=>rfl
 |true=>
  simp only[Bool.and_eq_true,Nat.blt,Nat.ble_eq]at h
  simp only[fU,mP,BitVec.toNat_and]
  rw[jQ (by omega),jQ (by omega)]
  rfl
end Go.aR
end
section
namespace Go.aR
open Go
def yt {α:Type} (bad:α) (g:dN→V):List (Nat×dN)→(List (Nat×W)→α)→α
 | [],k=>k []
 |(i,x)::r,k=>match g x with
  | .w u=>yt bad g r fun l=>k ((i,u)::l)
  |_=>bad
theorem w8 {tm:TS}: ∀ {ps:List (Nat×dN)} {k:List (Nat×W)→Bool},yt false (fun x=>x.get tm) ps k=true→ ∃l,qL tm ps=some l∧k l=true
 | [],k,h=>⟨[],rfl,h⟩
 |(i,x)::r,k,h=>by
  simp only[yt]at h
  split at h
  · rename_i u hu
    obtain⟨l,h1,h2⟩:=w8 h
    exact⟨_,by simp only[qL,hu,h1],h2⟩
  · simp at h
def C6 {α:Type} (bad:α) (g:dN→V):List C→List (Nat×Nat×dN)→(List C→α)→α
 |cells,[],k=>k cells
 |cells,(off,size,x)::rest,k=>
  match g x with
  | .w u=>fU (Nat.beq (cellsOf u).length size&&Nat.ble (off+size) cells.length) (gm (aW cells off (cellsOf u)) fun cs=>C6 bad g cs rest k) bad
  |_=>bad
theorem AI {tm:TS}: ∀ {ps:List (Nat×Nat×dN)} {cells:List C} {k:List C→Bool},C6 false (fun x=>x.get tm) cells ps k=true→ ∃l,ve tm cells ps=some l∧k l=true
 | [],cells,k,h=>⟨cells,rfl,h⟩
 |(off,size,x)::r,cells,k,h=>by
  simp only[C6]at h
  split at h
  · rename_i u hu
    obtain⟨hc,h⟩:=bt h
    rw[cz]at h
    simp only[Bool.and_eq_true,Nat.beq_eq,Nat.ble_eq]at hc
    obtain⟨l,h1,h2⟩:=AI h
    exact⟨l,by simp only[ve,hu,if_pos hc,h1],h2⟩
  · simp at h
def De {α:Type} (bad:α) (g:dN→V):List dN→(List (Nat×Nat×Nat×Nat)→α)→α
 | [],k=>k []
 |x::r,k=>match g x with
  | .w (.one (.ptr id sz i j))=>De bad g r fun l=>k ((id,sz,i,j)::l)
  |_=>bad
theorem AY {tm:TS}: ∀ {ps:List dN} {k:List (Nat×Nat×Nat×Nat)→Bool},De false (fun x=>x.get tm) ps k=true→ ∃l,xG tm ps=some l∧k l=true
 | [],k,h=>⟨[],rfl,h⟩
 |x::r,k,h=>by
  simp only[De]at h
  split at h
  · rename_i id sz i j hu
    obtain⟨l,h1,h2⟩:=AY h
    exact⟨_,by simp only[xG,hu,h1],h2⟩
  · simp at h
def M1 {α:Type} (bad:α) (g:dN→V):List dN→(List W→α)→α
 | [],k=>k []
 |x::r,k=>match g x with
  | .w u=>M1 bad g r fun l=>k (u::l)
  |_=>bad
theorem tw {tm:TS}: ∀ {ps:List dN} {k:List W→Bool},M1 false (fun x=>x.get tm) ps k=true→ ∃l,Cv tm ps=some l∧k l=true
 | [],k,h=>⟨[],rfl,h⟩
 |x::r,k,h=>by
  simp only[M1]at h
  split at h
  · rename_i u hu
    obtain⟨l,h1,h2⟩:=tw h
    exact⟨_,by simp only[Cv,hu,h1],h2⟩
  · simp at h
def zW {α:Type} (bad:α) (n:Option Nat) (cs:List C) (j:Nat) (K:V→α):α:=
 match n with
 |some n=>fU (Nat.ble (j+n) cs.length) (gm ((cs.drop j).take n) fun l=>K (.w (.agg l))) bad
 |none=>match nth cs j with
  |some c=>wv c fun c=>K (.w (.one c))
  |none=>bad
theorem pJ {n:Option Nat} {cs:List C} {j:Nat} {K:V→Bool} (h:zW false n cs j K=true):rJ n cs j fun v=>K v=true:=by
 unfold zW at h
 unfold rJ
 split at h
 · obtain⟨hc,h⟩:=bt h
   simp only[Nat.ble_eq]at hc
   simp only[if_pos hc,cz]at h⊢
   exact h
 · split at h
   · rename_i c hc
     rw[lB]at hc
     simp only[hc,jV]at h⊢
     exact h
   · simp at h
def zc {α:Type} (bad:α) (hp:HS) (c:C) (k:List C→Nat→α):α:=
 match c with
 | .ptr id sz i j=>match find hp id with
   |some (.row sz' xs)=>match nth xs i with
    |some e=>fU (Nat.beq sz' sz) (k e j) bad
    |none=>bad
   |_=>bad
 | .rG e j=>k (e.map .t) j
 |_=>bad
theorem xE {hp:HS} {c:C} {k:List C→Nat→Bool} (h:zc false hp c k=true): ∃cs j,deref hp c=some (cs,j)∧k cs j=true:=by
 unfold zc at h
 split at h
 · split at h
   · rename_i hf
     split at h
     · rename_i e he
       obtain⟨hc,h⟩:=bt h
       rw[lB]at he
       simp only[Nat.beq_eq]at hc
       exact⟨_,_,by simp[deref,hf,hc,he],h⟩
     · simp at h
   · simp at h
 · exact⟨_,_,rfl,h⟩
 · simp at h
def RD {α:Type} (bad:α) (c:C) (k:Nat→α):α:=
 match c.ux with
 |some n=>nA n k
 |none=>bad
def OR {α:Type} (bad:α) (op:BinOp) (k:IntKind) (a b:Int) (K:V→α):α:=
 match op with
 | .add=>Ek (mQ k (a+b)) fun n=>K (iV k n)
 | .sub=>Ek (mQ k (a - b)) fun n=>K (iV k n)
 | .mul=>Ek (mQ k (a * b)) fun n=>K (iV k n)
 | .eql=>El (OB a b) fun c=>K (bV c)
 | .neq=>El (!(OB a b)) fun c=>K (bV c)
 | .lss=>El (DW a b) fun c=>K (bV c)
 | .leq=>El (!(DW b a)) fun c=>K (bV c)
 | .gtr=>El (DW b a) fun c=>K (bV c)
 | .geq=>El (!(DW a b)) fun c=>K (bV c)
 | .quo=>fU (!(OB b 0)) (Ek (mQ k (a.tdiv b)) fun n=>K (iV k n)) bad
 | .rem=>fU (!(OB b 0)) (Ek (a.tmod b) fun n=>K (iV k n)) bad
 | .shl=>fU (!(DW b 0)) (Ek (mQ k (a * Nq (min b.toNat k.bits))) fun n=>K (iV k n)) bad
 | .shr=>fU (!(DW b 0)) (Ek (Nf a (min b.toNat k.bits)) fun n=>K (iV k n)) bad
 | .and=>Ek (OV k a b) fun n=>K (iV k n)
 | .or=>Ek (orI k a b) fun n=>K (iV k n)
 |_=>bad
def ER {α:Type} (bad:α) (r:Ro) (g:dN→V) (hp:HS) (nid:Nat) (K:V→HS→α):α:=
 match r with
 | .kC x=>rV (g x) fun v=>K v hp
 | .pick c x y=>match(g c).gk with
   |some b=>fU b (rV (g x) fun v=>K v hp) (rV (g y) fun v=>K v hp)
   |none=>bad
 | .alloc z=>K (.w (.one (.ptr nid z.length 0 0))) ((nid, .row z.length [z])::hp)
 | .box x=>match g x with
   | .w u=>gm (cellsOf u) fun cs=>K (.w (.one (.ptr nid cs.length 0 0))) ((nid, .row cs.length [cs])::hp)
   |_=>bad
 | .build z ps=>C6 bad g z ps fun cs=>K (.w (.agg cs)) hp
 | .aY z len ps=>yt bad g ps fun l=>match oo z.length (List.replicate len z) l with
    |some xs=>gm xs fun xs=>K (.w (.one (.own nid z.length 0 len))) ((nid, .row z.length xs)::hp)
    |none=>bad
 | .load n x=>match g x with
   | .w (.one c)=>zc bad hp c fun cs j=>zW bad n cs j fun v=>K v hp
   |_=>bad
 | .store n x y=>match g x,g y with
   | .w (.one (.ptr id sz i j)), .w u=>match find hp id with
     |some (.row sz' xs)=>match nth xs i with
      |some el=>fU (Nat.beq sz' sz&&Nat.beq (cellsOf u).length n&&Nat.ble (j+n) el.length)
        (gm (aW el j (cellsOf u)) fun Bm=>gm (xs.set i Bm) fun xs'=>gm (jI hp id (.row sz xs')) fun h=>K .undef h) bad
      |none=>bad
     |_=>bad
   |_,_=>bad
 | .xC off x=>match g x with
   | .w (.one (.ptr id sz i j))=>nA (j+off) fun q=>K (.w (.one (.ptr id sz i q))) hp
   | .w (.one (.rG e j))=>nA (j+off) fun q=>K (.w (.one (.rG e q))) hp
   |_=>bad
 | .field off n x=>match g x with
   | .w (.agg cs)=>zW bad n cs off fun v=>K v hp
   |_=>bad
 | .fW size x i=>match g x,(g i).fh with
   | .w (.one (.own id sz i0 len)),some (_, .ofNat n)=>fU (Nat.beq sz size&&Nat.blt n len) (nA (i0+n) fun q=>K (.w (.one (.ptr id sz q 0))) hp) bad
   | .w (.one (.t (.aD sz xs))),some (_, .ofNat n)=>match nth xs n with
     |some e=>fU (Nat.beq sz size) (K (.w (.one (.rG e 0))) hp) bad
     |none=>bad
   |_,_=>bad
 | .uC len size x i=>match g x,(g i).fh with
   | .w (.one c),some (_, .ofNat n)=>match c.shift (n * size)with
     |some d=>fU (Nat.blt n len) (K (.w (.one d)) hp) bad
     |none=>bad
   |_,_=>bad
 | .slice size x lo hi=>match g x with
   | .w (.one c)=>match c.ux,c.Na with
     |some len,some sz=>match fq (lo.map g) 0,fq (hi.map g) len with
       |some l,some h=>fU (Nat.beq sz size&&Nat.ble l h&&Nat.ble h len) (match zd c l h with
        |some d=>wv d fun d=>K (.w (.one d)) hp
        |none=>bad) bad
       |_,_=>bad
     |_,_=>bad
   |_=>bad
 | .make z bytes l c=>match(g l).fh,(g c).fh with
   |some (_, .ofNat l),some (_, .ofNat c)=>fU (Nat.ble l c&&Nat.ble c 4611686018427387904&&Nat.ble (c * bytes) 281474976710656)
     (gm (List.replicate l z) fun xs=>K (.w (.one (.own nid z.length 0 l))) ((nid, .row z.length xs)::hp)) bad
   |_,_=>bad
 | .extract x k=>match g x with
   | .ej ws=>match nth ws k with
     |some u=>rV (.w u) fun v=>K v hp
     |none=>bad
   |_=>bad
 | .jy f cW=>De bad g cW fun l=>K (.w (.one (.jy f l))) hp
 | .len x=>match g x with
   | .w (.one c)=>RD bad c fun n=>K (iV .i64 (.ofNat n)) hp
   |_=>bad
 | .append size bytes s x=>match g s,g x with
   | .w (.one s), .w (.one x)=>match yZ hp x with
     |some (_,[])=>match s.ux with
      |some _=>wv s fun s=>K (.w (.one s)) hp
      |none=>bad
     |some (sz,y::ys)=>match s with
      | .own id sz' 0 len=>match find hp id with
        |some (.row di xs)=>
         fU (Nat.beq sz size&&Nat.beq sz' size&&Nat.beq di size&&Nat.beq len xs.length&&Nat.ble ((len+(ys.length+1)) * bytes) aX&&Nat.ble (len+(ys.length+1)) maxLen)
          (gm (del hp id) fun hp=>gm (xs++y::ys) fun zs=>nA (len+(ys.length+1)) fun q=>K (.w (.one (.own nid size 0 q))) ((nid, .row size zs)::hp)) bad
        |_=>bad
      | .t (.val (.slice none 0 0))=>fU (Nat.beq sz size&&Nat.ble ((ys.length+1) * bytes) aX&&Nat.ble (ys.length+1) maxLen)
         (gm (y::ys) fun zs=>nA (ys.length+1) fun q=>K (.w (.one (.own nid size 0 q))) ((nid, .row size zs)::hp)) bad
      |_=>bad
     |none=>bad
   |_,_=>bad
 | .bin op x y=>match g x,g y with
   | .w (.one (.t (.val (.int k a)))), .w (.one (.t (.val (.int k' b))))=>fU (Nat.beq (BJ k) (BJ k')) (OR bad op k a b fun v=>K v hp) bad
   | .w (.one (.t (.val (.string a)))), .w (.one (.t (.val (.string b))))=>match op with
     | .add=>fU (Nat.ble (a.data.toList.length+b.data.toList.length) 9223372036854775807) (gm (a.data.toList++b.data.toList) fun l=>K (.w (.one (.t (.val (.string ⟨⟨l⟩⟩))))) hp) bad
     | .eql=>El (a.data.toList==b.data.toList) fun c=>K (bV c) hp
     | .neq=>El (!(a.data.toList==b.data.toList)) fun c=>K (bV c) hp
     |_=>bad
   |_,_=>bad
 | .qk op x y=>match(g x).gk,(g y).gk with
   |some a,some b=>match op with
    | .eql=>El (a==b) fun c=>K (bV c) hp
    | .neq=>El (!(a==b)) fun c=>K (bV c) hp
    |_=>bad
   |_,_=>bad
 | .AO neg ks x y=>match g x,g y with
   | .w (.agg cs), .w (.agg ds)=>match qd ks cs ds with
     |some b=>El b fun b=>match neg with
      |true=>K (bV (!b)) hp
      |false=>K (bV b) hp
     |none=>bad
   |_,_=>bad
 | .mw x y=>match(g x).fh,(g y).fh with
   |some (k,a),some (_,b)=>K (iV k (fU (DW b a) b a)) hp
   |_,_=>bad
 | .nJ x y=>match(g x).fh,(g y).fh with
   |some (k,a),some (_,b)=>K (iV k (fU (DW a b) b a)) hp
   |_,_=>bad
 | .nK x=>match g x with
   | .w (.one (.t (.val (.string s))))=>nA s.data.toList.length fun n=>K (iV .i64 (.ofNat n)) hp
   |_=>bad
 | .qF x i=>match g x,(g i).fh with
   | .w (.one (.t (.val (.string s)))),some (_, .ofNat n)=>match nth s.data.toList n with
     |some b=>nA b.toNat fun q=>K (iV .u8 (.ofNat q)) hp
     |none=>bad
   |_,_=>bad
 | .not x=>match(g x).gk with
   |some b=>El (!b) fun c=>K (bV c) hp
   |none=>bad
 | .neg x=>match(g x).fh with
   |some (k,n)=>Ek (mQ k (0 - n)) fun n=>K (iV k n) hp
   |none=>bad
 | .conv k x=>match(g x).fh with
   |some (_,n)=>Ek (mQ k n) fun n=>K (iV k n) hp
   |none=>bad
 |_=>bad
set_option maxHeartbeats 1000000
theorem Jh {op:BinOp} {x y:dN} {k:IntKind} {a b:Int} {tm:TS} {hp:HS} {nid:Nat} {K:V→HS→Bool} (hx:x.get tm=iV k a) (hy:y.get tm=iV k b)
 (h:OR false op k a b (fun v=>K v hp)=true):XR (.bin op x y) tm hp nid fun v aG=>K v aG=true:=by
 simp only[XR,hx,hy,if_true]
 cases op<;>simp only[OR,B0,o5,mP,GP,BI,Im,Ib,Ji,NC]at h
 case add=>exact h
 case sub=>exact h
 case mul=>exact h
 case eql=>exact h
 case neq=>exact h
 case lss=>exact h
 case leq=>
  have e:(!decide (b < a))=decide (a≤b):=by rw[Bool.eq_iff_iff];simp
  rw[e]at h
  exact h
 case gtr=>exact h
 case geq=>
  have e:(!decide (a < b))=decide (a≥b):=by rw[Bool.eq_iff_iff];simp
  rw[e]at h
  exact h
 case quo=>
  obtain⟨h1,h2⟩:=bt h
  exact⟨by simpa using h1,h2⟩
 case rem=>
  obtain⟨h1,h2⟩:=bt h
  exact⟨by simpa using h1,h2⟩
 case shl=>
  obtain⟨h1,h2⟩:=bt h
  exact⟨by simpa using h1,h2⟩
 case shr=>
  obtain⟨h1,h2⟩:=bt h
  exact⟨by simpa using h1,h2⟩
 case and=>exact h
 case or=>exact h
 all_goals simp at h
theorem OS (s:ByteArray) (n:Nat):s.data.toList[n]? =s[n]? :=by
 by_cases h:n < s.size
 · have h2:n < s.data.size:=h
   rw[getElem?_pos s n h]
   simp only[Array.getElem?_toList]
   rw[getElem?_pos s.data n h2]
   rfl
 · have h2:¬n < s.data.size:=h
   rw[getElem?_neg s n h]
   simp only[Array.getElem?_toList]
   rw[getElem?_neg s.data n h2]
theorem afT {r:Ro} {tm:TS} {hp:HS} {nid:Nat} {K:V→HS→Bool} (h:ER false r (fun x=>x.get tm) hp nid K=true):XR r tm hp nid fun v aG=>K v aG=true:=by
 cases r with
 |kC x=>simpa only[ER,XR,dM]using h
 |pick c x y=>
  simp only[ER,XR,dM]at h⊢
  split at h
  · rename_i b hb
    simp only[hb]
    cases b
    · exact h
    · exact h
  · simp at h
 |alloc z=>exact h
 |box x=>
  simp only[ER,XR,cz]at h⊢
  split at h
  · rename_i u hu;simp only[hu];exact h
  · simp at h
 |build z ps=>
  simp only[ER,XR,cz]at h⊢
  obtain⟨l,h1,h2⟩:=AI h
  simp only[h1]
  exact h2
 |aY z len ps=>
  simp only[ER,XR,cz]at h⊢
  obtain⟨l,h1,h2⟩:=w8 h
  simp only[h1]
  split at h2
  · rename_i xs hxs;simp only[hxs];exact h2
  · simp at h2
 |load n x=>
  simp only[ER,XR]at h⊢
  split at h
  · rename_i c hc
    simp only[hc]
    obtain⟨cs,j,h1,h2⟩:=xE h
    cases c with
    |ptr id sz i j'=>
     simp only[deref]at h1
     split at h1
     · rename_i sz' xs hf
       simp only[hf]
       split at h1
       · rename_i hs
         rw[if_pos hs]
         simp only[Option.map_eq_some_iff,Prod.mk.injEq]at h1
         obtain⟨e,he,rfl,rfl⟩:=h1
         simp only[sF,he]
         exact pJ h2
       · simp at h1
     · simp at h1
    |_=>simp only[h1];exact pJ h2
  · simp at h
 |store n x y=>
  simp only[ER,XR,cz]at h⊢
  split at h
  · rename_i id sz i j u hx hy
    simp only[hx,hy]
    split at h
    · rename_i sz' xs hf
      simp only[hf]
      split at h
      · rename_i el hel
        rw[lB]at hel
        simp only[sF,hel]
        obtain⟨hc,h⟩:=bt h
        simp only[Bool.and_eq_true,Nat.beq_eq,Nat.ble_eq]at hc
        rw[if_pos ⟨hc.1.1,hc.1.2,hc.2⟩]
        exact h
      · simp at h
    · simp at h
  · simp at h
 |xC off x=>
  simp only[ER,XR,dB]at h⊢
  split at h
  · rename_i hx;simp only[hx];exact h
  · rename_i hx;simp only[hx];exact h
  · simp at h
 |field off n x=>
  simp only[ER,XR]at h⊢
  split at h
  · rename_i hx;simp only[hx];exact pJ h
  · simp at h
 |fW size x i=>
  simp only[ER,XR,dB]at h⊢
  split at h
  · rename_i id sz i0 len q n hx hi
    simp only[hx,hi]
    obtain⟨hc,h⟩:=bt h
    simp only[Bool.and_eq_true,Nat.beq_eq,Nat.blt,Nat.ble_eq]at hc
    rw[if_pos hc.1]
    refine⟨⟨Int.natCast_nonneg n,?_⟩,h⟩
    show(n:Int) < (len:Int)
    omega
  · rename_i sz xs q n hx hi
    simp only[hx,hi]
    split at h
    · rename_i e he
      rw[lB]at he
      obtain⟨hc,h⟩:=bt h
      simp only[Nat.beq_eq]at hc
      rw[if_pos hc]
      exact⟨Int.natCast_nonneg n,e,he,h⟩
    · simp at h
  · simp at h
 |uC len size x i=>
  simp only[ER,XR]at h⊢
  split at h
  · rename_i c q n hx hi
    simp only[hx,hi]
    split at h
    · rename_i d hd
      obtain⟨hc,h⟩:=bt h
      have e:(Int.ofNat n).toNat=n:=rfl
      simp only[e,hd]
      simp only[Nat.blt,Nat.ble_eq]at hc
      refine⟨⟨Int.natCast_nonneg n,?_⟩,h⟩
      show(n:Int) < (len:Int)
      omega
    · simp at h
  · simp at h
 |slice size x lo hi=>
  simp only[ER,XR,jV]at h⊢
  split at h
  · rename_i c hc
    simp only[hc]
    split at h
    · rename_i len sz hl hs
      simp only[hl,hs]
      split at h
      · rename_i l hh h1 h2
        obtain⟨hc,h⟩:=bt h
        simp only[Bool.and_eq_true,Nat.beq_eq,Nat.ble_eq]at hc
        rw[if_pos hc.1.1]
        refine Df h1 (Df h2 ⟨⟨hc.1.2,hc.2⟩,?_⟩)
        split at h
        · rename_i d hd;simp only[vu,hd];exact h
        · simp at h
      · simp at h
    · simp at h
  · simp at h
 |make z bytes l c=>
  simp only[ER,XR,cz]at h⊢
  split at h
  · rename_i q l' q' c' hl hc
    simp only[hl,hc]
    obtain⟨hh,h⟩:=bt h
    obtain⟨anQ,hh3⟩:=Bool.and_eq_true _ _▸hh
    obtain⟨IP,Oc⟩:=Bool.and_eq_true _ _▸anQ
    have g1:=Nat.le_of_ble_eq_true IP
    have g2:=Nat.le_of_ble_eq_true Oc
    have g3:=Nat.le_of_ble_eq_true hh3
    refine⟨⟨Int.natCast_nonneg l',Int.ofNat_le.2 g1,?_,?_⟩,h⟩
    · show(c':Int)≤_
      omega
    · show(c':Int) * (bytes:Int)≤_
      rw[←Int.natCast_mul]
      generalize c' * bytes=q at g3
      omega
  · simp at h
 |extract x k=>
  simp only[ER,XR,dM]at h⊢
  split at h
  · rename_i ws hx
    simp only[hx]
    split at h
    · rename_i u hu
      rw[lB]at hu
      simp only[hu]
      exact h
    · simp at h
  · simp at h
 |jy f cW=>
  simp only[ER,XR]at h⊢
  obtain⟨l,h1,h2⟩:=AY h
  simp only[h1]
  exact h2
 |len x=>
  simp only[ER,XR,RD,dB]at h⊢
  split at h
  · rename_i c hc
    simp only[hc]
    split at h
    · rename_i n hn;simp only[hn];exact h
    · simp at h
  · simp at h
 |append size bytes s x=>
  simp only[ER,XR,cz,dB,jV]at h⊢
  split at h
  · rename_i s' x' hs hx
    simp only[hs,hx]
    split at h
    · rename_i sz he
      simp only[he]
      split at h
      · rename_i ln hln;simp only[hln];exact h
      · simp at h
    · rename_i sz y ys he
      simp only[he]
      split at h
      · rename_i id sz' len
        split at h
        · rename_i di xs hf
          simp only[hf]
          obtain⟨hc,h⟩:=bt h
          simp only[Bool.and_eq_true,Nat.beq_eq,Nat.ble_eq]at hc
          obtain⟨⟨⟨⟨⟨h1,h2⟩,h3⟩,h4⟩,h5⟩,h6⟩:=hc
          subst h4
          rw[if_pos ⟨h1,h2,h3⟩]
          exact⟨⟨rfl,h5,h6⟩,h⟩
        · simp at h
      · obtain⟨hc,h⟩:=bt h
        simp only[Bool.and_eq_true,Nat.beq_eq,Nat.ble_eq]at hc
        obtain⟨⟨h1,h2⟩,h3⟩:=hc
        rw[if_pos h1]
        exact⟨⟨h2,h3⟩,h⟩
      · simp at h
    · simp at h
  · simp at h
 |bin op x y=>
  simp only[ER]at h
  split at h
  · rename_i k a k' b hx hy
    obtain⟨hc,h'⟩:=bt h
    have:=CS hc
    subst this
    exact Jh hx hy h'
  · rename_i a b hx hy
    simp only[XR,hx,hy]
    split at h
    · obtain⟨h1,h2⟩:=bt h
      rw[cz]at h2
      have e:(⟨⟨a.data.toList++b.data.toList⟩⟩:ByteArray)=a++b:=by
       apply ByteArray.ext
       rw[ByteArray.data_append]
       apply Array.ext'
       simp
      rw[e]at h2
      exact⟨by have h3:=Nat.le_of_ble_eq_true h1;rw[Array.length_toList,Array.length_toList]at h3;exact h3,h2⟩
    · simpa only[o5,ByteArray.toList_eq]using h
    · simpa only[o5,ByteArray.toList_eq]using h
    · simp at h
  · simp at h
 |G1 x=>simp[ER]at h
 |AO neg ks x y=>
  simp only[ER,XR]at h⊢
  split at h
  · rename_i cs ds hx hy
    simp only[hx,hy]
    split at h
    · rename_i b hb
      simp only[hb]
      rw[o5]at h
      cases neg<;>exact h
    · simp at h
  · simp at h
 |qk op x y=>
  simp only[ER,XR]at h⊢
  split at h
  · rename_i a b hx hy
    simp only[hx,hy]
    split at h
    · simpa only[o5]using h
    · simpa only[o5]using h
    · simp at h
  · simp at h
 |mw x y=>
  simp only[ER,XR,BI]at h⊢
  split at h
  · rename_i k a k' b hx hy
    simp only[hx,hy]
    have e:fU (decide (b < a)) b a=if b < a then b else a:=by by_cases hb:b < a<;>simp[fU,hb]
    rw[e]at h
    exact h
  · simp at h
 |nJ x y=>
  simp only[ER,XR,BI]at h⊢
  split at h
  · rename_i k a k' b hx hy
    simp only[hx,hy]
    have e:fU (decide (a < b)) b a=if b > a then b else a:=by by_cases hb:a < b<;>simp[fU,hb]
    rw[e]at h
    exact h
  · simp at h
 |nK x=>
  simp only[ER,XR,dB]at h⊢
  split at h
  · rename_i s hx;simp only[hx];exact h
  · simp at h
 |qF x i=>
  simp only[ER,XR,dB]at h⊢
  split at h
  · rename_i s q n hx hi
    simp only[hx,hi]
    split at h
    · rename_i b hb
      rw[lB]at hb
      refine⟨Int.natCast_nonneg n,b,?_,h⟩
      have e:(Int.ofNat n).toNat=n:=rfl
      rw[e, ←OS]
      exact hb
    · simp at h
  · simp at h
 |not x=>
  simp only[ER,XR,o5]at h⊢
  split at h
  · rename_i b hb;simp only[hb];exact h
  · simp at h
 |neg x=>
  simp only[ER,XR,B0,mP]at h⊢
  split at h
  · rename_i k n hx;simp only[hx];exact h
  · simp at h
 |conv k x=>
  simp only[ER,XR,B0,mP]at h⊢
  split at h
  · rename_i q n hx;simp only[hx];exact h
  · simp at h
 |call f xs=>simp[ER]at h
 |fb x xs=>simp[ER]at h
 |raw op ty=>simp[ER]at h
end Go.aR
end
section
namespace Go.aR
open Go
variable {P:Program} {M A:Nat→Prop} {ρ:Env} {F:Nat→Prop} {st:St} {a:Act} {w:World}
abbrev bare (op:Op) (ty:TypeId):Oper:=⟨none,op,ty, "", #[],none⟩
theorem sc (ev:Operand→Value) (o:Oper):execOp ev (bare o.op o.type)=execOp ev o:=by cases o;rfl
theorem wA (get:Operand→V) (o:Oper):bh P get (bare o.op o.type)=bh P get o:=by cases o;rfl
theorem si (get:Operand→V) (hp:HS) (nid:Nat) (o:Oper):aj P get hp nid (bare o.op o.type)=aj P get hp nid o:=by cases o;rfl
theorem yc {w:World} {b:Nat} {en en':Array MapEntry} {c c':Nat} (hb:w.heap[b]? =some (.map en c)) (k:Nat):({w with heap:=w.heap.setIfInBounds b (.map en' c')}:World).shape? k=w.shape? k:=by
 simp only[World.shape?]
 by_cases hk:b=k
 · subst hk
   have hlt:b < w.heap.size:=by
    rcases Nat.lt_or_ge b w.heap.size with h|h
    · exact h
    · simp[Array.getElem?_eq_none h]at hb
   have e:(w.heap.setIfInBounds b (.map en' c'))[b]? =some (.map en' c'):=by simp[hlt]
   rw[e,hb]
 · rw[Array.getElem?_setIfInBounds_ne hk]
theorem Rel.tM (h:Rel M A ρ F st a w) {id clock clock':Nat} {es es':List (Value×C×Nat)} {b:Nat} {en en':Array MapEntry}
 (hf:find st.heap id=some (.mp es clock)) (hρ:ρ id=some (.fN b)) (hb:w.heap[b]? =some (.map en clock)) (hs:en'.size=es'.length)
 (hc: ∀ (i:Nat) (k:Value) (c:C) (n:Nat),es'[i]? =some (k,c,n)→ ∃e,en'[i]? =some e∧e.key=k∧e.born=n∧RC w A ρ c e.val∧xP c e.val):
 Rel M A ρ F {st with heap:=jI st.heap id (.mp es' clock')} a {w with heap:=w.heap.setIfInBounds b (.map en' clock')}∧dc M w {w with heap:=w.heap.setIfInBounds b (.map en' clock')}:=by
 obtain⟨hlt,hM,hA⟩:=(h.heap id _ hf).lt hρ
 have N5: ∀k,k≠b→(w.heap.setIfInBounds b (.map en' clock'))[k]? =w.heap[k]? :=fun k hk=>Array.getElem?_setIfInBounds_ne (fun e=>hk e.symm)
 have hk:dV A A w {w with heap:=w.heap.setIfInBounds b (.map en' clock')}:=⟨by simp,fun k _ hn=>⟨N5 k (fun e=>hn (e▸hA)),hn⟩⟩
 have hsh: ∀k,k < w.heap.size→({w with heap:=w.heap.setIfInBounds b (.map en' clock')}:World).shape? k=w.shape? k:=fun k _=>yc hb k
 have dI:dc M w {w with heap:=w.heap.setIfInBounds b (.map en' clock')}:=⟨rfl,rfl,rfl,by simp,fun k _ ho=>N5 k (fun e=>ho (e▸hM)),hsh⟩
 refine⟨⟨h.size,h.defers,fun t v hv=>(h.tmps t v hv).keeps hk hsh (cU.refl _),?_,?_,h.fresh,?_,?_,h.dS.Er dI (fun _ _ h=>h)⟩,dI⟩
 · intro k blk Aw
   simp only[bU]at Aw
   split at Aw
   · rename_i ek
     subst ek
     simp only[hf,Option.map_some,Option.some.injEq]at Aw
     subst Aw
     refine⟨b,en',hρ,hM,hA,by simp[hlt],hs,fun i k c n hi=>?_⟩
     obtain⟨e,h1,h2,h3,h4,h5⟩:=hc i k c n hi
     exact⟨e,h1,h2,h3,h4.keeps hk hsh (cU.refl _),h5⟩
   · rename_i ek
     refine(h.heap k blk Aw).keeps hk hsh (cU.refl _) (fun _ h=>h) (fun b' hb'=>N5 b' (fun e=>ek ?_))
     subst e
     exact h.inj k id blk _ b' Aw hf hb' hρ
 · intro k k' blk fk b' h1 h2 r1 r2
   have g: ∀q bl,find (jI st.heap id (.mp es' clock')) q=some bl→ ∃zB,find st.heap q=some zB:=by
    intro q bl hq
    simp only[bU]at hq
    split at hq
    · rename_i e;subst e;exact⟨_,hf⟩
    · exact⟨_,hq⟩
   obtain⟨bl1,g1⟩:=g k blk h1
   obtain⟨Qm,g2⟩:=g k' fk h2
   exact h.inj k k' bl1 Qm b' g1 g2 r1 r2
 · intro q hq;simpa using h.bound q hq
 · intro q hq;exact h.may q (by simpa using hq)
theorem Rel.FF (h:Rel M A ρ F st a w) {nid:Nat} (hn:F nid):
 Rel M (fun b=>A b∨b=w.heap.size) (de ρ nid (.fN w.heap.size)) (Sub F nid) {st with heap:=(nid, .mp [] 0)::st.heap} a (w.alloc (.map #[] 0))∧cU ρ (de ρ nid (.fN w.heap.size)):=by
 have hρ:=h.fresh nid hn
 have cG:cU ρ (de ρ nid (.fN w.heap.size)):=cU.jI hρ
 have hk:=rO (A:=A) (w:=w) (.map #[] 0)
 have hs:=mB (w:=w) (.map #[] 0)
 have hnew:(w.alloc (.map #[] 0)).heap[w.heap.size]? =some (.map #[] 0):=heap_alloc_new w _
 refine⟨⟨h.size,h.defers,fun t v hv=>(h.tmps t v hv).keeps hk hs cG,?_,?_,?_,?_,?_,h.dS.Er (dc.alloc _ _ _) (fun b hb h=>h.elim id (fun e=>by omega))⟩,cG⟩
 · intro id blk hf
   simp only[az]at hf
   split at hf
   · rename_i e'
     subst e'
     simp only[Option.some.injEq]at hf
     subst hf
     exact⟨w.heap.size, #[],by simp[de],h.may _ (Nat.le_refl _), .inr rfl,hnew,rfl,fun i k c n hi=>by simp at hi⟩
   · have hb:=h.heap id blk hf
     exact hb.keeps hk hs cG (fun b hb=> .inl hb) (fun b Bl=>RowKit.Below.heap_alloc w _ b (hb.lt Bl).1)
 · intro id id' blk fk b hf mc hr dn
   simp only[az]at hf mc
   simp only[de]at hr dn
   by_cases e1:nid=id<;>by_cases e2:nid=id'
   · omega
   · simp only[e2,if_false]at mc
     have:¬id'=nid:=fun e=>e2 e.symm
     simp only[this,if_false]at dn
     simp only[e1.symm,if_true,Option.some.injEq,Loc.fN.injEq]at hr
     have:=((h.heap id' fk mc).lt dn).1
     omega
   · simp only[e1,if_false]at hf
     have:¬id=nid:=fun e=>e1 e.symm
     simp only[this,if_false]at hr
     simp only[e2.symm,if_true,Option.some.injEq,Loc.fN.injEq]at dn
     have:=((h.heap id blk hf).lt hr).1
     omega
   · simp only[e1,e2,if_false]at hf mc
     have n1:¬id=nid:=fun e=>e1 e.symm
     have n2:¬id'=nid:=fun e=>e2 e.symm
     simp only[n1,n2,if_false]at hr dn
     exact h.inj id id' blk fk b hf mc hr dn
 · intro id hi
   have:¬id=nid:=fun e=>hi.2 ⟨by omega,by omega⟩
   simp only[de,this,if_false]
   exact h.fresh id hi.1
 · intro b hb
   simp only[World.alloc,Array.size_push]
   rcases hb with hb|hb
   · have:=h.bound b hb;omega
   · omega
 · intro b hb
   refine h.may b ?_
   simp only[World.alloc,Array.size_push]at hb
   omega
theorem Rel.It (h:Rel M A ρ F st a w) (o:Obj):Rel M A ρ F st a (w.alloc o)∧dc M w (w.alloc o):=by
 have hk:dV A A w (w.alloc o):=⟨by simp,fun b hlt hn=>⟨RowKit.Below.heap_alloc w o b hlt,hn⟩⟩
 have hs:=mB (w:=w) o
 refine⟨⟨h.size,h.defers,fun t v hv=>(h.tmps t v hv).keeps hk hs (cU.refl _),fun id blk hf=>?_,h.inj,h.fresh,fun b hb=>?_,fun b hb=>?_,h.dS.Er (dc.alloc _ _ _) (fun _ _ h=>h)⟩,dc.alloc M w o⟩
 · have hb:=h.heap id blk hf
   exact hb.keeps hk hs (cU.refl _) (fun _ h=>h) (fun b Bl=>RowKit.Below.heap_alloc w _ b (hb.lt Bl).1)
 · have:=h.bound b hb
   simp only[World.alloc,Array.size_push];omega
 · simp only[World.alloc,Array.size_push]at hb
   exact h.may b (by omega)
theorem Rel.QO (h:Rel M A ρ F st a w) {id sz:Nat} {xs:List (List C)} (hf:find st.heap id=some (.row sz xs)) (n:Nat):Rel M A ρ F {st with heap:=jI st.heap id (.row sz (xs.take n))} a w:=by
 refine⟨h.size,h.defers,h.tmps,fun k blk hk=>?_,fun k k' blk fk b h1 h2 r1 r2=>?_,h.fresh,h.bound,h.may,h.dS⟩
 · simp only[bU]at hk
   split at hk
   · rename_i ek
     subst ek
     simp only[hf,Option.map_some,Option.some.injEq]at hk
     subst hk
     obtain⟨h1,h2⟩:=h.heap k _ hf
     refine⟨fun e he=>h1 e (List.mem_of_mem_take he),?_⟩
     rcases h2 with⟨b,c,e,k1,k2,k3,k4,k5,k6⟩|⟨k1,k2⟩
     · refine .inl ⟨b,c,e,k1,k2,k3,k4,?_,fun i el j q hi hj=>?_⟩
       · have:(xs.take n).length * sz≤xs.length * sz:=Nat.mul_le_mul_right _ (by simp;omega)
         omega
       · have hi':xs[i]? =some el:=by
          rw[List.getElem?_take]at hi
          split at hi
          · exact hi
          · simp at hi
         exact k6 i el j q hi' hj
     · exact .inr ⟨k1,by simp[k2]⟩
   · exact h.heap k blk hk
 · have g: ∀q bl,find (jI st.heap id (.row sz (xs.take n))) q=some bl→ ∃zB,find st.heap q=some zB:=by
    intro q bl hq
    simp only[bU]at hq
    split at hq
    · rename_i e;subst e;exact⟨_,hf⟩
    · exact⟨_,hq⟩
   obtain⟨bl1,g1⟩:=g k blk h1
   obtain⟨Qm,g2⟩:=g k' fk h2
   exact h.inj k k' bl1 Qm b g1 g2 r1 r2
end Go.aR
end
section
namespace Go.aR
open Go
variable {P:Program} {M A:Nat→Prop} {ρ:Env} {F:Nat→Prop} {st:St} {a:Act} {w:World}
def dY:List C→Option (List T)
 | []=>some []
 | .t x::r=>(dY r).map (x:: ·)
 |_::_=>none
def recv (v:V):Option (Bool×List T):=
 match v with
 | .w (.one (.t t))=>some (false,[t])
 | .w (.agg cs)=>(dY cs).map fun ts=>(true,ts)
 |_=>none
def mvC:V→Option C
 | .w (.one c)=>some c
 | .w (.agg cs)=>(dY cs).map .pk
 |_=>none
def EX {α:Type} (P:Program) (bad:α) (op:Op) (ty:TypeId) (g:dN→V) (hp:HS) (ctr:Nat) (K:V→HS→α):α:=
 let other:=match aj P (fun x=>g (dj x)) hp ctr (bare op ty)with
  |some (v,aG)=>rV v fun v=>K v aG
  |none=>match bh P (fun x=>g (dj x)) (bare op ty)with
   |some v=>rV v fun v=>K v hp
   |none=>bad
 match op with
 | .makeMap _ none=>K (.w (.one (.map ctr))) ((ctr, .mp [] 0)::hp)
 | .mapUpdate t m k x=>match g (dj m),(g (dj k)).val?,mvC (g (dj x))with
   | .w (.one (.map id)),some kv,some c=>match P.underlying t,find hp id with
     |some (.map kt _),some (.mp es clock)=>match iD P false kt kv es with
      |some (some i)=>match nth es i with
       |some (old,_,born)=>fU (Instr.sameBits 10000 old kv) (gm (es.set i (kv,c,born)) fun es'=>gm (jI hp id (.mp es' clock)) fun h=>K .undef h) bad
       |none=>bad
      |some none=>gm (es++[(kv,c,clock)]) fun es'=>nA (clock+1) fun q=>gm (jI hp id (.mp es' q)) fun h=>K .undef h
      |none=>bad
     |_,_=>bad
   |_,_,_=>bad
 | .lookup t m k ok=>match g (dj m),(g (dj k)).val? with
   | .w (.one (.map id)),some kv=>match P.underlying t,find hp id with
     |some (.map kt et),some (.mp es _)=>match iD P es.isEmpty kt kv es with
      |some (some i)=>match nth es i with
       |some (_,c,_)=>wv c fun c=>K (match ok with|true=> .ej [cw c,bT true]|false=> .w (cw c)) hp
       |none=>bad
      |some none=>match mj P et with
       |some z=>wv (.t (.val z)) fun c=>K (match ok with|true=> .ej [.one c,bT false]|false=> .w (.one c)) hp
       |none=>bad
      |none=>bad
     |_,_=>bad
   |_,_=>bad
 | .call ⟨.builtin .len,args,gY⟩=>match args.toList,gY.toList with
   | [x],[t]=>match g (dj x)with
     | .w (.one (.map id))=>match P.underlying t,find hp id with
       |some (.map _ _),some (.mp es _)=>nA es.length fun n=>K (iV .i64 (.ofNat n)) hp
       |_,_=>bad
     |_=>other
   |_,_=>other
 | .call ⟨.builtin .delete,args,gY⟩=>match args.toList,gY.toList with
   | [m,k],[t,_]=>match g (dj m),(g (dj k)).val? with
     | .w (.one (.map id)),some kv=>match P.underlying t,find hp id with
       |some (.map kt _),some (.mp es clock)=>match iD P es.isEmpty kt kv es with
        |some (some i)=>gm (es.eraseIdx i) fun es'=>gm (jI hp id (.mp es' clock)) fun h=>K (.ej []) h
        |some none=>K (.ej []) hp
        |none=>bad
       |_,_=>bad
     |_,_=>bad
   |_,_=>bad
 | .range t x=>match g (dj x)with
   | .w (.one (.map id))=>match P.underlying t,find hp id with
     |some (.map _ _),some (.mp _ _)=>K (.w (.one (.it id))) hp
     |_,_=>bad
   |_=>bad
 | .next x false=>match g (dj x)with
   | .w (.one (.it id))=>match find hp id with
     |some (.mp [] _)=>K (.ej [bT false]) hp
     |_=>bad
   |_=>bad
 | .makeFunc (.func f) first cW=>match first.toList,cW.toList with
   | [x],[]=>match recv (g (dj x))with
     |some (b,ts)=>K (.w (.one (.kR f b ts))) hp
     |none=>bad
   |_,_=>other
 | .call ⟨.builtin .append,args,gY⟩=>match args.toList,gY.toList with
   | [s,x],[t,t']=>match P.underlying t' with
     |some (.int _)=>match g (dj s),(g (dj x)).fh,P.underlying t with
      | .w (.one (.t (.val (.slice none 0 0)))),some (.i64, .ofNat (n+1)),some (.slice e)=>match qe P e,kp P e with
        |some (size,bytes),some z=>fU (Nat.beq z.length size&&Nat.ble ((n+1) * bytes) 70368744177664&&Nat.ble (n+1) 70368744177664)
          (gm (List.replicate (n+1) z) fun zs=>K (.w (.one (.own ctr size 0 (n+1)))) ((ctr, .row size zs)::hp)) bad
        |_,_=>bad
      |_,_,_=>bad
     |_=>other
   |_,_=>other
 | .binOp bo t x y _=>match g (dj x),g (dj y),P.underlying t with
   | .w (.one (.ptr _ _ _ _)), .w (.one (.t (.val (.pointer none)))),some (.pointer _)=>match bo with
     | .eql=>K (bV false) hp
     | .neq=>K (bV true) hp
     |_=>bad
   |_,_,_=>other
 |_=>other
def Ci (P:Program) (n:Nat) (o:Oper) (tm:Tr) (hp:HS) (ctr:Nat) (v:V) (aG:HS):Prop:=
 ∀ (M A:Nat→Prop) (ρ:Env) (a:Act) (w:World) (L:TS),ey tm L→Rel M A ρ (bD ctr) ⟨n,L,hp⟩ a w→nT M A ρ (bD (ctr+4)) a w ((execOp a.eval o).run P w) ⟨n,L,aG⟩ v
theorem cP {ctr:Nat}: ∀id,bD (ctr+4) id→bD ctr id:=fun id h=>by simp only[bD]at *;omega
theorem get_eq {tm:Tr} {L:TS} (hL:ey tm L) (n:Nat) (hp:HS):(fun x=>gT tm (dj x))=St.get ⟨n,L,hp⟩:=by
 funext x
 rw[kN hL]
 exact bk ⟨n,L,hp⟩ x
theorem RV.at {tm:Tr} {L:TS} {n:Nat} {hp:HS} (hL:ey tm L) (hr:Rel M A ρ F ⟨n,L,hp⟩ a w) (x:Operand):RV w A ρ (gT tm (dj x)) (a.eval x):=by
 have:=hr.get x
 rw[←congrFun (get_eq hL n hp) x]at this
 exact this
theorem AK {n:Nat} {o:Oper} {tm:Tr} {hp aG:HS} {ctr:Nat} {v:V} (h:aj P (fun x=>gT tm (dj x)) hp ctr (bare o.op o.type)=some (v,aG)):Ci P n o tm hp ctr v aG:=by
 intro M A ρ a w L hL hr
 rw[si,get_eq hL n hp]at h
 obtain⟨x,w',A',ρ',h1,h2,h3⟩:=lG (st:=⟨n,L,hp⟩) h hr (Nat.le_refl ctr)
 exact⟨x,w',A',ρ',h1,h2.sub gy,h3⟩
theorem wz {n:Nat} {o:Oper} {tm:Tr} {hp:HS} {ctr:Nat} {v:V} (h:bh P (fun x=>gT tm (dj x)) (bare o.op o.type)=some v):Ci P n o tm hp ctr v hp:=by
 intro M A ρ a w L hL hr
 rw[wA,get_eq hL n hp]at h
 exact gK (st:=⟨n,L,hp⟩) h hr cP
theorem kZ: ∀ {cs:List C} {ts:List T},dY cs=some ts→cs=ts.map .t
 | [],ts,h=>by simp only[dY,Option.some.injEq]at h;subst h;rfl
 | .t x::r,ts,h=>by
   simp only[dY,Option.map_eq_some_iff]at h
   obtain⟨l,hl,rfl⟩:=h
   simp[kZ hl]
 | .own .. ::_,ts,h=>by simp[dY]at h
 | .ptr .. ::_,ts,h=>by simp[dY]at h
 | .rG .. ::_,ts,h=>by simp[dY]at h
 | .jy .. ::_,ts,h=>by simp[dY]at h
 | .map _::_,ts,h=>by simp[dY]at h
 | .it _::_,ts,h=>by simp[dY]at h
 | .kR .. ::_,ts,h=>by simp[dY]at h
 | .pk .. ::_,ts,h=>by simp[dY]at h
 | .any::_,ts,h=>by simp[dY]at h
theorem Aa {v:V} {c:C} {x:Value} (h:mvC v=some c) (hr:RV w A ρ v x):RC w A ρ c x∧xP c x:=by
 unfold mvC at h
 split at h
 · simp only[Option.some.injEq]at h
   subst h
   exact⟨hr.1, .inl hr.2⟩
 · simp only[Option.map_eq_some_iff]at h
   obtain⟨l,hl,rfl⟩:=h
   have:=kZ hl
   subst this
   exact xP.pk hr
 · simp at h
theorem DH {v:V} {b:Bool} {ts:List T} {x:Value} (h:recv v=some (b,ts)) (hr:RV w A ρ v x):RF w A b ts x:=by
 unfold recv at h
 split at h
 · simp only[Option.some.injEq,Prod.mk.injEq]at h
   obtain⟨rfl,rfl⟩:=h
   exact⟨_,rfl,hr.1,hr.2⟩
 · simp only[Option.map_eq_some_iff,Prod.mk.injEq]at h
   obtain⟨l,hl,rfl,rfl⟩:=h
   have:=kZ hl
   subst this
   obtain⟨vs,rfl,h1,h2⟩:=hr
   exact⟨vs,rfl,by simpa using h1,fun k t y ht hy=>h2 k (.t t) y (by simp[ht]) hy⟩
 · simp at h
theorem ku {t t' ty e:TypeId} {ik:IntKind} {i:TypeInfo} {z:Value} (ht:P.underlying t=some (.slice e)) (ht':P.underlying t'=some (.int ik)) (hi:P.info? e=some i) (hz:i.zero=some z)
 (n:Nat) (h0:0 < n) (hsz:0 < i.size) (hn:n≤70368744177664) (h48:n * i.bytes≤70368744177664) (w:World):
 (Builtin.append_ #[t,t'] ty #[.slice none 0 0, .int .i64 (n:Int)]).run P w=
   .ok (.slice (some ⟨w.heap.size,0,none⟩) n (grownCap w n 0 e)) (w.drew.alloc (.cells (Builtin.zeroCells z.cells n++Builtin.zeroCells z.cells (grownCap w n 0 e - n)) e)):=by
 have Hz:n≠0:=by omega
 have hs0:i.size≠0:=by omega
 have aoU:¬ (9223372036854775807 < (n:Int)):=by omega
 have aoV:¬ (281474976710656 < Builtin.nextslicecap n 0 * i.bytes):=by rw[nextslicecap_zero h0];omega
 have hw:IntKind.i64.wrap (n:Int)=(n:Int):=wrap_i64 (by omega) (by omega)
 have hneg:¬ ((n:Int) < 0):=by omega
 have aoI:¬ (281474976710656 < (n:Int) * (i.bytes:Int)):=by rw[←Int.natCast_mul];generalize n * i.bytes=q at h48;omega
 simp[Builtin.append_,run_underlying ht,run_underlying ht',sizeOf,typeInfo,zeroValue,hi,hz,asInt,asIntOf,hw,hneg,aoI,Hz,hs0,aoU,aoV,Question.forced,run_firstCells_none,newRow,grownCap]
 intro h
 rcases Nat.mul_eq_zero.1 h with h|h
 · exact absurd h Hz
 · exact absurd h hs0
set_option maxHeartbeats 1000000
theorem Ho {n:Nat} {o:Oper} {tm:Tr} {hp:HS} {ctr:Nat} {K:V→HS→Bool} (h:EX P false o.op o.type (gT tm) hp ctr K=true): ∃v aG,Ci P n o tm hp ctr v aG∧K v aG=true:=by
 obtain⟨op,hop⟩: ∃op,op=o.op:=⟨_,rfl⟩
 have other:(match aj P (fun x=>gT tm (dj x)) hp ctr (bare o.op o.type)with
  |some (v,aG)=>rV v fun v=>K v aG
  |none=>match bh P (fun x=>gT tm (dj x)) (bare o.op o.type)with
   |some v=>rV v fun v=>K v hp
   |none=>false)=true→ ∃v aG,Ci P n o tm hp ctr v aG∧K v aG=true:=by
  intro h
  split at h
  · rename_i v aG he
    rw[dM]at h
    exact⟨v,aG,AK he,h⟩
  · split at h
    · rename_i v he
      rw[dM]at h
      exact⟨v,hp,wz he,h⟩
    · simp at h
 have kI: ∀ (ev:Operand→Value),execOp ev o=execOp ev (bare op o.type):=fun ev=>by rw[hop,sc]
 rw[←hop]at h other
 unfold EX at h
 simp only at h
 split at h
 ·
  rename_i t
  refine⟨_,_,?_,h⟩
  intro M A ρ a w L hL hr
  obtain⟨r1,r2⟩:=Rel.FF (st:=⟨n,L,hp⟩) hr (Nat.le_refl ctr)
  refine⟨.map (some w.heap.size),w.alloc (.map #[] 0),_,_, .inl ?_,r1.sub gy,⟨⟨w.heap.size,by simp[de],rfl⟩,rfl⟩,dc.alloc M w _,r2,bJ.new A w⟩
  rw[kI]
  simp[execOp,Instr.makeMap]
 ·
  rename_i t m k x
  split at h
  · rename_i id kv c hm hk hx
    split at h
    · rename_i kt et es clock hu hf
      split at h
      · rename_i i pX
        split at h
        · rename_i old c0 born yL
          obtain⟨ko,h⟩:=bt h
          rw[cz,cz]at h
          rw[lB]at yL
          refine⟨_,_,?_,h⟩
          intro M A ρ a w L hL hr
          have vm:=RV.at hL hr m
          rw[hm]at vm
          have vk:=V.bu hk (RV.at hL hr k)
          have vx:=Aa hx (RV.at hL hr x)
          obtain⟨b,en,q1,q2,q3,q4,q5⟩:=ii hr hf vm
          obtain⟨c1,o2,c2,c3,c4⟩:=dG pX (fK (id:=id) (clock:=clock) q4 q5) w
          cases o2 with
          |none=>simp at c3
          |some p=>
           obtain⟨j,v⟩:=p
           simp only[Option.map_some,Option.some.injEq]at c3
           subst c3
           obtain⟨e0,e1,e2,e3,_⟩:=q5 j old c0 born yL
           have hi:j < en.size:=(Array.getElem?_eq_some_iff.1 e1).1
           have he0:en[j]=e0:=by simpa[hi]using e1
           obtain⟨r1,r2⟩:=Rel.tM (st:=⟨n,L,hp⟩) (clock':=clock) (es':=es.set j (kv,c,born)) (en':=en.modify j fun e=>{e with key:=kv,val:=a.eval x}) hr hf q1 q3 (by simp[q4]) (fun i k' c' n' hi'=>by
            by_cases hij:j=i
            · subst hij
              rw[List.getElem?_set_self (by rw[←q4];exact hi)]at hi'
              simp only[Option.some.injEq,Prod.mk.injEq]at hi'
              obtain⟨rfl,rfl,rfl⟩:=hi'
              refine⟨{e0 with key:=kv,val:=a.eval x},by simp[Array.getElem?_modify,e1],rfl,e3,vx.1,vx.2⟩
            · rw[List.getElem?_set_ne hij]at hi'
              obtain⟨e,g1,g2,g3,g4,g5⟩:=q5 i k' c' n' hi'
              exact⟨e,by simp[Array.getElem?_modify,hij,g1],g2,g3,g4,g5⟩)
           refine⟨undef,_,A,ρ, .inr ⟨?_,rfl⟩,r1.sub cP,trivial,r2,cU.refl _,bJ.refl _ _⟩
           have hks:(Instr.keyThatStays (((en[j]?).map (·.key)).getD kv) kv).run P w= .ok kv w:=by
            simp[Instr.keyThatStays,e1,e2,ko]
           rw[kI]
           simp only[execOp,Instr.mapUpdate,Sem.run_bind,run_underlying hu,Result.andThen_ok,q2,oO q3,vk,c1,c2,hks,DN _ q3,Sem.run_pure]
        · simp at h
      · rename_i pX
        rw[cz,dB,cz]at h
        refine⟨_,_,?_,h⟩
        intro M A ρ a w L hL hr
        have vm:=RV.at hL hr m
        rw[hm]at vm
        have vk:=V.bu hk (RV.at hL hr k)
        have vx:=Aa hx (RV.at hL hr x)
        obtain⟨b,en,q1,q2,q3,q4,q5⟩:=ii hr hf vm
        obtain⟨c1,o2,c2,c3,c4⟩:=dG pX (fK (id:=id) (clock:=clock) q4 q5) w
        cases o2 with
        |some p=>simp at c3
        |none=>
         obtain⟨r1,r2⟩:=Rel.tM (st:=⟨n,L,hp⟩) (clock':=clock+1) (es':=es++[(kv,c,clock)]) (en':=en.push {key:=kv,val:=a.eval x,born:=clock}) hr hf q1 q3 (by simp[q4]) (fun i k' c' n' hi'=>by
          by_cases hlt:i < es.length
          · rw[List.getElem?_append_left hlt]at hi'
            obtain⟨e,g1,g2,g3,g4,g5⟩:=q5 i k' c' n' hi'
            exact⟨e,by rw[Array.getElem?_push,if_neg (by omega)];exact g1,g2,g3,g4,g5⟩
          · rw[List.getElem?_append_right (by omega)]at hi'
            have hz:i - es.length=0:=by
             have:=(List.getElem?_eq_some_iff.1 hi').1
             simp at this
             omega
            rw[hz]at hi'
            simp only[List.getElem?_cons_zero,Option.some.injEq,Prod.mk.injEq]at hi'
            obtain⟨rfl,rfl,rfl⟩:=hi'
            exact⟨⟨kv,a.eval x,clock⟩,by rw[Array.getElem?_push,if_pos (by omega)],rfl,rfl,vx.1,vx.2⟩)
         refine⟨undef,_,A,ρ, .inr ⟨?_,rfl⟩,r1.sub cP,trivial,r2,cU.refl _,bJ.refl _ _⟩
         rw[kI]
         simp only[execOp,Instr.mapUpdate,Sem.run_bind,run_underlying hu,Result.andThen_ok,q2,oO q3,vk,c1,c2,DN _ q3,Sem.run_pure]
      · simp at h
    · simp at h
  · simp at h
 ·
  rename_i t m k ok
  split at h
  · rename_i id kv hm hk
    split at h
    · rename_i kt et es clock hu hf
      split at h
      · rename_i i pX
        split at h
        · rename_i k0 c born yL
          rw[jV]at h
          rw[lB]at yL
          refine⟨_,_,?_,h⟩
          intro M A ρ a w L hL hr
          have vm:=RV.at hL hr m
          rw[hm]at vm
          have vk:=V.bu hk (RV.at hL hr k)
          obtain⟨b,en,q1,q2,q3,q4,q5⟩:=ii hr hf vm
          obtain⟨c1,o2,c2,c3,c4⟩:=dG pX (fK (id:=id) (clock:=clock) q4 q5) w
          cases o2 with
          |none=>simp at c3
          |some p=>
           obtain⟨j,v⟩:=p
           simp only[Option.map_some,Option.some.injEq]at c3
           subst c3
           obtain⟨e0,e1,e2,e3,e4,e5⟩:=q5 j k0 c born yL
           obtain⟨e',g1,rfl⟩:=c4 j v rfl
           rw[e1]at g1
           simp only[Option.some.injEq]at g1
           subst g1
           have hrun:(execOp a.eval o).run P w= .ok (.value (if ok then .tuple #[e0.val, .bool true]else e0.val)) w:=by
            rw[kI]
            simp only[execOp,Instr.lookup,Sem.run_bind,run_underlying hu,Result.andThen_ok,q2,oO q3,Sem.run_pure,vk,fa q4,c1,c2]
           refine⟨_,w,A,ρ, .inl hrun,hr.sub cP,?_,dc.refl _ _,cU.refl _,bJ.refl _ _⟩
           cases ok with
           |true=>exact Dy (e5.rw e4)
           |false=>exact e5.rw e4
        · simp at h
      · rename_i pX
        split at h
        · rename_i z hz
          rw[jV]at h
          refine⟨_,_,?_,h⟩
          intro M A ρ a w L hL hr
          have vm:=RV.at hL hr m
          rw[hm]at vm
          have vk:=V.bu hk (RV.at hL hr k)
          obtain⟨b,en,q1,q2,q3,q4,q5⟩:=ii hr hf vm
          obtain⟨c1,o2,c2,c3,c4⟩:=dG pX (fK (id:=id) (clock:=clock) q4 q5) w
          cases o2 with
          |some p=>simp at c3
          |none=>
           obtain⟨RJ,uD⟩:=qv hz w
           have hrun:(execOp a.eval o).run P w= .ok (.value (if ok then .tuple #[z, .bool false]else z)) w:=by
            rw[kI]
            simp only[execOp,Instr.lookup,Sem.run_bind,run_underlying hu,Result.andThen_ok,q2,oO q3,Sem.run_pure,vk,fa q4,c1,c2,RJ]
           refine⟨_,w,A,ρ, .inl hrun,hr.sub cP,?_,dc.refl _ _,cU.refl _,bJ.refl _ _⟩
           cases ok with
           |true=>exact Dy (u0:= .one (.t (.val z))) ⟨RT.val uD,uD⟩
           |false=>exact⟨RT.val uD,uD⟩
        · simp at h
      · simp at h
    · simp at h
  · simp at h
 ·
  rename_i args gY
  split at h
  · rename_i x t hargs iF
    split at h
    · rename_i id hx
      split at h
      · rename_i kt et es clock hu hf
        rw[dB]at h
        refine⟨_,_,?_,h⟩
        intro M A ρ a w L hL hr
        have vm:=RV.at hL hr x
        rw[hx]at vm
        obtain⟨b,en,q1,q2,q3,q4,q5⟩:=ii hr hf vm
        have ea:args= #[x]:=by rw[←Array.toArray_toList (xs:=args),hargs]
        have et:gY= #[t]:=by rw[←Array.toArray_toList (xs:=gY),iF]
        subst ea
        subst et
        have hrun:(execOp a.eval o).run P w= .ok (.value (goInt en.size)) w:=by
         rw[kI]
         simp[execOp,resolve,invoke,builtin,Builtin.len_,run_underlying hu,q2,oO q3]
        refine⟨_,w,A,ρ, .inl hrun,hr.sub cP,?_,dc.refl _ _,cU.refl _,bJ.refl _ _⟩
        rw[q4]
        exact RV.ofValue w A ρ (goInt es.length)
      · simp at h
    · exact other h
  · exact other h
 ·
  rename_i args gY
  split at h
  · rename_i m k t t' hargs iF
    split at h
    · rename_i id kv hm hk
      split at h
      · rename_i kt et es clock hu hf
        have ea:args= #[m,k]:=by rw[←Array.toArray_toList (xs:=args),hargs]
        have et:gY= #[t,t']:=by rw[←Array.toArray_toList (xs:=gY),iF]
        subst ea
        subst et
        split at h
        · rename_i i pX
          rw[cz,cz]at h
          refine⟨_,_,?_,h⟩
          intro M A ρ a w L hL hr
          have vm:=RV.at hL hr m
          rw[hm]at vm
          have vk:=V.bu hk (RV.at hL hr k)
          obtain⟨b,en,q1,q2,q3,q4,q5⟩:=ii hr hf vm
          obtain⟨c1,o2,c2,c3,c4⟩:=dG pX (fK (id:=id) (clock:=clock) q4 q5) w
          cases o2 with
          |none=>simp at c3
          |some p=>
           obtain⟨j,v⟩:=p
           simp only[Option.map_some,Option.some.injEq]at c3
           subst c3
           obtain⟨e',g1,_⟩:=c4 j v rfl
           have hj:j < en.size:=(Array.getElem?_eq_some_iff.1 g1).1
           obtain⟨r1,r2⟩:=Rel.tM (st:=⟨n,L,hp⟩) (clock':=clock) (es':=es.eraseIdx j) (en':=en.eraseIdxIfInBounds j) hr hf q1 q3
            (by rw[Array.eraseIdxIfInBounds,dif_pos hj,Array.size_eraseIdx,List.length_eraseIdx,if_pos (by omega),q4]) (fun i k' c' n' hi'=>by
            rw[List.getElem?_eraseIdx]at hi'
            have he:(en.eraseIdxIfInBounds j)[i]? =if i < j then en[i]? else en[i+1]? :=by
             rw[Array.eraseIdxIfInBounds,dif_pos hj,Array.getElem?_eraseIdx]
            rw[he]
            split at hi'
            · rename_i hlt;rw[if_pos hlt];exact q5 i k' c' n' hi'
            · rename_i hlt;rw[if_neg hlt];exact q5 (i+1) k' c' n' hi')
           have hrun:(execOp a.eval o).run P w= .ok (.value (.tuple #[])) {w with heap:=w.heap.setIfInBounds b (.map (en.eraseIdxIfInBounds j) clock)}:=by
            rw[kI]
            simp only[execOp,resolve,invoke,builtin,Builtin.delete_]
            simp[run_underlying hu,q2,oO q3,vk,fa q4,c1,c2,DN _ q3]
           exact⟨_,_,A,ρ, .inl hrun,r1.sub cP,⟨#[],rfl,rfl,by simp⟩,r2,cU.refl _,bJ.refl _ _⟩
        · rename_i pX
          refine⟨_,_,?_,h⟩
          intro M A ρ a w L hL hr
          have vm:=RV.at hL hr m
          rw[hm]at vm
          have vk:=V.bu hk (RV.at hL hr k)
          obtain⟨b,en,q1,q2,q3,q4,q5⟩:=ii hr hf vm
          obtain⟨c1,o2,c2,c3,c4⟩:=dG pX (fK (id:=id) (clock:=clock) q4 q5) w
          cases o2 with
          |some p=>simp at c3
          |none=>
           have SF:b < w.heap.size:=by
            rcases Nat.lt_or_ge b w.heap.size with hl|hg
            · exact hl
            · simp[Array.getElem?_eq_none hg]at q3
           have R6:({w with heap:=w.heap.setIfInBounds b (.map en clock)}:World)=w:=by
            have:w.heap.setIfInBounds b (.map en clock)=w.heap:=by
             apply Array.ext_getElem?
             intro i
             by_cases hi:b=i
             · subst hi;simp[SF,q3];simpa[SF]using q3.symm
             · rw[Array.getElem?_setIfInBounds_ne hi]
            rw[this]
           have hrun:(execOp a.eval o).run P w= .ok (.value (.tuple #[])) w:=by
            rw[kI]
            simp only[execOp,resolve,invoke,builtin,Builtin.delete_]
            simp[run_underlying hu,q2,oO q3,vk,fa q4,c1,c2,DN _ q3,R6]
           exact⟨_,_,A,ρ, .inl hrun,hr.sub cP,⟨#[],rfl,rfl,by simp⟩,dc.refl _ _,cU.refl _,bJ.refl _ _⟩
        · simp at h
      · simp at h
    · simp at h
  · simp at h
 ·
  rename_i t x
  split at h
  · rename_i id hx
    split at h
    · rename_i kt et es clock hu hf
      refine⟨_,_,?_,h⟩
      intro M A ρ a w L hL hr
      have vm:=RV.at hL hr x
      rw[hx]at vm
      obtain⟨b,en,q1,q2,q3,q4,q5⟩:=ii hr hf vm
      obtain⟨r1,r2⟩:=Rel.It hr (.mapIter (some b) clock #[] clock)
      have hrun:(execOp a.eval o).run P w= .ok (.value (.pointer (some ⟨w.heap.size,0,none⟩))) (w.alloc (.mapIter (some b) clock #[] clock)):=by
       rw[kI]
       simp[execOp,Instr.range,run_underlying hu,q2,oO q3]
      refine⟨_,_,A,ρ, .inl hrun,r1.sub cP,⟨⟨b,w.heap.size,clock,clock,q1,rfl,by simp,fun hA=>?_,heap_alloc_new w _⟩,rfl⟩,r2,cU.refl _,bJ.refl _ _⟩
      have:=hr.bound _ hA
      omega
    · simp at h
  · simp at h
 ·
  rename_i x
  split at h
  · rename_i id hx
    split at h
    · rename_i clock hf
      refine⟨_,_,?_,h⟩
      intro M A ρ a w L hL hr
      have vi:=RV.at hL hr x
      rw[hx]at vi
      obtain⟨b,r,since,last,k1,k2,k3,k4,k5⟩:=vi.1
      obtain⟨b',en,g1,g2,g3,g4,g5,g6⟩:=hr.heap id _ hf
      rw[k1]at g1
      simp only[Option.some.injEq,Loc.fN.injEq]at g1
      subst g1
      have mO:en= #[]:=by
       apply Array.eq_empty_of_size_eq_zero
       simpa using g5
      subst mO
      have BT:(getObj r).run P w= .ok (.mapIter (some b) since #[] last) w:=by simp[getObj,Sem.run,k5]
      have hrun:(execOp a.eval o).run P w= .ok (.value (.tuple #[.bool false])) w:=by
       rw[kI]
       simp only[execOp,Instr.next,k2]
       simp[BT,oO g4,Question.forced]
      exact⟨_,_,A,ρ, .inl hrun,hr.sub cP,⟨_,rfl,rfl,fun k u y hu hy=>by
       match k with
       |0=>simp at hu hy;subst hu;subst hy;exact RW.bT false
       |k+1=>simp at hu⟩,dc.refl _ _,cU.refl _,bJ.refl _ _⟩
    · simp at h
  · simp at h
 ·
  rename_i f first cW
  split at h
  · rename_i x uL SD
    split at h
    · rename_i b ts Hy
      refine⟨_,_,?_,h⟩
      intro M A ρ a w L hL hr
      have vx:=RV.at hL hr x
      have ea:first= #[x]:=by rw[←Array.toArray_toList (xs:=first),uL]
      have et:cW= #[]:=by rw[←Array.toArray_toList (xs:=cW),SD]
      subst ea
      subst et
      have hrun:(execOp a.eval o).run P w= .ok (.value (.func (.func f) #[a.eval x] #[])) w:=by
       rw[kI]
       simp[execOp,Instr.makeFunc]
      exact⟨_,_,A,ρ, .inl hrun,hr.sub cP,⟨⟨_,rfl,DH Hy vx⟩,rfl⟩,dc.refl _ _,cU.refl _,bJ.refl _ _⟩
    · simp at h
  · exact other h
 ·
  rename_i args gY
  split at h
  · rename_i s x t t' hargs iF
    split at h
    · rename_i ik yI
      split at h
      · rename_i m e hs hx hu
        split at h
        · rename_i size bytes z hT hz
          obtain⟨hc,h⟩:=bt h
          rw[cz]at h
          refine⟨_,_,?_,h⟩
          intro M A ρ a w L hL hr
          have vs:=RV.at hL hr s
          rw[hs]at vs
          have vx:=V.iq hx (RV.at hL hr x)
          have RY:a.eval s= .slice none 0 0:=V.bu (v:= .slice none 0 0) rfl vs
          have ea:args= #[s,x]:=by rw[←Array.toArray_toList (xs:=args),hargs]
          have et:gY= #[t,t']:=by rw[←Array.toArray_toList (xs:=gY),iF]
          subst ea
          subst et
          obtain⟨inf,zv,z1,z2,z3,z4,z5,z6⟩:=lI hT
          obtain⟨alH,zv',y1,y2,y3,y4,y5⟩:=eN hz w A ρ
          rw[z1]at y1
          simp only[Option.some.injEq]at y1
          subst y1
          rw[z2]at y2
          simp only[Option.some.injEq]at y2
          subst y2
          obtain⟨aoH,hc3⟩:=Bool.and_eq_true _ _▸hc
          obtain⟨nO,yQ⟩:=Bool.and_eq_true _ _▸aoH
          have g2:=Nat.le_of_ble_eq_true yQ
          have g3:=Nat.le_of_ble_eq_true hc3
          have hsize:z.length=size:=by rw[←y4];exact z3
          have hrun:=ku (P:=P) (ty:=o.type) hu yI z1 z2 (m+1) (by omega) (by omega) g3 (by rw[z4];exact g2) w
          have hge:=grownCap_ge w (m+1) 0 e
          obtain⟨e1,e2,e3⟩:=mh y5 (m+1)
          have hlen:(List.replicate (m+1) z).length=m+1:=by simp
          obtain⟨A',ρ',r1,r2,r3,r4,r5⟩:=jr (st:=⟨n,L,hp⟩) (e:=e) (z:=zv.cells) (cap:=grownCap w (m+1) 0 e) (zs:=List.replicate (m+1) z) (vs:=(Builtin.zeroCells zv.cells (m+1)).toList) (size:=size) hr (Nat.le_refl ctr) z5
           (fun el hel=>by rw[List.eq_of_mem_replicate hel];exact hsize)
           (by rw[Array.length_toList,size_zeroCells,z5,hlen]) (by rw[hlen];exact hge)
           (fun i el j k hi hj=>by
             obtain⟨y,hy,rR,uE⟩:=e3 i el j k hi hj
             refine⟨y,?_,rR,uE⟩
             rw[Array.getElem?_toList, ←hsize]
             have ez:Builtin.zeroCells zv.cells (m+1)=(Array.range ((m+1) * z.length)).map fun k=>zv.cells[k % zv.cells.size]! :=by
              unfold Builtin.zeroCells
              have:zv.cells.size=z.length:=by rw[y3,y4]
              rw[this]
             rw[ez]
             exact hy)
          rw[hlen]at r1 r2 r3
          simp only[Array.toArray_toList]at r1 r2 r3
          refine⟨_,_,A',ρ', .inl ?_,r1.sub gy,r2,r3,r4,r5⟩
          rw[kI]
          have RM:a.eval x= .int .i64 ((m+1:Nat):Int):=vx
          have Og:(execOp a.eval (bare (Op.call ⟨.builtin .append, #[s,x], #[t,t']⟩) o.type)).run P w=((Builtin.append_ #[t,t'] o.type #[a.eval s,a.eval x]).run P w).andThen fun v w'=> .ok (.value v) w':=by
           simp[execOp,resolve,invoke,builtin]
          rw[Og,RY,RM,hrun]
          rfl
        · simp at h
      · simp at h
    · exact other h
  · exact other h
 ·
  rename_i bo t x y t'
  split at h
  · rename_i id sz i j e hx hy hu
    have Q1: ∀ (b:Addr) (w:World),(Op.equal t (.pointer (some b)) (.pointer none)).run P w= .ok false w:=by
     intro b w
     show(Op.equalIn 10000 t (.pointer (some b)) (.pointer none)).run P w=_
     unfold Op.equalIn
     simp[run_underlying hu]
    have fin: ∀ (c:Bool),(∀ (b:Addr) (w:World),(binOp bo t (.pointer (some b)) (.pointer none)).run P w= .ok (.bool c) w)→Ci P n o tm hp ctr (bV c) hp:=by
     intro c hc M A ρ a w L hL hr
     have vx:=RV.at hL hr x
     rw[hx]at vx
     have vy:=RV.at hL hr y
     rw[hy]at vy
     obtain⟨b,_,hb⟩:=vx.1
     have hyv:a.eval y= .pointer none:=V.bu (v:= .pointer none) rfl vy
     have hg:(eqGuard bo t x y (.pointer (some ⟨b,i * sz+j,none⟩)) (.pointer none)).run P w= .ok () w:=by
      unfold eqGuard
      cases bo<;>simp
     have hrun:(execOp a.eval o).run P w= .ok (.value (.bool c)) w:=by
      rw[kI]
      simp only[execOp,hb,hyv,Sem.run_bind,hg,Result.andThen_ok,hc,Sem.run_pure]
     exact⟨_,w,A,ρ, .inl hrun,hr.sub cP,RV.ofValue w A ρ (.bool c),dc.refl _ _,cU.refl _,bJ.refl _ _⟩
    split at h
    · exact⟨_,_,fin false (fun b w=>by simp[binOp,Q1]),h⟩
    · exact⟨_,_,fin true (fun b w=>by simp[binOp,Q1]),h⟩
    · simp at h
  · exact other h
 · exact other h
end Go.aR
end
section
namespace Go.aR
open Go
variable {P:Program} {M A:Nat→Prop} {ρ:Env} {F:Nat→Prop} {st:St} {a:Act} {w:World}
def CI (bits:List Nat) (lo:Nat) (fs:List gP):Bool:=
 (List.range fs.length).all fun j=>match fs[j]? with
   |some g=>(List.range j).all fun i=>match fs[i]? with
    |some f=>(bits.getD (lo+j) 0).testBit (lo+i)||f.apart g
    |none=>true
   |none=>true
theorem tP {bits:List Nat} {lo:Nat} {fs:List gP} (h:CI bits lo fs=true) {i j:Nat} {f g:gP} (hij:i < j) (hf:fs[i]? =some f) (hg:fs[j]? =some g):
 (bits.getD (lo+j) 0).testBit (lo+i)=true∨f.apart g=true:=by
 unfold CI at h
 have hj:j < fs.length:=(List.getElem?_eq_some_iff.1 hg).1
 have:=List.all_eq_true.1 h j (List.mem_range.2 hj)
 simp only[hg]at this
 have:=List.all_eq_true.1 this i (List.mem_range.2 hij)
 simp only[hf,Bool.or_eq_true]at this
 exact this
theorem DC {ops:Array Oper} {n base lo m:Nat} {tmT:Nat→TS} {hpT:Nat→HS} {v:Nat→V} {fs:List gP} {Q:Exit→Act→World→Prop}
 (hlm:lo+m≤ops.size)
 (hstep: ∀i o,i < m→ops[lo+i]? =some o→fe P ops o n (tmT i) (hpT i) (base+4 * i) (v i) (hpT (i+1))∧(∀t,find (tmT (i+1)) t=find (eE (tmT i) o.dst (v i)) t)∧
   ∃f,fs[i]? =some f∧f.dst=o.dst∧(∀t,t∈names ops o→t∈f.nm)∧(∀k,k∈iQ (St.get ⟨n,tmT i,hpT i⟩) o→k∈f.rd)∧(∀k,k∈s8 (St.get ⟨n,tmT i,hpT i⟩) (base+4 * i) o→k∈f.wr))
 (hE: ∀i o,ops[i]? =some o→ ∀e,e∈bf o→e < i)
 (hok:CI (kg (ops.toList.map bf) []) lo fs=true)
 (BR: ∀k,lo+m≤k→k < ops.size→ ∀i,i < m→((kg (ops.toList.map bf) []).getD k 0).testBit (lo+i)=true)
 (cF:Rel M A ρ (bD base) ⟨n,tmT 0,hpT 0⟩ a w)
 (F5: ∀ (fuel:Nat) (listed:Array Bool) (a':Act) (w':World),listed.size=ops.size→(∀i,i < ops.size→listed.getD i false=decide (i < lo+m))→ops.size - (lo+m)≤fuel→
   Dn M A ρ w (fun st c=>st=⟨n,tmT m,hpT m⟩∧c=base+4 * m) a' w'→wpAny P .any ops Q fuel listed a' w'):
 ∀ (fuel:Nat) (listed:Array Bool),listed.size=ops.size→(∀i,i < ops.size→listed.getD i false=decide (i < lo))→ops.size - lo≤fuel→wpAny P .any ops Q fuel listed a w:=by
 let N:=m
 let dst:Nat→Option Nat:=fun i=>(ops[lo+i]?).bind (·.dst)
 let wr:Nat→List Nat:=fun i=>((ops[lo+i]?).map fun o=>s8 (St.get ⟨n,tmT i,hpT i⟩) (base+4 * i) o).getD []
 have hop: ∀i,i < N→ ∃o,ops[lo+i]? =some o:=fun i hi=>by
  have:lo+i < ops.size:=by simp only[N]at hi;omega
  exact⟨ops[lo+i],by simp[this]⟩
 have uN: ∀i o,ops[lo+i]? =some o→dst i=o.dst:=fun i o h=>by simp only[dst,h,Option.bind_some]
 have hwr: ∀i o,ops[lo+i]? =some o→wr i=s8 (St.get ⟨n,tmT i,hpT i⟩) (base+4 * i) o:=by
  intro i o h
  simp only[wr,h,Option.map_some,Option.getD_some]
 have uJ: ∀i,i < N→ ∀k,¬k∈wr i→find (hpT (i+1)) k=find (hpT i) k:=by
  intro i hi k hk
  obtain⟨o,ho⟩:=hop i hi
  obtain⟨h1,_⟩:=hstep i o hi ho
  obtain⟨_,_,h3⟩:=h1.loc (tm2:=tmT i) (hp2:=hpT i) (fun _ _=>rfl) (fun _ _=>rfl) (fun _ _=>rfl)
  rw[hwr i o ho]at hk
  exact(h3.2 k hk).1
 have FW: ∀i,i < N→ ∀t,find (tmT (i+1)) t=find (eE (tmT i) (dst i) (v i)) t:=by
  intro i hi t
  obtain⟨o,ho⟩:=hop i hi
  rw[(hstep i o hi ho).2.1 t,uN i o ho]
 have SN: ∀ (i:Nat) (es:List Nat),(ops.toList.map bf)[i]? =some es→ ∀e,e∈es→e < i:=by
  intro i es h e he
  simp only[List.getElem?_map,Array.getElem?_toList,Option.map_eq_some_iff]at h
  obtain⟨o,ho,rfl⟩:=h
  exact hE i o ho e he
 let Lg:Array Bool→Nat→Bool:=fun listed i=>listed.getD i false
 let cZ:Array Bool→Nat→Bool:=fun listed i=>listed.getD (lo+i) false
 let Fr:(Nat→Bool)→Nat→Prop:=fun L k=>base+4 * N≤k∨ ∃j,j < N∧L j=false∧base+4 * j≤k∧k < base+4 * j+4
 have iv: ∀ {L:Nat→Bool} {i:Nat},i < ops.size→(∀k o,ops[k]? =some o→L k=true→ ∀e,e∈bf o→L e=true)→(∀o,ops[i]? =some o→ ∀e,e∈bf o→L e=true)→
  ∀j,((kg (ops.toList.map bf) []).getD i 0).testBit j=true→L j=true:=by
  intro L i hi dW HD j hb
  refine(o7 SN i (by simpa using hi) (fun k es _ Eg jB e he=>?_) (fun es jB e he=>?_) j hb).1
  · simp only[List.getElem?_map,Array.getElem?_toList,Option.map_eq_some_iff]at jB
    obtain⟨o,ho,rfl⟩:=jB
    exact dW k o ho Eg e he
  · simp only[List.getElem?_map,Array.getElem?_toList,Option.map_eq_some_iff]at jB
    obtain⟨o,ho,rfl⟩:=jB
    exact HD o ho e he
 have finish: ∀ (fuel:Nat) (listed:Array Bool) (a':Act) (w':World) (A':Nat→Prop) (ρ':Env),listed.size=ops.size→(∀i,i < lo→Lg listed i=true)→(∀i,lo+m≤i→i < ops.size→Lg listed i=false)→ops.size - (lo+m)≤fuel→(∀i,i < N→cZ listed i=true)→
  Rel M A' ρ' (Fr (cZ listed)) ⟨n,nG dst v (tmT 0) (cZ listed) N,nN wr hpT (hpT 0) (cZ listed) N⟩ a' w'→dc M w w'→cU ρ ρ'→bJ A A' w→wpAny P .any ops Q fuel listed a' w':=by
  intro fuel listed a' w' A' ρ' hsz BW Gf ES hall hr dI cG hg
  refine F5 fuel listed a' w' hsz (fun i hi=>?_) ES ⟨⟨n,tmT m,hpT m⟩,base+4 * m,A',ρ',⟨rfl,rfl⟩,?_,dI,cG,hg⟩
  · by_cases h1:i < lo
    · rw[show listed.getD i false=true from BW i h1];simp;omega
    · by_cases h2:i < lo+m
      · have:=hall (i - lo) (by simp only[N];omega)
        simp only[cZ]at this
        rw[show lo+(i - lo)=i by omega]at this
        rw[this];simp[h2]
      · rw[show listed.getD i false=false from Gf i (by omega) hi];simp;omega
  have h1:Rel M A' ρ' (Fr (cZ listed)) ⟨n,tmT m,hpT m⟩ a' w':=hr.forget rfl (fun t u hu=>by
   rw[show find (⟨n,nG dst v (tmT 0) (cZ listed) N,nN wr hpT (hpT 0) (cZ listed) N⟩:St).tmps t=find (tmT N) t from pq dst v (tmT 0) tmT N rfl FW (cZ listed) t N (Nat.le_refl _) hall];exact hu) (fun k b hb=>by
   rw[show find (⟨n,nG dst v (tmT 0) (cZ listed) N,nN wr hpT (hpT 0) (cZ listed) N⟩:St).heap k=find (hpT N) k from pW wr hpT (hpT 0) N rfl uJ (cZ listed) k N (Nat.le_refl _) hall];exact hb)
  exact h1.sub (fun k hk=> .inl hk)
 have main: ∀ (c fuel:Nat) (listed:Array Bool) (a':Act) (w':World) (A':Nat→Prop) (ρ':Env),listed.size=ops.size→(∀i,i < lo→Lg listed i=true)→(∀i,lo+m≤i→i < ops.size→Lg listed i=false)→ng (cZ listed) N=c→c+(ops.size - (lo+m))≤fuel→
  (∀k o,ops[k]? =some o→Lg listed k=true→ ∀e,e∈bf o→Lg listed e=true)→
  Rel M A' ρ' (Fr (cZ listed)) ⟨n,nG dst v (tmT 0) (cZ listed) N,nN wr hpT (hpT 0) (cZ listed) N⟩ a' w'→dc M w w'→cU ρ ρ'→bJ A A' w→
  wpAny P .any ops Q fuel listed a' w':=by
  intro c
  induction c with
  |zero=>
   intro fuel listed a' w' A' ρ' hsz BW Gf Ee ES dW hr dI cG hg
   exact finish fuel listed a' w' A' ρ' hsz BW Gf (by omega) (rf Ee) hr dI cG hg
  |succ c ih=>
   intro fuel listed a' w' A' ρ' hsz BW Gf Ee ES dW hr dI cG hg
   obtain⟨fuel,rfl⟩: ∃f,fuel=f+1:=⟨fuel - 1,by omega⟩
   have hex: ∃i,i < N∧cZ listed i=false:=by
    by_cases h: ∃i,i < N∧cZ listed i=false
    · exact h
    · exfalso
      have: ∀i,i < N→cZ listed i=true:=fun i hi=>by cases h':cZ listed i with|true=>rfl|false=>exact absurd ⟨i,hi,h'⟩ h
      have h0: ∀k,k≤N→ng (cZ listed) k=0:=by
       intro k
       induction k with
       |zero=>intro _;rfl
       |succ k ihk=>intro hk;simp only[ng,ihk (by omega),this k (by omega)];rfl
      rw[h0 N (Nat.le_refl _)]at Ee
      omega
   refine⟨fun As=>?_,fun ig hi=>?_⟩
   · exfalso
     obtain⟨i,hi,hL,BQ⟩:=exists_least hex
     obtain⟨o,ho⟩:=hop i hi
     have:lo+i∈Region.ready .any ops listed:=by
      rw[mem_ready]
      refine⟨?_,o,ho,fun e he hb=>?_⟩
      · simp only[cZ,Array.getD_eq_getD_getElem?]at hL⊢
        have jD:lo+i < listed.size:=by have:=(Array.getElem?_eq_some_iff.1 ho).1;omega
        simpa[jD]using hL
      · have hm:e.on∈bf o:=by simp only[bf,List.mem_map,List.mem_filter];exact⟨e,⟨by simpa using he,hb⟩,rfl⟩
        have hlt:=hE (lo+i) o ho _ hm
        by_cases h1:e.on < lo
        · exact BW _ h1
        · have:=BQ (e.on - lo) (by omega)
          simp only[cZ]at this
          rw[show lo+(e.on - lo)=e.on by omega]at this
          exact this
     rw[As]at this
     simp at this
   · rw[mem_ready]at hi
     obtain⟨h0,o,P0,uM⟩:=hi
     have Ob:ig < ops.size:=(Array.getElem?_eq_some_iff.1 P0).1
     have IZ:Lg listed ig=false:=by
      simp only[Lg,Array.getD_eq_getD_getElem?]at h0⊢
      have jD:ig < listed.size:=by omega
      simpa[jD]using h0
     have HD: ∀e,e∈bf o→Lg listed e=true:=by
      intro e he
      simp only[bf,List.mem_map,List.mem_filter]at he
      obtain⟨ed,⟨h1,h2⟩,rfl⟩:=he
      exact uM ed (by simpa using h1) h2
     have hge:lo≤ig:=by
      rcases Nat.lt_or_ge ig lo with h|h
      · rw[BW ig h]at IZ;simp at IZ
      · exact h
     have hlt:ig < lo+m:=by
      rcases Nat.lt_or_ge ig (lo+m)with h|h
      · exact h
      · exfalso
        obtain⟨i,hi,hL⟩:=hex
        have hb:=BR ig h Ob i hi
        have:=iv Ob dW (fun o' vP=>by rw[P0]at vP;simp only[Option.some.injEq]at vP;subst vP;exact HD) _ hb
        simp only[cZ]at hL
        rw[show Lg listed (lo+i)=false from hL]at this
        simp at this
     obtain⟨i,rfl⟩: ∃i,ig=lo+i:=⟨ig - lo,by omega⟩
     have yM:i < N:=by simp only[N];omega
     have ho:ops[lo+i]? =some o:=P0
     have Eh:cZ listed i=false:=IZ
     obtain⟨hst,amA,f,hf,fd,fn,fr,fw⟩:=hstep i o yM ho
     have order: ∀j oj g,j≠i→j < N→ops[lo+j]? =some oj→fs[j]? =some g→(f.apart g=true∨g.apart f=true)∨(j < i∧cZ listed j=true)∨(i < j∧cZ listed j=false):=by
      intro j oj g ff hjN oZ jb
      have hjS:lo+j < ops.size:=(Array.getElem?_eq_some_iff.1 oZ).1
      rcases Nat.lt_or_gt_of_ne ff with hlt|hgt
      · rcases tP hok hlt jb hf with hb|hb
        · exact .inr (.inl ⟨hlt,iv Ob dW (fun o' vP=>by rw[ho]at vP;simp only[Option.some.injEq]at vP;subst vP;exact HD) (lo+j) hb⟩)
        · exact .inl (.inr hb)
      · rcases tP hok hgt hf jb with hb|hb
        · refine .inr (.inr ⟨hgt,?_⟩)
          cases hLj:cZ listed j with
          |false=>rfl
          |true=>
           have:=iv hjS dW (fun o' vP=>dW (lo+j) o' vP hLj) (lo+i) hb
           rw[IZ]at this
           simp at this
        · exact .inl (.inl hb)
     have uW: ∀j,j < N→ ∃oj g,ops[lo+j]? =some oj∧fs[j]? =some g∧g.dst=dst j∧ ∀k,k∈wr j→k∈g.wr:=by
      intro j hj
      obtain⟨oj,oZ⟩:=hop j hj
      obtain⟨_,_,g,g1,g2,_,_,g5⟩:=hstep j oj hj oZ
      exact⟨oj,g,oZ,g1,by rw[g2,uN j oj oZ],fun k hk=>g5 k (by rw[hwr j oj oZ]at hk;exact hk)⟩
     have apart_spec: ∀ {f g:gP},(f.apart g=true∨g.apart f=true)→(∀t,f.dst=some t→g.dst=some t→False)∧(∀t,g.dst=some t→t∈f.nm→False)∧(∀k,k∈g.wr→k∈f.rd→False)∧(∀k,k∈g.wr→k∈f.wr→False):=by
      intro f g h
      rcases h with h|h<;>simp only[gP.apart,Bool.and_eq_true]at h<;>obtain⟨⟨⟨⟨⟨h1,h2⟩,h3⟩,h4⟩,h5⟩,h6⟩:=h
      · exact⟨fun t a b=>cL (x:=t) h3 (by simp[a]) (by simp[b]),fun t a b=>cL (x:=t) h2 (by simp[a]) b,fun k a b=>cL h5 a b,fun k a b=>cL h6 b a⟩
      · exact⟨fun t a b=>cL (x:=t) h3 (by simp[b]) (by simp[a]),fun t a b=>cL (x:=t) h1 (by simp[a]) b,fun k a b=>cL h4 a b,fun k a b=>cL h6 a b⟩
     have Ch: ∀t,t∈names ops o→find (nG dst v (tmT 0) (cZ listed) N) t=find (tmT i) t:=by
      intro t ht
      rw[mq dst v (tmT 0) (cZ listed) (fun j=>decide (j < i)) t N ?_,tF dst v (tmT 0) i t N (Nat.le_of_lt yM),pq dst v (tmT 0) tmT N rfl FW _ t i (Nat.le_of_lt yM) (fun j hj=>by simpa using hj)]
      intro j hj yO
      by_cases ff:j=i
      · subst ff;rw[Eh];simp
      · obtain⟨oj,g,oZ,jb,gd,gw⟩:=uW j hj
        rcases order j oj g ff hj oZ jb with hap|⟨h1,h2⟩|⟨h1,h2⟩
        · exact((apart_spec hap).2.1 t (by rw[gd,yO]) (fn t ht)).elim
        · rw[h2];simp[h1]
        · rw[h2];simp;omega
     have vG: ∀k,(k∈f.rd∨k∈f.wr)→find (nN wr hpT (hpT 0) (cZ listed) N) k=find (hpT i) k:=by
      intro k hk
      rw[mM wr hpT (hpT 0) (cZ listed) (fun j=>decide (j < i)) k N ?_,uH wr hpT (hpT 0) i k N (Nat.le_of_lt yM),pW wr hpT (hpT 0) N rfl uJ _ k i (Nat.le_of_lt yM) (fun j hj=>by simpa using hj)]
      intro j hj yO
      by_cases ff:j=i
      · subst ff;rw[Eh];simp
      · obtain⟨oj,g,oZ,jb,gd,gw⟩:=uW j hj
        rcases order j oj g ff hj oZ jb with hap|⟨h1,h2⟩|⟨h1,h2⟩
        · rcases hk with hk|hk
          · exact((apart_spec hap).2.2.1 k (gw k yO) hk).elim
          · exact((apart_spec hap).2.2.2 k (gw k yO) hk).elim
        · rw[h2];simp[h1]
        · rw[h2];simp;omega
     have F7: ∀k,k∈four (base+4 * i)→k∈f.wr:=fun k hk=>fw k (by simp only[s8,List.mem_append];exact .inl hk)
     obtain⟨mN,N0,IW⟩:=hst.loc (tm2:=nG dst v (tmT 0) (cZ listed) N) (hp2:=nN wr hpT (hpT 0) (cZ listed) N) Ch (fun k hk=>vG k (.inl (fr k hk))) (fun k hk=>vG k (.inr (F7 k hk)))
     rw[←hwr i o ho]at IW
     refine fe.sound ho N0 hr (fun k h1 h2=> .inr ⟨i,yM,Eh,h1,h2⟩) ?_
     intro a2 w2 A2 ρ2 r1 r2 r3 r4
     have F2: ∀j,cZ (listed.setIfInBounds (lo+i) true) j=if j=i then true else cZ listed j:=by
      intro j
      by_cases ff:j=i
      · subst ff
        have:lo+j < listed.size:=by omega
        simp[cZ,Array.getD_eq_getD_getElem?,this]
      · simp only[cZ,ff,if_false]
        exact getD_set_ne false (fun e=>ff (by omega))
     have F0: ∀k,k≠lo+i→Lg (listed.setIfInBounds (lo+i) true) k=Lg listed k:=fun k hk=>getD_set_ne false (fun e=>hk e.symm)
     have uQ:cZ (listed.setIfInBounds (lo+i) true) i=true:=by rw[F2];simp
     have lV: ∀j,j≠i→cZ (listed.setIfInBounds (lo+i) true) j=cZ listed j:=fun j hj=>by rw[F2,if_neg hj]
     have later: ∀j,i < j→j < N→(∀oj g,ops[lo+j]? =some oj→fs[j]? =some g→(f.apart g=true∨g.apart f=true)→False)→cZ (listed.setIfInBounds (lo+i) true) j=false:=by
      intro j h1 h2 h3
      obtain⟨oj,g,oZ,jb,gd,gw⟩:=uW j h2
      rw[lV j (by omega)]
      rcases order j oj g (by omega) h2 oZ jb with hap|⟨h4,_⟩|⟨_,h5⟩
      · exact(h3 oj g oZ jb hap).elim
      · omega
      · exact h5
     refine ih fuel (listed.setIfInBounds (lo+i) true) a2 w2 A2 ρ2 (by simpa using hsz) (fun k hk=>by rw[F0 k (by omega)];exact BW k hk) (fun k hk hk'=>by rw[F0 k (by omega)];exact Gf k hk hk') ?_ (by omega) ?_ ?_ (dI.trans r2) (cG.trans r3) (hg.trans r4 dI.size)
     · have:=vv (L:=cZ listed) (L':=cZ (listed.setIfInBounds (lo+i) true)) Eh uQ lV (k:=N) yM
       omega
     · intro k ok' sP Eg e he
       by_cases pX:k=lo+i
       · subst pX
         rw[ho]at sP
         simp only[Option.some.injEq]at sP
         subst sP
         exact getD_set_true (HD e he)
       · rw[F0 k pX]at Eg
         exact getD_set_true (dW k ok' sP Eg e he)
     · refine(Rel.forget (st':=⟨n,nG dst v (tmT 0) (cZ (listed.setIfInBounds (lo+i) true)) N,nN wr hpT (hpT 0) (cZ (listed.setIfInBounds (lo+i) true)) N⟩) r1 rfl (fun t u hu=>?_) (fun k b hb=>?_)).sub (fun k hk=>?_)
       · simp only[gf]
         split
         · rename_i hd
           have od:=xX dst v (tmT 0) (cZ (listed.setIfInBounds (lo+i) true)) t i (by rw[uN i o ho];exact hd) uQ N yM (fun j h1 h2 h3=>later j h1 h2 (fun oj g oZ jb hap=>by
            obtain⟨_,g',_,xn,gd,_⟩:=uW j h2
            rw[jb]at xn
            simp only[Option.some.injEq]at xn
            subst xn
            exact(apart_spec hap).1 t (by rw[fd];exact hd) (by rw[gd];exact h3)))
           rw[←od];exact hu
         · rename_i hd
           rw[mq dst v (tmT 0) (cZ listed) (cZ (listed.setIfInBounds (lo+i) true)) t N (fun j hj yO=>by
            by_cases ff:j=i
            · subst ff;rw[uN j o ho]at yO;exact absurd yO hd
            · exact(lV j ff).symm)]
           exact hu
       · by_cases hk:k∈wr i
         · have hkw:k∈f.wr:=fw k (by rw[←hwr i o ho];exact hk)
           have od:=yJ wr hpT (hpT 0) (cZ (listed.setIfInBounds (lo+i) true)) k i hk uQ N yM (fun j h1 h2 h3=>later j h1 h2 (fun oj g oZ jb hap=>by
            obtain⟨_,g',_,xn,_,gw⟩:=uW j h2
            rw[jb]at xn
            simp only[Option.some.injEq]at xn
            subst xn
            exact(apart_spec hap).2.2.2 k (gw k h3) hkw))
           rw[IW.1 k hk, ←od];exact hb
         · rw[(IW.2 k hk).2,mM wr hpT (hpT 0) (cZ listed) (cZ (listed.setIfInBounds (lo+i) true)) k N (fun j hj yO=>by
            by_cases ff:j=i
            · subst ff;exact absurd yO hk
            · exact(lV j ff).symm)]
           exact hb
       · refine⟨?_,?_⟩
         · rcases hk with hk|⟨j,h1,h2,h3⟩
           · exact .inl hk
           · by_cases ff:j=i
             · subst ff;rw[uQ]at h2;simp at h2
             · rw[lV j ff]at h2;exact .inr ⟨j,h1,h2,h3⟩
         · rintro⟨q1,q2⟩
           rcases hk with hk|⟨j,h1,h2,h3,h4⟩
           · omega
           · by_cases ff:j=i
             · subst ff;rw[uQ]at h2;simp at h2
             · omega
 intro fuel listed hsz hl ES
 have hLf: ∀i,i < N→cZ listed i=false:=by
  intro i hi
  simp only[cZ]
  rw[hl (lo+i) (by simp only[N]at hi;omega)]
  simp
 have SB: ∀k,k≤N→ng (cZ listed) k=k:=by
  intro k
  induction k with
  |zero=>intro _;rfl
  |succ k ih=>intro hk;simp only[ng,ih (by omega),hLf k (by omega)];simp
 refine main m fuel listed a w A ρ hsz (fun i hi=>?_) (fun i hi hi'=>?_) (SB N (Nat.le_refl _)) (by omega) (fun k o ho Eg e he=>?_) ?_ (dc.refl _ _) (cU.refl _) (bJ.refl _ _)
 · show listed.getD i false=true
   rw[hl i (by omega)];simp[hi]
 · show listed.getD i false=false
   rw[hl i hi'];simp;omega
 · have hk:k < ops.size:=(Array.getElem?_eq_some_iff.1 ho).1
   have h1:k < lo:=by
    have:listed.getD k false=true:=Eg
    rw[hl k hk]at this
    simpa using this
   have h2:=hE k o ho e he
   show listed.getD e false=true
   rw[hl e (by omega)];simp;omega
 · have eT: ∀k,k≤N→nG dst v (tmT 0) (cZ listed) k=tmT 0:=by
    intro k
    induction k with
    |zero=>intro _;rfl
    |succ k ih=>intro hk;simp only[nG,hLf k (by omega),Bool.false_eq_true,if_false,ih (by omega)]
   have eH: ∀k,k≤N→nN wr hpT (hpT 0) (cZ listed) k=hpT 0:=by
    intro k
    induction k with
    |zero=>intro _;rfl
    |succ k ih=>intro hk;simp only[nN,hLf k (by omega),Bool.false_eq_true,if_false,ih (by omega)]
   rw[eT N (Nat.le_refl _),eH N (Nat.le_refl _)]
   refine cF.sub (fun k hk=>?_)
   simp only[bD]
   rcases hk with hk|⟨j,_,_,h3,_⟩<;>omega
end Go.aR
end
section
namespace Go.aR
open Go
abbrev sC (α:Type):=FuncId→List W→HS→Nat→(V→HS→Nat→α)→α
abbrev sD (α:Type):=FuncId→List W→HS→Nat→(V→HS→α)→α
section
variable {α:Type} (bad:α) (call:sC α) (dw:sD α)
def Gy (v:V) (us:List W) (k:FuncId→List W→α):α:=
 match v with
 | .w (.one (.jy f cW))=>k f (us++cW.map fun p=> .one (.ptr p.1 p.2.1 p.2.2.1 p.2.2.2))
 | .w (.one (.kR f true ts))=>k f (.agg (ts.map .t)::us)
 | .w (.one (.kR f false [t]))=>k f (.one (.t t)::us)
 | .w (.one (.t (.val (.func (.func f) first cW))))=>fU (first.isEmpty&&cW.isEmpty) (k f us) bad
 |_=>bad
def EGo (P:Program) (o:gn) (tm:Tr) (hp:HS) (ctr:Nat) (K:Tr→HS→Nat→α):α:=
 match o.op with
 | .call f args=>M1 bad (gT tm) args fun us=>call f us hp ctr fun v aG bC=>rV v fun v=>j5 tm o.dst v fun tm=>K tm aG bC
 | .fb x args=>M1 bad (gT tm) args fun us=>Gy bad (gT tm x) us fun f us=>fU (enters P f) (call f us hp ctr fun v aG bC=>rV v fun v=>j5 tm o.dst v fun tm=>K tm aG bC) bad
 | .raw op ty=>EX P bad op ty (gT tm) hp ctr fun v aG=>j5 tm o.dst v fun tm=>nA (ctr+4) fun c=>K tm aG c
 | .append size bytes s x=>match gT tm s with
   | .w (.one (.own id sz 0 len))=>match find hp id with
     |some (.row di xs)=>gm (jI hp id (.row di (xs.take len))) fun hp=>ER bad (.append size bytes s x) (gT tm) hp ctr fun v aG=>j5 tm o.dst v fun tm=>nA (ctr+4) fun c=>K tm aG c
     |_=>bad
   |_=>ER bad (.append size bytes s x) (gT tm) hp ctr fun v aG=>j5 tm o.dst v fun tm=>nA (ctr+4) fun c=>K tm aG c
 | .slice size x lo hi=>match gT tm x with
   | .w (.one (.t (.val (.slice none 0 0))))=>match fq (lo.map (gT tm)) 0,fq (hi.map (gT tm)) 0 with
     |some 0,some 0=>j5 tm o.dst (.w (.one (.t (.val (.slice none 0 0))))) fun tm=>nA (ctr+4) fun c=>K tm hp c
     |_,_=>bad
   |_=>ER bad (.slice size x lo hi) (gT tm) hp ctr fun v aG=>j5 tm o.dst v fun tm=>nA (ctr+4) fun c=>K tm aG c
 |r=>ER bad r (gT tm) hp ctr fun v aG=>j5 tm o.dst v fun tm=>nA (ctr+4) fun c=>K tm aG c
def EOp (P:Program) (o:gn) (tm:Tr) (hp:HS) (ctr:Nat) (K:Tr→HS→Nat→α):α:=
 match o.guard with
 |none=>EGo bad call P o tm hp ctr K
 |some (d,want)=>
  match tm.get (key d)with
  |some (.w (.one (.t (.val (.bool b)))))=>fU (b==want) (EGo bad call P o tm hp ctr K) (j5 tm o.dst (.ej []) fun tm=>K tm hp ctr)
  |some (.ej [])=>j5 tm o.dst (.ej []) fun tm=>K tm hp ctr
  |_=>bad
def JL (P:Program):List gn→Tr→HS→Nat→(Tr→HS→Nat→α)→α
 | [],tm,hp,ctr,K=>K tm hp ctr
 |o::r,tm,hp,ctr,K=>EOp bad call P o tm hp ctr fun tm hp ctr=>JL P r tm hp ctr K
def JM (P:Program) (o:gn) (tm:Tr) (hp:HS) (ctr:Nat) (K:Tr→HS→Nat→α):α:=
 match o.op with
 | .call f args=>M1 bad (gT tm) args fun us=>dw f us hp ctr fun v aG=>rV v fun v=>j5 tm o.dst v fun tm=>nA (ctr+4) fun c=>K tm aG c
 | .fb x args=>M1 bad (gT tm) args fun us=>Gy bad (gT tm x) us fun f us=>fU (enters P f) (dw f us hp ctr fun v aG=>rV v fun v=>j5 tm o.dst v fun tm=>nA (ctr+4) fun c=>K tm aG c) bad
 | .raw op ty=>match aj P (fun x=>gT tm (dj x)) hp ctr (bare op ty)with
   |some (v,aG)=>rV v fun v=>j5 tm o.dst v fun tm=>nA (ctr+4) fun c=>K tm aG c
   |none=>bad
 |r=>ER bad r (gT tm) hp ctr fun v aG=>j5 tm o.dst v fun tm=>nA (ctr+4) fun c=>K tm aG c
def C4 (o:gn) (tm:Tr) (ctr:Nat):gP:=
 let rd:=if o.op.looks then o.op.hJ.flatMap fun x=>(gT tm x).ids else []
 ⟨o.dst,o.op.hJ.filterMap Ra++(o.guard.map (·.1)).toList,rd,four ctr++if o.op.wrt then rd else []⟩
def PM (P:Program) (o:gn) (tm:Tr) (hp:HS) (ctr:Nat) (K:Tr→HS→Nat→α):α:=
 match o.guard with
 |none=>JM bad dw P o tm hp ctr K
 |some (d,want)=>
  match tm.get (key d)with
  |some (.w (.one (.t (.val (.bool b)))))=>fU (b==want) (JM bad dw P o tm hp ctr K) (j5 tm o.dst (.ej []) fun tm=>nA (ctr+4) fun c=>K tm hp c)
  |some (.ej [])=>j5 tm o.dst (.ej []) fun tm=>nA (ctr+4) fun c=>K tm hp c
  |_=>bad
def Bc (P:Program):List gn→List gP→Tr→HS→Nat→(List gP→Tr→HS→Nat→α)→α
 | [],fs,tm,hp,ctr,K=>K fs tm hp ctr
 |o::r,fs,tm,hp,ctr,K=>PM bad dw P o tm hp ctr fun bg aG bC=>Bc P r (fs++[C4 o tm ctr]) bg aG bC K
def Aj (bits:List Nat) (N j:Nat):Bool:=
 (List.range j).all (fun i=>(bits.getD j 0).testBit i)&& (List.range (N - (j+1))).all (fun d=>(bits.getD (j+1+d) 0).testBit j)
def cq (bits:List Nat) (N:Nat):Nat→List gn→List gn×List gn
 |_,[]=>([],[])
 |j,o::r=>fU (Aj bits N j) ([],o::r) (o::(cq bits N (j+1) r).1,(cq bits N (j+1) r).2)
def CP (bits:List Nat) (lo m N:Nat):Bool:=
 (List.range (N - (lo+m))).all fun d=>(List.range m).all fun i=>(bits.getD (lo+m+d) 0).testBit (lo+i)
def vO (P:Program) (bits:List Nat) (N:Nat):Nat→Nat→List gn→Tr→HS→Nat→(Tr→HS→Nat→α)→α
 |0,_,_,_,_,_,_=>bad
 |f+1,lo,ops,tm,hp,ctr,K=>
  Bc bad dw P (cq bits N lo ops).1 [] tm hp ctr fun fs tm hp ctr=>
   fU (CI bits lo fs&&CP bits lo (cq bits N lo ops).1.length N)
    (match(cq bits N lo ops).2 with
    | []=>K tm hp ctr
    |o::r=>EOp bad call P o tm hp ctr fun tm hp ctr=>vO P bits N f (lo+(cq bits N lo ops).1.length+1) r tm hp ctr K) bad
def GD (K:Tr→HS→Nat→α) (Q:Exit→Tr→HS→Nat→α):Exit→Tr→HS→Nat→α
 | .normal=>K
 |e=>Q e
def GR (id:Nat) (Q:Exit→Tr→HS→Nat→α):Exit→Tr→HS→Nat→α
 | .exit id'=>fU (Nat.beq id' id) (Q .normal) (Q (.exit id'))
 |e=>Q e
def AP (body:(Tr→HS→Nat→α)→Tr→HS→Nat→α):Nat→Tr→HS→Nat→α
 |0=>fun _ _ _=>bad
 |n+1=>body (AP body n)
def E (P:Program) (fuel:Nat):Rc→(Exit→Tr→HS→Nat→α)→Tr→HS→Nat→α
 | .skip,Q,tm,hp,ctr=>Q .normal tm hp ctr
 | .ret,Q,tm,hp,ctr=>Q .ret tm hp ctr
 | .exit id,Q,tm,hp,ctr=>Q (.exit id) tm hp ctr
 | .seq a b,Q,tm,hp,ctr=>E P fuel a (GD (E P fuel b Q) Q) tm hp ctr
 | .cond c a b,Q,tm,hp,ctr=>
   match(gT tm c).gk with
   |some v=>fU v (E P fuel a Q tm hp ctr) (E P fuel b Q tm hp ctr)
   |none=>bad
 | .block id b,Q,tm,hp,ctr=>E P fuel b (GR id Q) tm hp ctr
 | .loop b,Q,tm,hp,ctr=>AP bad (fun self=>E P fuel b (GD self Q)) fuel tm hp ctr
 | .region ops,Q,tm,hp,ctr=>JL bad call P ops tm hp ctr (Q .normal)
 | .draw ops es,Q,tm,hp,ctr=>vO bad call dw P (kg es []) ops.length (ops.length+1) 0 ops tm hp ctr (Q .normal)
end
def fS (n:Nat):Rc→Bool
 | .seq a b=>fS n a&&fS n b
 | .cond _ a b=>fS n a&&fS n b
 | .block _ b=>fS n b
 | .loop b=>fS n b
 | .region ops=>ops.all fun o=>gi n o.dst
 | .draw ops _=>ops.all fun o=>gi n o.dst
 |_=>true
variable {P:Program} {M A:Nat→Prop} {ρ:Env} {F:Nat→Prop} {st:St} {a:Act} {w:World}
def At (M A:Nat→Prop) (ρ:Env) (w:World) (n:Nat) (tm:Tr) (hp:HS) (ctr:Nat) (a':Act) (w':World):Prop:=
 ∃L A' ρ',ey tm L∧Rel M A' ρ' (bD ctr) ⟨n,L,hp⟩ a' w'∧dc M w w'∧cU ρ ρ'∧bJ A A' w
theorem At.trans {A1:Nat→Prop} {ρ1:Env} {w1 w':World} {n:Nat} {tm:Tr} {hp:HS} {ctr:Nat} {a':Act} (h:At M A1 ρ1 w1 n tm hp ctr a' w') (dI:dc M w w1) (cG:cU ρ ρ1) (hg:bJ A A1 w):At M A ρ w n tm hp ctr a' w':=by
 obtain⟨L,A',ρ',h1,h2,h3,h4,h5⟩:=h
 exact⟨L,A',ρ',h1,h2,dI.trans h3,cG.trans h4,hg.trans h5 dI.size⟩
theorem At.here {n:Nat} {L:TS} {tm:Tr} {hp:HS} {ctr:Nat} (ht:ey tm L) (h:Rel M A ρ (bD ctr) ⟨n,L,hp⟩ a w):At M A ρ w n tm hp ctr a w:=
 ⟨L,A,ρ,ht,h,dc.refl _ _,cU.refl _,bJ.refl _ _⟩
def Qo (P:Program) (n:Nat) (c:Code) (tm:Tr) (hp:HS) (ctr:Nat) (e:Exit) (bg:Tr) (aG:HS) (bC:Nat):Prop:=
 ∀ (M A:Nat→Prop) (ρ:Env) (a:Act) (w:World) (L:TS),ey tm L→Rel M A ρ (bD ctr) ⟨n,L,hp⟩ a w→
  c.wp P (fun e2 a' w'=>e2=e∧At M A ρ w n bg aG bC a' w') a w
def nn (P:Program) (call:sC Bool):Prop:= ∀f us hp ctr K,call f us hp ctr K=true→ ∃v aG bC,fJ P f us hp ctr v aG bC∧K v aG bC=true
def jZ (P:Program) (dw:sD Bool):Prop:= ∀f us hp ctr K,dw f us hp ctr K=true→ ∃v aG,ee P hp ctr f us v aG∧K v aG=true
def gO (ops:Array Oper) (o:Oper) (g:Option (Nat×Bool)):Prop:=
 (o.guard=none∧g=none)∨ ∃j want d,o.guard=some (j,want)∧(ops[j]?).bind (·.dst)=some d∧g=some (d,want)
def vI (P:Program) (n:Nat) (ops:Array Oper) (i:Nat) (tm:Tr) (hp:HS) (ctr:Nat) (bg:Tr) (aG:HS) (bC:Nat):Prop:=
 ∀ (M A:Nat→Prop) (ρ:Env) (a:Act) (w:World) (L:TS) (Q:Exit→Act→World→Prop) (K':Act→World→Prop),ey tm L→Rel M A ρ (bD ctr) ⟨n,L,hp⟩ a w→
  (∀a' w',At M A ρ w n bg aG bC a' w'→K' a' w')→wpOp P ops Q i K' a w
def qp (P:Program) (n:Nat) (ops:Array Oper) (o:Oper) (tm:Tr) (hp:HS) (ctr:Nat) (v:V) (aG:HS):Prop:=
 ∀L,ey tm L→fe P ops o n L hp ctr v aG
theorem qp.run {n:Nat} {ops:Array Oper} {o:Oper} {i:Nat} {tm:Tr} {hp aG:HS} {ctr:Nat} {v:V} (hi:ops[i]? =some o) (h:qp P n ops o tm hp ctr v aG):
 vI P n ops i tm hp ctr (tN tm o.dst v) aG (ctr+4):=by
 intro M A ρ a w L Q K' hL hr hk
 refine fe.sound hi (h L hL) hr (fun k h1 _=>h1) ?_
 intro a' w' A' ρ' r1 r2 r3 r4
 exact hk a' w' ⟨_,A',ρ',hL.put o.dst v,r1.sub gy,r2,r3,r4⟩
theorem tH {n:Nat} {ops:Array Oper} {o:Oper} {g:Option (Nat×Bool)} {tm:Tr} {hp:HS} {ctr:Nat} (hd:gi n o.dst=true) (hgd:gO ops o g)
 (hg: ∃d want,g=some (d,want)∧((∃b,tm.get (key d)=some (bV b)∧(b==want)=false)∨tm.get (key d)=some (.ej []))):qp P n ops o tm hp ctr (.ej []) hp:=by
 intro L hL
 obtain⟨d,want,rfl,hg⟩:=hg
 rcases hgd with⟨_,h⟩|⟨j,want',d',h1,h2,h3⟩
 · simp at h
 · simp only[Option.some.injEq,Prod.mk.injEq]at h3
   obtain⟨rfl,rfl⟩:=h3
   refine⟨hd,?_⟩
   rcases hg with⟨b,hb,hne⟩|hb
   · rw[←hL d]at hb
     simp only[aV,h1,h2,hb,hne]
     exact⟨trivial,trivial⟩
   · rw[←hL d]at hb
     simp only[aV,h1,h2,hb]
     exact⟨trivial,trivial⟩
theorem guard_true {ops:Array Oper} {o:Oper} {g:Option (Nat×Bool)} {tm:Tr} {L:TS} (hL:ey tm L) (hgd:gO ops o g)
 (hg:g=none∨ ∃d want b,g=some (d,want)∧tm.get (key d)=some (bV b)∧(b==want)=true):aV ops o L=some true:=by
 rcases hgd with⟨h0,rfl⟩|⟨j,want,d,h1,h2,rfl⟩
 · simp[aV,h0]
 · rcases hg with h|⟨d',want',b,h3,h4,h5⟩
   · simp at h
   · simp only[Option.some.injEq,Prod.mk.injEq]at h3
     obtain⟨rfl,rfl⟩:=h3
     rw[←hL d]at h4
     simp only[aV,h1,h2,h4,h5]
theorem Ds {n:Nat} {ops:Array Oper} {o:Oper} {x:Ro} {g:Option (Nat×Bool)} {tm:Tr} {hp:HS} {ctr:Nat} {K:V→HS→Bool} (hx:bn P o=some x) (hd:gi n o.dst=true)
 (hgd:gO ops o g) (hg:g=none∨ ∃d want b,g=some (d,want)∧tm.get (key d)=some (bV b)∧(b==want)=true)
 (hE: ∃L,ey tm L) (h:ER false x (gT tm) hp ctr K=true): ∃v aG,qp P n ops o tm hp ctr v aG∧K v aG=true:=by
 obtain⟨L0,uP⟩:=hE
 rw[kN uP]at h
 obtain⟨h1,v,aG,h2,h3⟩:=vH (st:=⟨n,L0,hp⟩) hx (afT h)
 refine⟨v,aG,fun L hL=>⟨hd,?_⟩,h3⟩
 rw[guard_true hL hgd hg]
 have BT: ∀y,St.get ⟨n,L,hp⟩ y=St.get ⟨n,L0,hp⟩ y:=by
  intro y
  cases y with
  |tmp t=>simp only[St.get];rw[hL t,uP t]
  |_=>rfl
 have c1:bN (St.get ⟨n,L,hp⟩) o=none:=by rw[qi (get':=St.get ⟨n,L0,hp⟩) (fun y _=>BT y)];exact h1
 simp only[c1]
 rw[qa (get':=St.get ⟨n,L0,hp⟩) (fun y _=>BT y)]
 exact h2
def Tr.toL:Tr→(Pn→Pn)→List (Nat×V)
 | .nil,_=>[]
 | .node v l r,f=>(match v with|some x=>[((f .e).dec,x)]|none=>[])++l.toL (fun p=>f (.o p))++r.toL (fun p=>f (.i p))
theorem qg: ∀ {p q:Pn},p.dec=q.dec→p=q
 | .e, .e,_=>rfl
 | .e, .o _,h=>by simp[Pn.dec]at h
 | .e, .i _,h=>by simp[Pn.dec]at h
 | .o _, .e,h=>by simp[Pn.dec]at h
 | .i _, .e,h=>by simp[Pn.dec]at h
 | .o p, .o q,h=>by simp only[Pn.dec]at h;rw[qg (p:=p) (q:=q) (by omega)]
 | .i p, .i q,h=>by simp only[Pn.dec]at h;rw[qg (p:=p) (q:=q) (by omega)]
 | .o p, .i q,h=>by simp only[Pn.dec]at h;omega
 | .i p, .o q,h=>by simp only[Pn.dec]at h;omega
theorem iX {β:Type}: ∀ {l:List (Nat×β)} {t:Nat},(∀p,p∈l→p.1≠t)→find l t=none
 | [],t,_=>rfl
 |(k,v)::r,t,h=>by
  rw[az,if_neg (h (k,v) (by simp))]
  exact iX fun p hp=>h p (by simp[hp])
theorem toL_keys: ∀ (tr:Tr) (f:Pn→Pn) (p:Nat×V),p∈tr.toL f→ ∃q,p.1=(f q).dec
 | .nil,f,p,h=>by simp[Tr.toL]at h
 | .node v l r,f,p,h=>by
   simp only[Tr.toL,List.mem_append]at h
   rcases h with(h|h)|h
   · cases v with
     |none=>simp at h
     |some x=>simp only[List.mem_singleton]at h;subst h;exact⟨.e,rfl⟩
   · obtain⟨q,hq⟩:=toL_keys l _ p h;exact⟨.o q,hq⟩
   · obtain⟨q,hq⟩:=toL_keys r _ p h;exact⟨.i q,hq⟩
theorem uZ: ∀ (tr:Tr) (f:Pn→Pn) (hf: ∀p q,f p=f q→p=q) (q:Pn),find (tr.toL f) (f q).dec=tr.get q
 | .nil,f,hf,q=>by rw[Tr.th];rfl
 | .node v l r,f,hf,q=>by
   have hl:=uZ l (fun p=>f (.o p)) (fun p q h=>by have:=hf _ _ h;simpa using this)
   have hr:=uZ r (fun p=>f (.i p)) (fun p q h=>by have:=hf _ _ h;simpa using this)
   have nl: ∀q,(∀q',Pn.o q'≠q)→find (l.toL fun p=>f (.o p)) (f q).dec=none:=by
    intro q hq
    refine iX fun p hp he=>?_
    obtain⟨q',CU⟩:=toL_keys l _ p hp
    rw[CU]at he
    exact hq q' (hf _ _ (qg he))
   have nr: ∀q,(∀q',Pn.i q'≠q)→find (r.toL fun p=>f (.i p)) (f q).dec=none:=by
    intro q hq
    refine iX fun p hp he=>?_
    obtain⟨q',CU⟩:=toL_keys r _ p hp
    rw[CU]at he
    exact hq q' (hf _ _ (qg he))
   have nv: ∀q,q≠ .e→find (match v with|some x=>[((f .e).dec,x)]|none=>[]) (f q).dec=none:=by
    intro q hq
    refine iX fun p hp he=>?_
    cases v with
    |none=>simp at hp
    |some x=>
     simp only[List.mem_singleton]at hp
     subst hp
     exact hq (hf _ _ (qg he)).symm
   simp only[Tr.toL,cN]
   cases q with
   |e=>
    rw[nl .e (by simp),nr .e (by simp)]
    cases v with
    |none=>simp[find,Tr.get]
    |some x=>simp[find,Tr.get]
   |o q=>
    rw[nv (.o q) (by simp),nr (.o q) (by simp),hl q]
    simp[Tr.get]
   |i q=>
    rw[nv (.i q) (by simp),nl (.i q) (by simp),hr q]
    simp[Tr.get]
theorem Cz (tr:Tr): ∃L,ey tr L:=by
 refine⟨tr.toL id,fun t=>?_⟩
 have h1:t=(id (key t)).dec:=by
  simp only[id]
  unfold key
  exact(pT t t (Nat.le_refl _)).symm
 have h2:=uZ tr id (fun _ _ h=>h) (key t)
 rw[←h1]at h2
 exact h2
variable {call:sC Bool} {dw:sD Bool}
theorem tR {o:Oper} {size:Nat} {x:dN} {lo hi:Option dN} (h:aI P o=some (.slice size x lo hi)):
 ∃t x' lo' hi' e,o.op= .slice t x' lo' hi' none∧P.underlying t=some (.slice e)∧cM P e=some size∧x=dj x'∧lo=lo'.map dj∧hi=hi'.map dj:=by
 obtain⟨dst,op,ty,pos,after,guard⟩:=o
 cases op
 case slice t x' lo' hi' mx=>
  cases mx with
  |some m=>simp[aI]at h
  |none=>
   simp only[aI]at h
   split at h
   · rename_i e hu
     simp only[Option.map_eq_some_iff,Ro.slice.injEq]at h
     obtain⟨s,hs,rfl,rfl,rfl,rfl⟩:=h
     exact⟨t,x',lo',hi',e,rfl,hu,hs,rfl,rfl,rfl⟩
   · simp at h
 all_goals
  exfalso
  simp only[aI]at h
  repeat' split at h
  all_goals first|(simp at h;done)|simp_all
theorem vU {o:Oper} {size:Nat} {x:dN} {lo hi:Option dN} (h:bn P o=some (.slice size x lo hi)):
 ∃t x' lo' hi' e,o.op= .slice t x' lo' hi' none∧P.underlying t=some (.slice e)∧cM P e=some size∧x=dj x'∧lo=lo'.map dj∧hi=hi'.map dj:=by
 unfold bn at h
 split at h
 · rename_i r hr
   replace hr:=dF hr
   simp only[Option.some.injEq]at h
   subst h
   exact tR hr
 · simp only[Option.some.injEq]at h
   rcases kw o with⟨t,fc,gY,ho,e⟩|e
   · rw[e]at h;simp at h
   · rw[e]at h;simp at h
theorem AL {get:Operand→V} {o:Oper} {p:FuncId×List W} {hp:HS} {nid:Nat} {r:V×HS} (hc:bN get o=some p) (he:aj P get hp nid o=some r):False:=by
 obtain⟨dst,op,ty,pos,after,guard⟩:=o
 unfold bN at hc
 simp only at hc
 split at hc
 · simp[aj]at he
 · simp at hc
theorem G2 {tm:Tr} {L:TS} {n:Nat} {hp:HS} (hL:ey tm L) (hr:Rel M A ρ F ⟨n,L,hp⟩ a w) {lo:Option Operand} (h:fq ((lo.map dj).map (gT tm)) 0=some 0):lo.map a.eval=none∨ ∃k,lo.map a.eval=some (.int k 0):=by
 cases lo with
 |none=>exact .inl rfl
 |some x=>
  right
  simp only[Option.map_some,fq]at h
  split at h
  · rename_i k m hm
    split at h
    · rename_i h0
      simp only[Option.some.injEq]at h
      have:m=0:=by omega
      subst this
      exact⟨k,by rw[Option.map_some,V.iq hm (RV.at hL hr x)]⟩
    · simp at h
  · simp at h
theorem yC {n:Nat} {o:Oper} {size:Nat} {x:dN} {lo hi:Option dN} {tm:Tr} {hp:HS} {ctr:Nat} (hx:bn P o=some (.slice size x lo hi)) (hy:gT tm x= .w (.one (.t (.val (.slice none 0 0)))))
 (hlo:fq (lo.map (gT tm)) 0=some 0) (hhi:fq (hi.map (gT tm)) 0=some 0):Ci P n o tm hp ctr (.w (.one (.t (.val (.slice none 0 0))))) hp:=by
 obtain⟨t,x',lo',hi',e,ho,hu,hs,rfl,rfl,rfl⟩:=vU hx
 intro M A ρ a w L hL hr
 have vx:=RV.at hL hr x'
 rw[hy]at vx
 have hv:a.eval x'= .slice none 0 0:=V.bu (v:= .slice none 0 0) rfl vx
 have hrun:(execOp a.eval o).run P w= .ok (.value (.slice none 0 0)) w:=by
  rw[←sc,ho]
  rcases G2 hL hr hlo with h1|⟨k1,h1⟩<;>rcases G2 hL hr hhi with h2|⟨k2,h2⟩<;>
   simp[execOp,Instr.sliceAt,Instr.slice,hv,h1,h2,run_underlying hu,Instr.sliceBounds,Instr.sliceBound,asIntOf,run_sizeOf hs]
 exact⟨_,w,A,ρ, .inl hrun,hr.sub cP,RV.ofValue w A ρ (.slice none 0 0),dc.refl _ _,cU.refl _,bJ.refl _ _⟩
theorem vw {n:Nat} {ops:Array Oper} {o:Oper} {i:Nat} {f:FuncId} {g:Option (Nat×Bool)} {tm:Tr} {hp aG:HS} {ctr bC:Nat} {us:List W} {v:V}
 (hi:ops[i]? =some o) (mO:enters P f=true) (hd:gi n o.dst=true) (hgd:gO ops o g) (hg:g=none∨ ∃d want b,g=some (d,want)∧tm.get (key d)=some (bV b)∧(b==want)=true)
 (wu: ∀L,ey tm L→bN (St.get ⟨n,L,hp⟩) o=some (f,us)) (hc:fJ P f us hp ctr v aG bC):vI P n ops i tm hp ctr (tN tm o.dst v) aG bC:=by
 intro M A ρ a w L Q K' hL hr hk
 have hgt:=guard_true hL hgd hg
 have FV:=cV hr hgt
 obtain⟨xs,hxs,hxr⟩:=lK (P:=P) hr (wu L hL) mO
 unfold wpOp
 simp only[hi,FV,if_true]
 refine .inl ?_
 simp only[Oper.wp,hxs,Oper.upon]
 refine(hc M A ρ a w n L xs hr hxr).mono ?_
 rintro e w' ⟨x,A',ρ',rfl,r1,r2,r3,r4,r5⟩
 refine hk _ _ ⟨_,A',ρ',hL.put o.dst v,?_,r3,r4,r5⟩
 have:=r1.put (dst:=o.dst) r2 (jw hd)
 rw[kx]at this
 exact this
theorem CJ {n:Nat} {ops:Array Oper} {o:Oper} {i:Nat} {g:Option (Nat×Bool)} {tm:Tr} {hp aG:HS} {ctr:Nat} {v:V}
 (hi:ops[i]? =some o) (hd:gi n o.dst=true) (hgd:gO ops o g) (hg:g=none∨ ∃d want b,g=some (d,want)∧tm.get (key d)=some (bV b)∧(b==want)=true)
 (h:Ci P n o tm hp ctr v aG):vI P n ops i tm hp ctr (tN tm o.dst v) aG (ctr+4):=by
 intro M A ρ a w L Q K' hL hr hk
 have hgt:=guard_true hL hgd hg
 have FV:=cV hr hgt
 obtain⟨x,w',A',ρ',hrun,r1,r2,r3,r4,r5⟩:=h M A ρ a w L hL hr
 unfold wpOp
 simp only[hi,FV,if_true]
 refine .inl ?_
 have fin: ∀ {y:Value},RV w' A' ρ' v y→Rel M A' ρ' (bD (ctr+4)) ⟨n,eE L o.dst v,aG⟩ (a.put o.dst y) w':=by
  intro y hy
  have:=r1.put (dst:=o.dst) hy (jw hd)
  rw[kx]at this
  exact this
 rcases hrun with hrun|⟨hrun,rfl⟩
 · simp only[Oper.wp,hrun,Oper.upon]
   exact hk _ _ ⟨_,A',ρ',hL.put o.dst v,fin r2,r3,r4,r5⟩
 · simp only[Oper.wp,hrun,Oper.upon]
   exact hk _ _ ⟨_,A',ρ',hL.put o.dst v,fin r2,r3,r4,r5⟩
theorem zG {tm:Tr} {L L0:TS} (hL:ey tm L) (uP:ey tm L0) (l:List dN):Cv L l=Cv L0 l:=by
 have:(fun x=>dN.get L x)=fun x=>dN.get L0 x:=by rw[←kN hL, ←kN uP]
 induction l with
 |nil=>rfl
 |cons y r ih=>simp only[Cv,ih,congrFun this y]
theorem sw {n:Nat} {o:Oper} {f:FuncId} {args:List dN} {tm:Tr} {L0:TS} {hp:HS} {us:List W} (hx:bn P o=some (.call f args)) (uP:ey tm L0) (fQ:Cv L0 args=some us):
 enters P f=true∧ ∀L,ey tm L→bN (St.get ⟨n,L,hp⟩) o=some (f,us):=by
 obtain⟨fc,gY,ho,rfl,mO⟩:=lq hx
 refine⟨mO,fun L hL=>?_⟩
 have hw2:oC (St.get ⟨n,L,hp⟩) fc.toList=some us:=by rw[←oA, ←fQ];exact zG hL uP _
 unfold bN
 rw[ho]
 simp only[St.get,V.ofValue,hw2]
 rfl
theorem B1 {v:V} {us:List W} {k:FuncId→List W→Bool} (h:Gy false v us k=true): ∃f fg,k f fg=true∧
 ∀ {get:Operand→V} {o:Oper} {t:Nat} {args:Array Operand} {gY:Array TypeId},o.op= .call ⟨.value (.tmp t),args,gY⟩→get (.tmp t)=v→oC get args.toList=some us→bN get o=some (f,fg):=by
 unfold Gy at h
 split at h
 · exact⟨_,_,h,fun ho hv fQ=>by unfold bN;rw[ho];simp only[hv,fQ]⟩
 · exact⟨_,_,h,fun ho hv fQ=>by unfold bN;rw[ho];simp only[hv,fQ,mF,Option.map_some]⟩
 · exact⟨_,_,h,fun ho hv fQ=>by unfold bN;rw[ho];simp only[hv,fQ,mF,Option.map_some]⟩
 · obtain⟨hc,h⟩:=bt h
   exact⟨_,_,h,fun ho hv fQ=>by unfold bN;rw[ho];simp only[hv,fQ,hc,if_true]⟩
 · simp at h
theorem qj {n:Nat} {o:Oper} {x:dN} {args:List dN} {tm:Tr} {L0:TS} {hp:HS} {us:List W} {k:FuncId→List W→Bool} (hx:bn P o=some (.fb x args)) (uP:ey tm L0) (fQ:Cv L0 args=some us)
 (h:Gy false (gT tm x) us k=true): ∃f fg,k f fg=true∧ ∀L,ey tm L→bN (St.get ⟨n,L,hp⟩) o=some (f,fg):=by
 obtain⟨t,fc,gY,ho,rfl,rfl⟩:=j4 hx
 obtain⟨f,fg,h1,h2⟩:=B1 h
 refine⟨f,fg,h1,fun L hL=>h2 ho ?_ ?_⟩
 · rw[kN hL]
   exact(bk ⟨n,L,hp⟩ (.tmp t)).symm
 · rw[←oA, ←fQ];exact zG hL uP _
theorem xO (gV:nn P call) {n:Nat} {ops:Array Oper} {o:Oper} {i:Nat} {x:Ro} {g:Option (Nat×Bool)} {tm:Tr} {hp:HS} {ctr:Nat} {K:Tr→HS→Nat→Bool}
 (hi:ops[i]? =some o) (hx:bn P o=some x) (hd:gi n o.dst=true) (hgd:gO ops o g) (hg:g=none∨ ∃d want b,g=some (d,want)∧tm.get (key d)=some (bV b)∧(b==want)=true)
 (h:EGo false call P ⟨o.dst,g,x⟩ tm hp ctr K=true): ∃bg aG bC,vI P n ops i tm hp ctr bg aG bC∧K bg aG bC=true:=by
 obtain⟨L0,uP⟩:=Cz tm
 have plain: ∀ {hp:HS},ER false x (gT tm) hp ctr (fun v aG=>j5 tm o.dst v fun tm=>nA (ctr+4) fun c=>K tm aG c)=true→ ∃bg aG bC,vI P n ops i tm hp ctr bg aG bC∧K bg aG bC=true:=by
  intro hp h
  obtain⟨v,aG,hs,hK⟩:=Ds hx hd hgd hg ⟨L0,uP⟩ h
  rw[gF,dB]at hK
  exact⟨_,_,_,hs.run hi,hK⟩
 unfold EGo at h
 split at h
 · rename_i f args kF
   simp only at kF
   subst kF
   rw[kN uP]at h
   obtain⟨us,fQ,h⟩:=tw h
   obtain⟨v,aG,bC,hc,h⟩:=gV _ _ _ _ _ h
   rw[dM,gF]at h
   obtain⟨mO,wu⟩:=sw (n:=n) (hp:=hp) hx uP fQ
   exact⟨_,_,_,vw hi mO hd hgd hg wu hc,h⟩
 · rename_i y args kF
   simp only at kF
   subst kF
   have h':=h
   rw[kN uP]at h'
   obtain⟨us,fQ,h'⟩:=tw h'
   rw[←kN uP]at h'
   obtain⟨f,fg,h1,wu⟩:=qj (n:=n) (hp:=hp) hx uP fQ h'
   obtain⟨mO,h1⟩:=bt h1
   obtain⟨v,aG,bC,hc,h1⟩:=gV _ _ _ _ _ h1
   rw[dM,gF]at h1
   exact⟨_,_,_,vw hi mO hd hgd hg wu hc,h1⟩
 · rename_i op ty kF
   simp only at kF
   subst kF
   obtain⟨rfl,rfl⟩:=jL hx
   obtain⟨v,aG,h1,h2⟩:=Ho (n:=n) h
   rw[gF,dB]at h2
   exact⟨_,_,_,CJ hi hd hgd hg h1,h2⟩
 · rename_i size bytes s y kF
   simp only at kF
   subst kF
   split at h
   · rename_i id sz len hs
     split at h
     · rename_i di xs hf
       rw[cz]at h
       obtain⟨bg,aG,bC,h1,h2⟩:=plain h
       refine⟨bg,aG,bC,?_,h2⟩
       intro M A ρ a w L Q K' hL hr hk
       exact h1 M A ρ a w L Q K' hL (Rel.QO (st:=⟨n,L,hp⟩) hr hf len) hk
     · simp at h
   · exact plain h
 · rename_i size y lo hi' kF
   simp only at kF
   subst kF
   split at h
   · rename_i hy
     split at h
     · rename_i hlo hhi
       rw[gF,dB]at h
       refine⟨_,_,_,CJ hi hd hgd hg ?_,h⟩
       exact yC hx hy hlo hhi
     · simp at h
   · exact plain h
 · exact plain h
theorem xN (gV:nn P call) {n:Nat} {ops:Array Oper} {o:Oper} {i:Nat} {x:Ro} {g:Option (Nat×Bool)} {tm:Tr} {hp:HS} {ctr:Nat} {K:Tr→HS→Nat→Bool}
 (hi:ops[i]? =some o) (hx:bn P o=some x) (hd:gi n o.dst=true) (hgd:gO ops o g)
 (h:EOp false call P ⟨o.dst,g,x⟩ tm hp ctr K=true): ∃bg aG bC,vI P n ops i tm hp ctr bg aG bC∧K bg aG bC=true:=by
 unfold EOp at h
 have skip:(∃d want,g=some (d,want)∧((∃b,tm.get (key d)=some (bV b)∧(b==want)=false)∨tm.get (key d)=some (.ej [])))→(j5 tm o.dst (.ej []) fun tm=>K tm hp ctr)=true→
  ∃bg aG bC,vI P n ops i tm hp ctr bg aG bC∧K bg aG bC=true:=by
  intro hg h
  rw[gF]at h
  have hs:qp P n ops o tm hp ctr (.ej []) hp:=tH hd hgd hg
  refine⟨_,_,_,?_,h⟩
  intro M A ρ a w L Q K' hL hr hk
  have hst:=hs L hL
  unfold wpOp
  simp only[hi]
  obtain⟨d,want,rfl,hgg⟩:=hg
  have hgf:aV ops o L=some false:=by
   rcases hgd with⟨_,h0⟩|⟨j,want',d',h1,h2,h3⟩
   · simp at h0
   · simp only[Option.some.injEq,Prod.mk.injEq]at h3
     obtain⟨rfl,rfl⟩:=h3
     rcases hgg with⟨b,hb,hne⟩|hb
     · rw[←hL d]at hb
       simp only[aV,h1,h2,hb,hne]
     · rw[←hL d]at hb
       simp only[aV,h1,h2,hb]
  have:=cV hr hgf
  simp only[this,Bool.false_eq_true,if_false]
  refine hk _ _ ⟨_,A,ρ,hL.put o.dst (.ej []),?_,dc.refl _ _,cU.refl _,bJ.refl _ _⟩
  have:=hr.put (dst:=o.dst) qy (jw hd)
  rw[kx]at this
  exact this
 split at h
 · rename_i Sv
   simp only at Sv
   exact xO gV hi hx hd hgd (.inl Sv) h
 · rename_i d want IQ
   simp only at IQ
   split at h
   · rename_i b hb
     cases IV:(b==want)with
     |true=>
      rw[IV]at h
      exact xO gV hi hx hd hgd (.inr ⟨d,want,b,IQ,hb,IV⟩) h
     |false=>
      rw[IV]at h
      exact skip ⟨d,want,IQ, .inl ⟨b,hb,IV⟩⟩ h
   · rename_i hb
     exact skip ⟨d,want,IQ, .inr hb⟩ h
   · simp at h
theorem jq {ops:Array Oper} {o:Oper} {x:Ro} {l' rs:List gn}
 (eK:(match o.guard with
   |none=>some (⟨o.dst,none,x⟩::l')
   |some (j,want)=>
    match(ops[j]?).bind (·.dst)with
    |some d=>some (⟨o.dst,some (d,want),x⟩::l')
    |none=>none)=some rs): ∃g,rs=⟨o.dst,g,x⟩::l'∧gO ops o g:=by
 split at eK
 · rename_i hg
   simp only[Option.some.injEq]at eK
   exact⟨_,eK.symm, .inl ⟨hg,rfl⟩⟩
 · rename_i j want hg
   split at eK
   · rename_i d hd
     simp only[Option.some.injEq]at eK
     exact⟨_,eK.symm, .inr ⟨j,want,d,hg,hd,rfl⟩⟩
   · simp at eK
theorem vM (gV:nn P call) {n:Nat} {ops:Array Oper}: ∀ {l:List Oper} {rs:List gn} {k:Nat} {tm:Tr} {hp:HS} {ctr:Nat} {K:Tr→HS→Nat→Bool},
 (∀j,ops[k+j]? =l[j]?)→aT P ops l=some rs→(rs.all fun o=>gi n o.dst)=true→JL false call P rs tm hp ctr K=true→
 ∃bg aG bC,K bg aG bC=true∧ ∀ (M A:Nat→Prop) (ρ:Env) (a:Act) (w:World) (L:TS) (Q:Exit→Act→World→Prop),ey tm L→Rel M A ρ (bD ctr) ⟨n,L,hp⟩ a w→
  (∀a' w',At M A ρ w n bg aG bC a' w'→Q .normal a' w')→wpOps P ops Q (List.range' k l.length) a w
 | [],rs,k,tm,hp,ctr,K,hl,eK,hd,h=>by
   simp only[aT,Option.some.injEq]at eK
   subst eK
   refine⟨tm,hp,ctr,h,fun M A ρ a w L Q hL hr hq=>?_⟩
   exact hq _ _ (At.here hL hr)
 |o::l,rs,k,tm,hp,ctr,K,hl,eK,hd,h=>by
  simp only[aT]at eK
  split at eK
  · rename_i x l' hx hl'
    have hi:ops[k]? =some o:=by simpa using hl 0
    obtain⟨g,rfl,hgd⟩:=jq eK
    simp only[List.all_cons,Bool.and_eq_true]at hd
    simp only[JL]at h
    obtain⟨nH,hp1,c1,h1,h2⟩:=xN (n:=n) gV hi hx hd.1 hgd h
    obtain⟨tm2,hp2,c2,h3,h4⟩:=vM gV (k:=k+1) (fun j=>by have:=hl (j+1);rw[show k+1+j=k+(j+1) by omega,this];simp) hl' hd.2 h2
    refine⟨tm2,hp2,c2,h3,fun M A ρ a w L Q hL hr hq=>?_⟩
    rw[List.length_cons,List.range'_succ,wpOps_cons]
    refine h1 M A ρ a w L Q _ hL hr fun a' w' sQ=>?_
    obtain⟨L1,A1,ρ1,q1,q2,q3,q4,q5⟩:=sQ
    exact h4 M A1 ρ1 a' w' L1 Q q1 q2 fun a2 w2 Oh=>hq _ _ (Oh.trans q3 q4 q5)
  · simp at eK
theorem Gx {tm:Tr} {L:TS} (hL:ey tm L) (o:gn) (ctr:Nat):C4 o tm ctr=dD o L ctr:=by
 unfold C4 dD
 rw[kN hL]
theorem vN (iN:jZ P dw) {n:Nat} {ops:Array Oper} {o:Oper} {x:Ro} {g:Option (Nat×Bool)} {tm:Tr} {hp:HS} {ctr:Nat} {K:Tr→HS→Nat→Bool}
 (hx:bn P o=some x) (hd:gi n o.dst=true) (hgd:gO ops o g) (hg:g=none∨ ∃d want b,g=some (d,want)∧tm.get (key d)=some (bV b)∧(b==want)=true)
 (h:JM false dw P ⟨o.dst,g,x⟩ tm hp ctr K=true): ∃v aG,qp P n ops o tm hp ctr v aG∧K (tN tm o.dst v) aG (ctr+4)=true:=by
 obtain⟨L0,uP⟩:=Cz tm
 unfold JM at h
 split at h
 · rename_i f args kF
   simp only at kF
   subst kF
   rw[kN uP]at h
   obtain⟨us,fQ,h⟩:=tw h
   obtain⟨v,aG,hc,h⟩:=iN _ _ _ _ _ h
   rw[dM,gF,dB]at h
   obtain⟨mO,wu⟩:=sw (n:=n) (hp:=hp) hx uP fQ
   refine⟨v,aG,fun L hL=>⟨hd,?_⟩,h⟩
   rw[guard_true hL hgd hg]
   simp only[wu L hL]
   exact⟨mO,hc⟩
 · rename_i y args kF
   simp only at kF
   subst kF
   have h':=h
   rw[kN uP]at h'
   obtain⟨us,fQ,h'⟩:=tw h'
   rw[←kN uP]at h'
   obtain⟨f,fg,h1,wu⟩:=qj (n:=n) (hp:=hp) hx uP fQ h'
   obtain⟨mO,h1⟩:=bt h1
   obtain⟨v,aG,hc,h1⟩:=iN _ _ _ _ _ h1
   rw[dM,gF,dB]at h1
   refine⟨v,aG,fun L hL=>⟨hd,?_⟩,h1⟩
   rw[guard_true hL hgd hg]
   simp only[wu L hL]
   exact⟨mO,hc⟩
 · rename_i op ty kF
   simp only at kF
   subst kF
   obtain⟨rfl,rfl⟩:=jL hx
   split at h
   · rename_i v aG he
     rw[dM,gF,dB]at h
     refine⟨v,aG,fun L hL=>⟨hd,?_⟩,h⟩
     rw[guard_true hL hgd hg]
     rw[si,get_eq hL n hp]at he
     have hno:bN (St.get ⟨n,L,hp⟩) o=none:=by
      cases hc:bN (St.get ⟨n,L,hp⟩) o with
      |none=>rfl
      |some p=>
       exfalso
       exact AL hc he
     simp only[hno]
     exact he
   · simp at h
 · obtain⟨v,aG,hs,hK⟩:=Ds (n:=n) hx hd hgd hg ⟨L0,uP⟩ h
   rw[gF,dB]at hK
   exact⟨_,_,hs,hK⟩
theorem Cq (iN:jZ P dw) {n:Nat} {ops:Array Oper} {o:Oper} {x:Ro} {g:Option (Nat×Bool)} {tm:Tr} {hp:HS} {ctr:Nat} {K:Tr→HS→Nat→Bool}
 (hx:bn P o=some x) (hd:gi n o.dst=true) (hgd:gO ops o g)
 (h:PM false dw P ⟨o.dst,g,x⟩ tm hp ctr K=true): ∃v aG,qp P n ops o tm hp ctr v aG∧K (tN tm o.dst v) aG (ctr+4)=true:=by
 unfold PM at h
 have skip:(∃d want,g=some (d,want)∧((∃b,tm.get (key d)=some (bV b)∧(b==want)=false)∨tm.get (key d)=some (.ej [])))→(j5 tm o.dst (.ej []) fun tm=>nA (ctr+4) fun c=>K tm hp c)=true→
  ∃v aG,qp P n ops o tm hp ctr v aG∧K (tN tm o.dst v) aG (ctr+4)=true:=by
  intro hg h
  rw[gF,dB]at h
  exact⟨_,_,tH hd hgd hg,h⟩
 split at h
 · rename_i Sv
   simp only at Sv
   exact vN iN hx hd hgd (.inl Sv) h
 · rename_i d want IQ
   simp only at IQ
   split at h
   · rename_i b hb
     cases IV:(b==want)with
     |true=>
      rw[IV]at h
      exact vN iN hx hd hgd (.inr ⟨d,want,b,IQ,hb,IV⟩) h
     |false=>
      rw[IV]at h
      exact skip ⟨d,want,IQ, .inl ⟨b,hb,IV⟩⟩ h
   · rename_i hb
     exact skip ⟨d,want,IQ, .inr hb⟩ h
   · simp at h
theorem sB (iN:jZ P dw) {ops:Array Oper} {n base:Nat} {K:List gP→Tr→HS→Nat→Bool}: ∀ {l:List Oper} {rs:List gn} {k:Nat} {Ej:List gP} {tm:Tr} {hp:HS},aT P ops l=some rs→
 (rs.all fun o=>gi n o.dst)=true→Ej.length=k→Bc false dw P rs Ej tm hp (base+4 * k) K=true→
 ∃ (E6:Nat→Tr) (hpT:Nat→HS) (v:Nat→V) (fs:List gP),K fs (E6 (k+l.length)) (hpT (k+l.length)) (base+4 * (k+l.length))=true∧(∀i,i < k→fs[i]? =Ej[i]?)∧E6 k=tm∧hpT k=hp∧
  ∀j o,l[j]? =some o→qp P n ops o (E6 (k+j)) (hpT (k+j)) (base+4 * (k+j)) (v (k+j)) (hpT (k+j+1))∧E6 (k+j+1)=tN (E6 (k+j)) o.dst (v (k+j))∧
   ∃f,fs[k+j]? =some f∧f.dst=o.dst∧ ∀L,ey (E6 (k+j)) L→(∀t,t∈names ops o→t∈f.nm)∧(∀q,q∈iQ (St.get ⟨n,L,hpT (k+j)⟩) o→q∈f.rd)∧(∀q,q∈s8 (St.get ⟨n,L,hpT (k+j)⟩) (base+4 * (k+j)) o→q∈f.wr)
 | [],rs,k,Ej,tm,hp,eK,hd,hk,h=>by
   simp only[aT,Option.some.injEq]at eK
   subst eK
   exact⟨fun _=>tm,fun _=>hp,fun _=> .undef,Ej,by simpa[Bc]using h,fun _ _=>rfl,rfl,rfl,fun j o hj=>by simp at hj⟩
 |o::l,rs,k,Ej,tm,hp,eK,hd,hk,h=>by
  simp only[aT]at eK
  split at eK
  · rename_i x l' hx hl'
    obtain⟨g,rfl,hgd⟩:=jq eK
    simp only[List.all_cons,Bool.and_eq_true]at hd
    simp only[Bc]at h
    obtain⟨v0,aG,hst,hK⟩:=Cq (n:=n) (ops:=ops) iN hx hd.1 hgd h
    rw[show base+4 * k+4=base+4 * (k+1) by omega]at hK
    obtain⟨E6,hpT,v,fs,q1,q2,q3,q4,q5⟩:=sB iN (k:=k+1) hl' hd.2 (by simp[hk]) hK
    have Aw:fs[k]? =some (C4 ⟨o.dst,g,x⟩ tm (base+4 * k)):=by
     rw[q2 k (by omega),List.getElem?_append_right (by omega),hk];simp
    refine⟨fun i=>if i=k then tm else E6 i,fun i=>if i=k then hp else hpT i,fun i=>if i=k then v0 else v i,fs,?_,?_,?_,?_,?_⟩
    · have e1:k+(o::l).length=k+1+l.length:=by simp;omega
      have e2:¬k+1+l.length=k:=by omega
      simp only[e1,e2,if_false]
      exact q1
    · intro i hi'
      rw[q2 i (by omega),List.getElem?_append_left (by omega)]
    · simp
    · simp
    · intro j oj hj
      cases j with
      |zero=>
       simp only[List.getElem?_cons_zero,Option.some.injEq]at hj
       subst hj
       have e2:¬k+1=k:=by omega
       simp only[Nat.add_zero,if_true,e2,if_false,q4,q3]
       refine⟨hst,trivial,_,Aw,rfl,fun L hL=>?_⟩
       have F8:=xz (ops:=ops) (n:=n) (ctr:=base+4 * k) (tm:=L) (hp:=hp) hx hgd
       rw[Gx hL]
       exact F8.2
      |succ j=>
       have:=q5 j oj (by simpa using hj)
       have e1:¬k+(j+1)=k:=by omega
       have e2:¬k+(j+1)+1=k:=by omega
       simp only[e1,e2,if_false]
       rw[show k+(j+1)=k+1+j by omega]
       exact this
  · simp at eK
theorem jm {all:Array Oper}: ∀ {l:List Oper} {rs:List gn},aT P all l=some rs→rs.length=l.length
 | [],rs,h=>by simp only[aT,Option.some.injEq]at h;subst h;rfl
 |o::l,rs,h=>by
  simp only[aT]at h
  split at h
  · rename_i x l' hx hl'
    obtain⟨g,rfl,_⟩:=jq h
    simp[jm hl']
  · simp at h
theorem nX (bits:List Nat) (N:Nat): ∀ (j:Nat) (rs:List gn),rs=(cq bits N j rs).1++(cq bits N j rs).2∧
 (∀o r,(cq bits N j rs).2=o::r→Aj bits N (j+(cq bits N j rs).1.length)=true)
 |j,[]=>⟨rfl,fun o r h=>by simp[cq]at h⟩
 |j,x::q=>by
  obtain⟨h1,h2⟩:=nX bits N (j+1) q
  cases hp:Aj bits N j with
  |true=>
   have e:cq bits N j (x::q)=([],x::q):=by simp only[cq,hp,fU]
   rw[e]
   exact⟨rfl,fun o r _=>by simpa using hp⟩
  |false=>
   have e:cq bits N j (x::q)=(x::(cq bits N (j+1) q).1,(cq bits N (j+1) q).2):=by simp only[cq,hp,fU]
   rw[e]
   refine⟨by simp only[List.cons_append, ←h1],fun o r h=>?_⟩
   have:=h2 o r h
   rw[show j+(x::(cq bits N (j+1) q).1).length=j+1+(cq bits N (j+1) q).1.length by simp;omega]
   exact this
theorem jM {all:Array Oper}: ∀ {a b:List gn} {l:List Oper},aT P all l=some (a++b)→ ∃l1 l2,l=l1++l2∧aT P all l1=some a∧aT P all l2=some b∧l1.length=a.length
 | [],b,l,h=>⟨[],l,rfl,rfl,h,rfl⟩
 |x::a,b,[],h=>by simp[aT]at h
 |x::a,b,o::l,h=>by
  simp only[aT]at h
  split at h
  · rename_i y l' hy hl'
    have SA: ∃g,(⟨o.dst,g,y⟩:gn)=x∧l'=a++b∧ ∀l'',(match o.guard with
     |none=>some ((⟨o.dst,none,y⟩:gn)::l'')
     |some (j,want)=>match(all[j]?).bind (·.dst)with
      |some d=>some ((⟨o.dst,some (d,want),y⟩:gn)::l'')
      |none=>none)=some ((⟨o.dst,g,y⟩:gn)::l''):=by
     split at h
     · rename_i hg
       simp only[List.cons_append,Option.some.injEq,List.cons.injEq]at h
       exact⟨none,h.1,h.2,fun l''=>by simp only[hg]⟩
     · rename_i j want hg
       split at h
       · rename_i d hd
         simp only[List.cons_append,Option.some.injEq,List.cons.injEq]at h
         exact⟨some (d,want),h.1,h.2,fun l''=>by simp only[hg,hd]⟩
       · simp at h
    obtain⟨g,rfl,rfl,hg⟩:=SA
    obtain⟨l1,l2,rfl,h1,h2,h3⟩:=jM hl'
    exact⟨o::l1,l2,rfl,by simp only[aT,hy,h1];exact hg a,h2,by simp[h3]⟩
  · simp at h
theorem qn {p:Nat→Bool} {n:Nat} (h:(List.range n).all p=true) {i:Nat} (hi:i < n):p i=true:=List.all_eq_true.1 h i (List.mem_range.2 hi)
theorem BL {bits:List Nat} {N j:Nat} (h:Aj bits N j=true):(∀i,i < j→(bits.getD j 0).testBit i=true)∧ ∀k,j < k→k < N→(bits.getD k 0).testBit j=true:=by
 simp only[Aj,Bool.and_eq_true]at h
 refine⟨fun i hi=>qn h.1 hi,fun k h1 h2=>?_⟩
 have:=qn h.2 (i:=k - (j+1)) (by omega)
 rw[show j+1+(k - (j+1))=k by omega]at this
 exact this
theorem zz (gV:nn P call) (iN:jZ P dw) {n:Nat} {ops:Array Oper} (hE: ∀i o,ops[i]? =some o→ ∀e,e∈bf o→e < i): ∀ {f lo:Nat} {l:List Oper} {rs:List gn} {tm:Tr} {hp:HS} {ctr:Nat} {K:Tr→HS→Nat→Bool},
 (∀j,ops[lo+j]? =l[j]?)→lo+l.length=ops.size→aT P ops l=some rs→(rs.all fun o=>gi n o.dst)=true→vO false call dw P (kg (ops.toList.map bf) []) ops.size f lo rs tm hp ctr K=true→
 ∃bg aG bC,K bg aG bC=true∧ ∀ (M A:Nat→Prop) (ρ:Env) (a:Act) (w:World) (L:TS) (Q:Exit→Act→World→Prop),ey tm L→Rel M A ρ (bD ctr) ⟨n,L,hp⟩ a w→
  (∀a' w',At M A ρ w n bg aG bC a' w'→Q .normal a' w')→ ∀ (fuel:Nat) (listed:Array Bool),listed.size=ops.size→(∀i,i < ops.size→listed.getD i false=decide (i < lo))→ops.size - lo≤fuel→wpAny P .any ops Q fuel listed a w:=by
 intro f
 induction f with
 |zero=>intro lo l rs tm hp ctr K _ _ _ _ h;simp[vO]at h
 |succ f ih=>
  intro lo l rs tm hp ctr K hl hlen eK hd h
  simp only[vO]at h
  obtain⟨hsp,F3⟩:=nX (kg (ops.toList.map bf) []) ops.size lo rs
  revert h
  generalize (cq (kg (ops.toList.map bf) []) ops.size lo rs).1=dy at hsp F3
  generalize (cq (kg (ops.toList.map bf) []) ops.size lo rs).2=rest at hsp F3
  intro h
  subst hsp
  obtain⟨l1,l2,rfl,rR,uE,P3⟩:=jM eK
  simp only[List.all_append,Bool.and_eq_true]at hd
  obtain⟨E6,hpT,v,fs,q1,_,q3,q4,q5⟩:=sB (P:=P) iN (ops:=ops) (n:=n) (base:=ctr) (k:=0) (l:=l1) rR hd.1 rfl (by simpa using h)
  obtain⟨qc,q1⟩:=bt q1
  simp only[Bool.and_eq_true]at qc
  obtain⟨qs,ql⟩:=qc
  simp only[Nat.zero_add]at q1 q5
  have hlm:lo+l1.length≤ops.size:=by rw[←hlen];simp
  have hop: ∀i,i < l1.length→ops[lo+i]? =l1[i]? :=fun i hi=>by rw[hl i,List.getElem?_append_left hi]
  have BR: ∀k,lo+l1.length≤k→k < ops.size→ ∀i,i < l1.length→((kg (ops.toList.map bf) []).getD k 0).testBit (lo+i)=true:=by
   intro k hk hk' i hi
   unfold CP at ql
   rw[←P3]at ql
   have:=qn (qn ql (i:=k - (lo+l1.length)) (by omega)) hi
   rw[show lo+l1.length+(k - (lo+l1.length))=k by omega]at this
   exact this
  have CD: ∀ (M A:Nat→Prop) (ρ:Env) (a:Act) (w:World) (L:TS) (Q:Exit→Act→World→Prop),ey tm L→Rel M A ρ (bD ctr) ⟨n,L,hp⟩ a w→
   (∀ (fuel:Nat) (listed:Array Bool) (a':Act) (w':World),listed.size=ops.size→(∀i,i < ops.size→listed.getD i false=decide (i < lo+l1.length))→ops.size - (lo+l1.length)≤fuel→
     At M A ρ w n (E6 l1.length) (hpT l1.length) (ctr+4 * l1.length) a' w'→wpAny P .any ops Q fuel listed a' w')→
   ∀ (fuel:Nat) (listed:Array Bool),listed.size=ops.size→(∀i,i < ops.size→listed.getD i false=decide (i < lo))→ops.size - lo≤fuel→wpAny P .any ops Q fuel listed a w:=by
   intro M A ρ a w L Q hL cF F5
   rw[←q3]at hL
   let Ls:Nat→TS:=fun i=>Nat.rec L (fun i l=>eE l ((l1[i]?).bind (·.dst)) (v i)) i
   have hLs: ∀i,i≤l1.length→ey (E6 i) (Ls i):=by
    intro i
    induction i with
    |zero=>intro _;exact hL
    |succ i ihi=>
     intro hi
     have ho:l1[i]? =some l1[i]:=by simp[show i < l1.length by omega]
     have:=(q5 i l1[i] ho).2.1
     rw[this]
     have h2:=(ihi (by omega)).put (l1[i].dst) (v i)
     have e:Ls (i+1)=eE (Ls i) l1[i].dst (v i):=by
      show eE (Ls i) ((l1[i]?).bind (·.dst)) (v i)=_
      rw[ho];rfl
     rw[e]
     exact h2
   have Aq:Rel M A ρ (bD ctr) ⟨n,Ls 0,hpT 0⟩ a w:=by rw[q4];exact cF
   refine DC (v:=v) (tmT:=Ls) (hpT:=hpT) (base:=ctr) (fs:=fs) hlm (fun i o hi ho=>?_) hE qs BR Aq ?_
   · rw[hop i hi]at ho
     obtain⟨s1,s2,f,f1,f2,f3⟩:=q5 i o ho
     refine⟨s1 _ (hLs i (by omega)),fun t=>?_,f,f1,f2,f3 _ (hLs i (by omega))⟩
     show find (eE (Ls i) ((l1[i]?).bind (·.dst)) (v i)) t=_
     rw[ho];rfl
   · rintro fuel listed a' w' hsz o3 ES ⟨st',c',A',ρ',⟨rfl,rfl⟩,h2,h3,h4,h5⟩
     exact F5 fuel listed a' w' hsz o3 ES ⟨_,A',ρ',hLs _ (Nat.le_refl _),h2,h3,h4,h5⟩
  cases rest with
  |nil=>
   simp only at q1
   have rT:l2=[]:=by
    cases l2 with
    |nil=>rfl
    |cons o r=>have:=jm uE;simp at this
   subst rT
   simp only[List.append_nil]at hlen
   refine⟨_,_,_,q1,fun M A ρ a w L Q hL cF hQ fuel listed hsz o3 ES=>CD M A ρ a w L Q hL cF (fun fuel listed a' w' hsz o3 ES sQ=>?_) fuel listed hsz o3 ES⟩
   have hq:=hQ a' w' sQ
   have As:Region.ready .any ops listed=[]:=by
    apply List.eq_nil_iff_forall_not_mem.2
    intro i hi
    rw[mem_ready]at hi
    obtain⟨h0,o,ho,_⟩:=hi
    have hlt:i < ops.size:=(Array.getElem?_eq_some_iff.1 ho).1
    have:=o3 i hlt
    simp only[Array.getD_eq_getD_getElem?]at this h0
    have jD:i < listed.size:=by omega
    simp[jD]at this h0
    simp[this]at h0
    omega
   cases fuel with
   |zero=>exact⟨As,hq⟩
   |succ fuel=>exact⟨fun _=>hq,fun i hi=>by rw[As]at hi;simp at hi⟩
  |cons p r=>
   simp only at q1
   cases l2 with
   |nil=>simp[aT]at uE
   |cons o l2=>
    simp only[aT]at uE
    split at uE
    · rename_i x l' hx hl'
      obtain⟨g,hpg,hgd⟩:=jq uE
      simp only[List.cons.injEq]at hpg
      obtain⟨rfl,rfl⟩:=hpg
      simp only[List.all_cons,Bool.and_eq_true]at hd
      have hi:ops[lo+l1.length]? =some o:=by rw[hl l1.length,List.getElem?_append_right (Nat.le_refl _)];simp
      obtain⟨nH,hp1,c1,r1,r2⟩:=xN (n:=n) gV hi hx hd.2.1 hgd q1
      rw[←P3]at r2
      obtain⟨tm2,hp2,c2,r3,r4⟩:=ih (lo:=lo+l1.length+1) (l:=l2) (fun j=>by
       rw[show lo+l1.length+1+j=lo+(l1.length+(j+1)) by omega,hl,List.getElem?_append_right (by omega)]
       rw[show l1.length+(j+1) - l1.length=j+1 by omega]
       simp) (by rw[←hlen];simp;omega) hl' hd.2.2 r2
      have Sd:=BL (F3 _ _ rfl)
      rw[←P3]at Sd
      refine⟨tm2,hp2,c2,r3,fun M A ρ a w L Q hL cF hQ fuel listed hsz o3 ES=>CD M A ρ a w L Q hL cF (fun fuel listed a' w' hsz o3 ES sQ=>?_) fuel listed hsz o3 ES⟩
      have hps:lo+l1.length < ops.size:=(Array.getElem?_eq_some_iff.1 hi).1
      obtain⟨fuel,rfl⟩: ∃f,fuel=f+1:=⟨fuel - 1,by omega⟩
      obtain⟨L1,A1,ρ1,t1,t2,t3,t4,t5⟩:=sQ
      have hclosed: ∀k o',ops[k]? =some o'→listed.getD k false=true→ ∀e,e∈bf o'→listed.getD e false=true:=by
       intro k o' vP hk e he
       have hks:k < ops.size:=(Array.getElem?_eq_some_iff.1 vP).1
       rw[o3 k hks]at hk
       have:=hE k o' vP e he
       rw[o3 e (by omega)]
       simp at hk⊢
       omega
      refine⟨fun As=>?_,fun i hir=>?_⟩
      · exfalso
        have:lo+l1.length∈Region.ready .any ops listed:=by
         rw[mem_ready]
         refine⟨?_,o,hi,fun e he hb=>?_⟩
         · have:=o3 _ hps
           simp only[Array.getD_eq_getD_getElem?]at this⊢
           have jD:lo+l1.length < listed.size:=by omega
           simp[jD]at this⊢
           exact this
         · have hm:e.on∈bf o:=by simp only[bf,List.mem_map,List.mem_filter];exact⟨e,⟨by simpa using he,hb⟩,rfl⟩
           have:=hE _ o hi _ hm
           rw[o3 e.on (by omega)]
           simp
           omega
        rw[As]at this
        simp at this
      · rw[mem_ready]at hir
        obtain⟨h0,oi,hoi,uM⟩:=hir
        have his:i < ops.size:=(Array.getElem?_eq_some_iff.1 hoi).1
        have Eh:listed.getD i false=false:=by
         simp only[Array.getD_eq_getD_getElem?]at h0⊢
         have jD:i < listed.size:=by omega
         simpa[jD]using h0
        have hge:lo+l1.length≤i:=by
         rw[o3 i his]at Eh
         simp at Eh
         omega
        have hip:i=lo+l1.length:=by
         rcases Nat.eq_or_lt_of_le hge with h|h
         · exact h.symm
         · exfalso
           have hb:=Sd.2 i h his
           have SN: ∀ (i:Nat) (es:List Nat),(ops.toList.map bf)[i]? =some es→ ∀e,e∈es→e < i:=by
            intro i es h e he
            simp only[List.getElem?_map,Array.getElem?_toList,Option.map_eq_some_iff]at h
            obtain⟨o,ho,rfl⟩:=h
            exact hE i o ho e he
           have:=(o7 (L:=fun k=>listed.getD k false) SN i (by simpa using his) (fun k es _ Eg jB e he=>by
            simp only[List.getElem?_map,Array.getElem?_toList,Option.map_eq_some_iff]at jB
            obtain⟨o,ho,rfl⟩:=jB
            exact hclosed k o ho Eg e he) (fun es jB e he=>by
            simp only[List.getElem?_map,Array.getElem?_toList,Option.map_eq_some_iff]at jB
            obtain⟨o',vP,rfl⟩:=jB
            rw[hoi]at vP
            simp only[Option.some.injEq]at vP
            subst vP
            simp only[bf,List.mem_map,List.mem_filter]at he
            obtain⟨ed,⟨g1,g2⟩,rfl⟩:=he
            exact uM ed (by simpa using g1) g2) _ hb).1
           rw[o3 _ hps]at this
           simp at this
        subst hip
        refine r1 M A1 ρ1 a' w' L1 Q _ t1 t2 fun a2 w2 Oh=>?_
        obtain⟨L2,A2,ρ2,u1,u2,u3,u4,u5⟩:=Oh
        refine r4 M A2 ρ2 a2 w2 L2 Q u1 u2 (fun a3 w3 aoK=>hQ a3 w3 ((aoK.trans u3 u4 u5).trans t3 t4 t5)) fuel _ (by simpa using hsz) (fun k hk=>?_) (by omega)
        by_cases hk':k=lo+l1.length
        · subst hk'
          have jD:lo+l1.length < listed.size:=by omega
          simp[Array.getD_eq_getD_getElem?,jD]
        · have:=getD_set_ne (listed:=listed) false (fun e:lo+l1.length=k=>hk' e.symm)
          rw[this,o3 k hk]
          simp only[decide_eq_decide]
          omega
    · simp at uE
theorem Dq (gV:nn P call) (iN:jZ P dw) {n fuel:Nat}: ∀ {c:Code} {r:Rc},ae P c=some r→fS n r=true→ ∀ {Q:Exit→Tr→HS→Nat→Bool} {tm:Tr} {hp:HS} {ctr:Nat},E false call dw P fuel r Q tm hp ctr=true→
 ∃e bg aG bC,Q e bg aG bC=true∧Qo P n c tm hp ctr e bg aG bC:=by
 intro c
 induction c with
 |skip=>
  intro r hr hd Q tm hp ctr h
  simp only[ae,Option.some.injEq]at hr
  subst hr
  exact⟨_,_,_,_,h,fun M A ρ a w L hL cF=>wp_skip ⟨rfl,At.here hL cF⟩⟩
 |ret=>
  intro r hr hd Q tm hp ctr h
  simp only[ae,Option.some.injEq]at hr
  subst hr
  exact⟨_,_,_,_,h,fun M A ρ a w L hL cF=>wp_ret ⟨rfl,At.here hL cF⟩⟩
 |exit id=>
  intro r hr hd Q tm hp ctr h
  simp only[ae,Option.some.injEq]at hr
  subst hr
  exact⟨_,_,_,_,h,fun M A ρ a w L hL cF=>wp_exit ⟨rfl,At.here hL cF⟩⟩
 |seq x y FT FR=>
  intro r hr hd Q tm hp ctr h
  simp only[ae]at hr
  split at hr
  · rename_i rx ry hx hy
    simp only[Option.some.injEq]at hr
    subst hr
    simp only[fS,Bool.and_eq_true]at hd
    simp only[E]at h
    obtain⟨e1,nH,hp1,c1,h1,h2⟩:=FT hx hd.1 h
    cases e1 with
    |normal=>
     obtain⟨e2,tm2,hp2,c2,h3,h4⟩:=FR hy hd.2 h1
     refine⟨e2,tm2,hp2,c2,h3,fun M A ρ a w L hL cF=>wp_seq (wp_mono (h2 M A ρ a w L hL cF) ?_)⟩
     rintro e a' w' ⟨rfl,L1,A1,ρ1,q1,q2,q3,q4,q5⟩
     exact wp_mono (h4 M A1 ρ1 a' w' L1 q1 q2) fun e a2 w2 ⟨he,sQ⟩=>⟨he,sQ.trans q3 q4 q5⟩
    |_=>
     refine⟨_,nH,hp1,c1,h1,fun M A ρ a w L hL cF=>wp_seq (wp_mono (h2 M A ρ a w L hL cF) ?_)⟩
     rintro e a' w' ⟨rfl,sQ⟩
     exact⟨rfl,sQ⟩
  · simp at hr
 |cond c x y FT FR=>
  intro r hr hd Q tm hp ctr h
  simp only[ae]at hr
  split at hr
  · rename_i rx ry hx hy
    simp only[Option.some.injEq]at hr
    subst hr
    simp only[fS,Bool.and_eq_true]at hd
    simp only[E]at h
    split at h
    · rename_i b hb
      have hb': ∀L,ey tm L→((⟨n,L,hp⟩:St).get c).gk =some b:=fun L hL=>by
       rw[←bk]
       rw[kN hL]at hb
       exact hb
      cases b with
      |true=>
       obtain⟨e1,nH,hp1,c1,h1,h2⟩:=FT hx hd.1 h
       exact⟨e1,nH,hp1,c1,h1,fun M A ρ a w L hL cF=>wp_cond (V.lM (hb' L hL) (cF.get c)) (h2 M A ρ a w L hL cF)⟩
      |false=>
       obtain⟨e1,nH,hp1,c1,h1,h2⟩:=FR hy hd.2 h
       exact⟨e1,nH,hp1,c1,h1,fun M A ρ a w L hL cF=>wp_cond (V.lM (hb' L hL) (cF.get c)) (h2 M A ρ a w L hL cF)⟩
    · simp at h
  · simp at hr
 |block id b ih=>
  intro r hr hd Q tm hp ctr h
  simp only[ae]at hr
  split at hr
  · rename_i rb hb
    simp only[Option.some.injEq]at hr
    subst hr
    simp only[fS]at hd
    simp only[E]at h
    obtain⟨e1,nH,hp1,c1,h1,h2⟩:=ih hb hd h
    cases e1 with
    |exit id'=>
     simp only[GR]at h1
     cases bL:Nat.beq id' id with
     |true=>
      rw[bL]at h1
      have IM:id'=id:=by simpa using bL
      refine⟨_,nH,hp1,c1,h1,fun M A ρ a w L hL cF=>wp_block (wp_mono (h2 M A ρ a w L hL cF) ?_)⟩
      rintro e a' w' ⟨rfl,sQ⟩
      simp only[Exit.inBlock,IM,if_true]
      exact⟨trivial,sQ⟩
     |false=>
      rw[bL]at h1
      have IM:¬id'=id:=by
       intro h;subst h;simp at bL
      refine⟨_,nH,hp1,c1,h1,fun M A ρ a w L hL cF=>wp_block (wp_mono (h2 M A ρ a w L hL cF) ?_)⟩
      rintro e a' w' ⟨rfl,sQ⟩
      simp only[Exit.inBlock,IM,if_false]
      exact⟨trivial,sQ⟩
    |_=>
     refine⟨_,nH,hp1,c1,h1,fun M A ρ a w L hL cF=>wp_block (wp_mono (h2 M A ρ a w L hL cF) ?_)⟩
     rintro e a' w' ⟨rfl,sQ⟩
     exact⟨rfl,sQ⟩
  · simp at hr
 |loop b ih=>
  intro r hr hd Q tm hp ctr h
  simp only[ae]at hr
  split at hr
  · rename_i rb hb
    simp only[Option.some.injEq]at hr
    subst hr
    simp only[fS]at hd
    simp only[E]at h
    have key: ∀ (k:Nat) (tm:Tr) (hp:HS) (ctr:Nat),AP false (fun self=>E false call dw P fuel rb (GD self Q)) k tm hp ctr=true→
     ∃e bg aG bC,Q e bg aG bC=true∧ ∀ (M A:Nat→Prop) (ρ:Env) (a:Act) (w:World) (L:TS) (b':Frame) (kk:List _) (cs:List _),ey tm L→Rel M A ρ (bD ctr) ⟨n,L,hp⟩ a w→
      ∃a' w',At M A ρ w n bg aG bC a' w'∧Arrives P (lone (b'.at a (.code b:: .inLoop b::kk)) cs w) b' kk cs e a' w':=by
     intro k
     induction k with
     |zero=>intro tm hp ctr h;simp[AP]at h
     |succ k ihk=>
      intro tm hp ctr h
      simp only[AP]at h
      obtain⟨e1,nH,hp1,c1,h1,h2⟩:=ih hb hd h
      cases e1 with
      |normal=>
       obtain⟨e2,tm2,hp2,c2,h3,h4⟩:=ihk nH hp1 c1 h1
       refine⟨e2,tm2,hp2,c2,h3,fun M A ρ a w L b' kk cs hL cF=>?_⟩
       obtain⟨e,a1,w1,⟨rfl,L1,A1,ρ1,q1,q2,q3,q4,q5⟩,jF⟩:=h2 M A ρ a w L hL cF b' (.inLoop b::kk) cs
       obtain⟨a2,w2,sQ,AB⟩:=h4 M A1 ρ1 a1 w1 L1 b' kk cs q1 q2
       exact⟨a2,w2,sQ.trans q3 q4 q5, .of_steps (Steps.trans jF (.one step_inLoop)) AB⟩
      |_=>
       refine⟨_,nH,hp1,c1,h1,fun M A ρ a w L b' kk cs hL cF=>?_⟩
       obtain⟨e,a1,w1,⟨rfl,sQ⟩,jF⟩:=h2 M A ρ a w L hL cF b' (.inLoop b::kk) cs
       exact⟨a1,w1,sQ, .pass (x:= .inLoop b) rfl (fun _ _=> .inl (by simp)) jF⟩
    obtain⟨e,bg,aG,bC,h1,h2⟩:=key fuel tm hp ctr h
    refine⟨e,bg,aG,bC,h1,fun M A ρ a w L hL cF b' kk cs=>?_⟩
    obtain⟨a',w',sQ,jF⟩:=h2 M A ρ a w L b' kk cs hL cF
    exact⟨e,a',w',⟨rfl,sQ⟩, .of_steps (.one step_loop) jF⟩
  · simp at hr
 |region id ops d=>
  intro r hr hd Q tm hp ctr h
  cases d with
  |true=>
   simp only[ae]at hr
   split at hr
   · rename_i l hl
     split at hr
     · rename_i hc
       simp only[Bool.and_eq_true]at hc
       simp only[Option.some.injEq]at hr
       subst hr
       simp only[fS]at hd
       simp only[E]at h
       have hE: ∀i o,ops[i]? =some o→ ∀e,e∈bf o→e < i:=by
        intro i o ho e he
        have:=iY hc.2 i (bf o) (by simp[ho]) e he
        omega
       have P3:=jm hl
       rw[P3]at h
       obtain⟨bg,aG,bC,h1,h2⟩:=zz gV iN (n:=n) hE (lo:=0) (l:=ops.toList) (fun j=>by simp) (by simp) hl hd (by simpa using h)
       refine⟨_,_,_,_,h1,fun M A ρ a w L hL cF=>wp_region_any hc.1 ?_⟩
       refine h2 M A ρ a _ L _ hL cF.drew (fun a' w' sQ=>?_) ops.size _ (by simp) (fun i hi=>by simp[hi]) (by omega)
       exact⟨rfl,sQ.trans (dc.drew M w) (cU.refl _) (bJ.refl _ _)⟩
     · simp at hr
   · simp at hr
  |false=>
   simp only[ae]at hr
   split at hr
   · rename_i l hl
     simp only[Option.some.injEq]at hr
     subst hr
     simp only[fS]at hd
     simp only[E]at h
     obtain⟨bg,aG,bC,h1,h2⟩:=vM gV (n:=n) (ops:=ops) (k:=0) (l:=ops.toList) (fun j=>by simp) hl hd h
     refine⟨_,_,_,_,h1,fun M A ρ a w L hL cF=>wp_region ?_⟩
     have:=h2 M A ρ a w L (fun e2 a' w'=>e2= .normal∧At M A ρ w n bg aG bC a' w') hL cF (fun _ _ sQ=>⟨rfl,sQ⟩)
     rw[List.range_eq_range']
     simpa using this
   · simp at hr
 |_=>intro r hr;simp[ae]at hr
end Go.aR
end
section
namespace Go.aR
open Go
inductive Rv where
 |tmp (t:Nat)
 |cell (t:Nat) (n:Option Nat)
def eS (P:Program):List ResultVar→Option (List Rv)
 | []=>some []
 | .tmp t::r=>match eS P r with
   |some l=>some (.tmp t::l)
   |none=>none
 | .cell t ty::r=>match Fb P ty,eS P r with
   |some n,some l=>some (.cell t n::l)
   |_,_=>none
section
variable {α:Type} (bad:α)
def tV (tm:Tr) (hp:HS):List Rv→(List W→α)→α
 | [],k=>k []
 | .tmp t::r,k=>match tm.get (key t)with
   |some (.w u)=>tV tm hp r fun us=>k (u::us)
   |_=>bad
 | .cell t n::r,k=>match tm.get (key t)with
   |some (.w (.one c))=>zc bad hp c fun cs j=>zW bad n cs j fun v=>match v with
    | .w u=>tV tm hp r fun us=>k (u::us)
    |_=>bad
   |_=>bad
def oc {β γ:Type} (f:β→(γ→α)→α):List β→(List γ→α)→α
 | [],k=>k []
 |x::r,k=>f x fun y=>oc f r fun l=>k (y::l)
def jG:Nat→HS→C→(T→α)→α
 |_,_, .t x,k=>k x
 |0,_,_,_=>bad
 |d+1,hp, .own id sz i len,k=>match find hp id with
  |some (.row sz' xs)=>fU (Nat.beq sz' sz&&Nat.ble (i+len) xs.length) (oc (oc (jG d hp)) ((xs.drop i).take len) fun ts=>k (.aD sz ts)) bad
  |_=>bad
 |_+1,_,_,_=>bad
def Gk (hp:HS):W→(W→α)→α
 | .one c,k=>jG bad 6 hp c fun t=>k (.one (.t t))
 | .agg cs,k=>oc (jG bad 6 hp) cs fun ts=>k (.agg (ts.map .t))
end
def bM {β γ:Type} (f:β→Option γ):List β→Option (List γ)
 | []=>some []
 |x::r=>match f x,bM f r with
  |some y,some l=>some (y::l)
  |_,_=>none
def dh:Nat→HS→C→Option T
 |_,_, .t x=>some x
 |0,_,_=>none
 |d+1,hp, .own id sz i len=>match find hp id with
  |some (.row sz' xs)=>if sz'=sz∧i+len≤xs.length then(bM (bM (dh d hp)) ((xs.drop i).take len)).map (.aD sz)else none
  |_=>none
 |_+1,_,_=>none
theorem kD {β γ:Type} {f:β→(γ→Bool)→Bool} {g:β→Option γ} (hf: ∀x k,f x k=true→ ∃y,g x=some y∧k y=true): ∀ {l:List β} {k:List γ→Bool},oc f l k=true→ ∃l',bM g l=some l'∧k l'=true
 | [],k,h=>⟨[],rfl,h⟩
 |x::r,k,h=>by
  simp only[oc]at h
  obtain⟨y,h1,h2⟩:=hf _ _ h
  obtain⟨l',h3,h4⟩:=kD hf h2
  exact⟨_,by simp only[bM,h1,h3],h4⟩
theorem yU: ∀ {d:Nat} {hp:HS} {c:C} {k:T→Bool},jG false d hp c k=true→ ∃t,dh d hp c=some t∧k t=true
 |d,hp, .t x,k,h=>⟨x,by cases d<;>rfl,by cases d<;>exact h⟩
 |0,hp, .own ..,k,h=>by simp[jG]at h
 |0,hp, .ptr ..,k,h=>by simp[jG]at h
 |0,hp, .rG ..,k,h=>by simp[jG]at h
 |0,hp, .jy ..,k,h=>by simp[jG]at h
 |0,hp, .any,k,h=>by simp[jG]at h
 |0,hp, .map _,k,h=>by simp[jG]at h
 |0,hp, .it _,k,h=>by simp[jG]at h
 |0,hp, .kR ..,k,h=>by simp[jG]at h
 |0,hp, .pk ..,k,h=>by simp[jG]at h
 |d+1,hp, .own id sz i len,k,h=>by
  simp only[jG]at h
  split at h
  · rename_i sz' xs hf
    obtain⟨hc,h⟩:=bt h
    simp only[Bool.and_eq_true,Nat.beq_eq,Nat.ble_eq]at hc
    obtain⟨ts,h1,h2⟩:=kD (fun x k h=>kD (fun y k h=>yU h) h) h
    exact⟨_,by simp only[dh,hf,if_pos hc,h1,Option.map_some],h2⟩
  · simp at h
 |d+1,hp, .ptr ..,k,h=>by simp[jG]at h
 |d+1,hp, .rG ..,k,h=>by simp[jG]at h
 |d+1,hp, .jy ..,k,h=>by simp[jG]at h
 |d+1,hp, .any,k,h=>by simp[jG]at h
 |d+1,hp, .map _,k,h=>by simp[jG]at h
 |d+1,hp, .it _,k,h=>by simp[jG]at h
 |d+1,hp, .kR ..,k,h=>by simp[jG]at h
 |d+1,hp, .pk ..,k,h=>by simp[jG]at h
theorem iz {β γ:Type} {g:β→Option γ}: ∀ {l:List β} {l':List γ},bM g l=some l'→l'.length=l.length
 | [],l',h=>by simp only[bM,Option.some.injEq]at h;subst h;rfl
 |x::r,l',h=>by
  simp only[bM]at h
  split at h
  · rename_i y l2 h1 h2
    simp only[Option.some.injEq]at h
    subst h
    simp[iz h2]
  · simp at h
theorem eW {β γ:Type} {g:β→Option γ}: ∀ {l:List β} {l':List γ},bM g l=some l'→ ∀ (i:Nat) (y:γ),l'[i]? =some y→ ∃x,l[i]? =some x∧g x=some y
 | [],l',h,i,y,hy=>by simp only[bM,Option.some.injEq]at h;subst h;simp at hy
 |x::r,l',h,i,y,hy=>by
  simp only[bM]at h
  split at h
  · rename_i y' l2 h1 h2
    simp only[Option.some.injEq]at h
    subst h
    cases i with
    |zero=>simp only[List.getElem?_cons_zero,Option.some.injEq]at hy;subst hy;exact⟨x,by simp,h1⟩
    |succ i=>obtain⟨x',h3,h4⟩:=eW h2 i y (by simpa using hy);exact⟨x',by simpa using h3,h4⟩
  · simp at h
variable {P:Program} {M A:Nat→Prop} {ρ:Env} {F:Nat→Prop} {st:St} {a:Act} {w:World}
theorem qS (h:Rel M A ρ F st a w) {B:Nat→Prop} (SO: ∀b,B b→A b) (hB: ∀id blk b,find st.heap id=some blk→ρ id=some (.fN b)→¬B b):
 ∀ {d:Nat} {c:C} {t:T} {x:Value},dh d st.heap c=some t→RC w A ρ c x→RT w B t x
 |d, .t y,t,x,hf,hr=>by
  have:t=y:=by cases d<;>simpa[dh]using hf.symm
  subst this
  exact RT.keeps (w:=w) ⟨Nat.le_refl _,fun b _ hn=>⟨rfl,fun hb=>hn (SO b hb)⟩⟩ hr
 |0, .own ..,t,x,hf,hr=>by simp[dh]at hf
 |0, .ptr ..,t,x,hf,hr=>by simp[dh]at hf
 |0, .rG ..,t,x,hf,hr=>by simp[dh]at hf
 |0, .jy ..,t,x,hf,hr=>by simp[dh]at hf
 |0, .any,t,x,hf,hr=>by simp[dh]at hf
 |0, .map _,t,x,hf,hr=>by simp[dh]at hf
 |0, .it _,t,x,hf,hr=>by simp[dh]at hf
 |0, .kR ..,t,x,hf,hr=>by simp[dh]at hf
 |0, .pk ..,t,x,hf,hr=>by simp[dh]at hf
 |d+1, .ptr ..,t,x,hf,hr=>by simp[dh]at hf
 |d+1, .rG ..,t,x,hf,hr=>by simp[dh]at hf
 |d+1, .jy ..,t,x,hf,hr=>by simp[dh]at hf
 |d+1, .any,t,x,hf,hr=>by simp[dh]at hf
 |d+1, .map _,t,x,hf,hr=>by simp[dh]at hf
 |d+1, .it _,t,x,hf,hr=>by simp[dh]at hf
 |d+1, .kR ..,t,x,hf,hr=>by simp[dh]at hf
 |d+1, .pk ..,t,x,hf,hr=>by simp[dh]at hf
 |d+1, .own id sz i len,t,x,hf,hr=>by
  simp only[dh]at hf
  split at hf
  · rename_i sz' xs hfi
    split at hf
    · rename_i hc
      simp only[Option.map_eq_some_iff]at hf
      obtain⟨ts,hts,rfl⟩:=hf
      have he:elems st.heap (.own id sz i len)=some (sz,(xs.drop i).take len):=by simp only[elems,hfi,if_pos hc]
      obtain⟨hsz,b0,atK,hx0,Gd⟩:=jd h he hr
      by_cases hne:(xs.drop i).take len=[]
      · rw[hne]at hts
        simp only[bM,Option.some.injEq]at hts
        subst hts
        rw[hx0,hne]
        exact .nil
      · obtain⟨b,o,cap,rfl,hcell⟩:=iI h he hr hne
        simp only[Value.slice.injEq]at hx0
        obtain⟨_,_,rfl⟩:=hx0
        have hρ:ρ id=some (.fN b)∧b < w.heap.size:=by
         rcases hr with⟨b',cap',q,e',k1,k2,k3,k4,k5⟩|⟨_,_,h2,h3⟩
         · simp only[Value.slice.injEq,Option.some.injEq,Addr.mk.injEq]at k2
           obtain⟨⟨rfl,_⟩,_⟩:=k2
           refine⟨k1,?_⟩
           rcases Nat.lt_or_ge b w.heap.size with hlt|hge
           · exact hlt
           · simp[World.shape?,Array.getElem?_eq_none hge]at k4
         · simp at h3
        have yQ: ∀ (i':Nat) (e:List T) (j:Nat) (t:T),ts[i']? =some e→e[j]? =some t→ ∃y,w.cell? ⟨b,o+(i' * sz+j),none⟩=some y∧RT w B t y:=by
         intro i' e j t hi hj
         obtain⟨el,hel,hfe⟩:=eW hts i' e hi
         obtain⟨c,hcc,Sy⟩:=eW hfe j t hj
         obtain⟨y,hy,hry,_⟩:=hcell i' el j c hel hcc
         exact⟨y,hy,qS h SO hB Sy hry⟩
        have hE:RT w B (.aD sz ts) (.slice (some ⟨b,o,none⟩) ((xs.drop i).take len).length cap):=by
         refine .aD (fun i j=>(w.cell? ⟨b,o+(i * sz+j),none⟩).getD undef) (iz hts).symm Gd hρ.2 (hB id _ b hfi hρ.1) (fun e he'=>?_) (fun i e j t hi hj=>?_) (fun i e j t hi hj=>?_)
         · obtain⟨k,hk,hke⟩:=List.getElem_of_mem he'
           obtain⟨el,hel,hfe⟩:=eW hts k e (by rw[←hke];simp[hk])
           rw[iz hfe]
           exact hsz el (List.mem_of_getElem? hel)
         · obtain⟨y,hy,_⟩:=yQ i e j t hi hj
           rw[Nat.add_assoc,hy];rfl
         · obtain⟨y,hy,dn⟩:=yQ i e j t hi hj
           rw[hy];exact dn
        exact hE
    · simp at hf
  · simp at hf
def bR (hp:HS):W→Option W
 | .one c=>(dh 6 hp c).map fun t=> .one (.t t)
 | .agg cs=>(bM (dh 6 hp) cs).map fun ts=> .agg (ts.map .t)
theorem CY {hp:HS} {u:W} {k:W→Bool} (h:Gk false hp u k=true): ∃u',bR hp u=some u'∧k u'=true:=by
 cases u with
 |one c=>obtain⟨t,h1,h2⟩:=yU h;exact⟨_,by simp only[bR,h1,Option.map_some],h2⟩
 |agg cs=>obtain⟨t,h1,h2⟩:=kD (fun x k h=>yU h) h;exact⟨_,by simp only[bR,h1,Option.map_some],h2⟩
theorem ju (h:Rel M A ρ F st a w) {B:Nat→Prop} (SO: ∀b,B b→A b) (hB: ∀id blk b,find st.heap id=some blk→ρ id=some (.fN b)→¬B b) {u u':W} {x:Value}
 (hf:bR st.heap u=some u') (hr:RW w A ρ u x) (ρ':Env):RW w B ρ' u' x:=by
 cases u with
 |one c=>
  simp only[bR,Option.map_eq_some_iff]at hf
  obtain⟨t,h1,rfl⟩:=hf
  exact⟨qS h SO hB h1 hr.1,hr.2⟩
 |agg cs=>
  simp only[bR,Option.map_eq_some_iff]at hf
  obtain⟨ts,h1,rfl⟩:=hf
  obtain⟨vs,rfl,h2,h3⟩:=hr
  refine⟨vs,rfl,by simp[iz h1,h2],fun k c y hk hy=>?_⟩
  simp only[List.getElem?_map,Option.map_eq_some_iff]at hk
  obtain⟨t,ht,rfl⟩:=hk
  obtain⟨c',BV,Sy⟩:=eW h1 k t ht
  obtain⟨r1,r2⟩:=h3 k c' y BV hy
  exact⟨qS h SO hB Sy r1,r2⟩
structure bq where
 n:Nat
 code:Rc
 res:List Rv
 flat:Bool
 inl:Bool
def aL (P:Program) (f:FuncId) (fr:bq):Prop:=
 ∃fn c,P.funcs[f]? =some fn∧fn.body=some c∧ae P c=some fr.code∧fn.ntmps=fr.n∧eS P fn.results.toList=some fr.res∧fS fr.n fr.code=true
theorem tc {tm:Tr} {hp:HS}: ∀ {rs:List ResultVar} {QZ:List Rv} {k:List W→Bool},eS P rs=some QZ→tV false tm hp QZ k=true→
 ∃us,(∀L,ey tm L→aN P hp L rs=some us)∧k us=true
 | [],QZ,k,hr,h=>by
   simp only[eS,Option.some.injEq]at hr
   subst hr
   exact⟨[],fun _ _=>rfl,h⟩
 | .tmp t::r,QZ,k,hr,h=>by
   simp only[eS]at hr
   split at hr
   · rename_i l hl
     simp only[Option.some.injEq]at hr
     subst hr
     simp only[tV]at h
     split at h
     · rename_i u hu
       obtain⟨us,h1,h2⟩:=tc hl h
       refine⟨u::us,fun L hL=>?_,h2⟩
       rw[←hL t]at hu
       simp only[aN,cr,hu,h1 L hL]
     · simp at h
   · simp at hr
 | .cell t ty::r,QZ,k,hr,h=>by
   simp only[eS]at hr
   split at hr
   · rename_i n l hn hl
     simp only[Option.some.injEq]at hr
     subst hr
     simp only[tV]at h
     split at h
     · rename_i c hc
       obtain⟨cs,j,h1,h2⟩:=xE h
       obtain⟨u,h3,h4⟩:=jP (P:=P) hn (pJ h2)
       simp only at h4
       obtain⟨us,h5,h6⟩:=tc hl h4
       refine⟨u::us,fun L hL=>?_,h6⟩
       rw[←hL t]at hc
       have dI:dU P ty (.w (.one c)) hp=some (.w u):=by simp only[dU,h1,h3,Option.map_some]
       simp only[aN,cr,hc,dI,h5 L hL]
     · simp at h
   · simp at hr
def An {α:Type}:Nat→List W→Tr→(Tr→α)→α
 |_,[],tm,k=>k tm
 |n,u::r,tm,k=>Tr.put (key n) tm (.w u) fun tm=>nA (n+1) fun m=>An m r tm k
def jo:Nat→List W→Tr→Tr
 |_,[],tm=>tm
 |n,u::r,tm=>jo (n+1) r (Tr.set (key n) tm (.w u))
theorem uA {α:Type}: ∀ (us:List W) (n:Nat) (tm:Tr) (k:Tr→α),An n us tm k=k (jo n us tm)
 | [],n,tm,k=>rfl
 |u::r,n,tm,k=>by simp only[An,jo,Tr.put_eq,dB,uA r]
theorem xj: ∀ (us:List W) (n:Nat) (tm:Tr) (L:TS),ey tm L→(∀t,n≤t→find L t=none)→ey (jo n us tm) (da n us++L)
 | [],n,tm,L,h,_=>h
 |u::r,n,tm,L,h,hn=>by
  have ih:=xj r (n+1) (Tr.set (key n) tm (.w u)) ((n, .w u)::L) (h.put (some n) (.w u)) (fun t ht=>by rw[az,if_neg (by omega)];exact hn t (by omega))
  intro t
  rw[jo, ←ih t]
  simp only[da,List.cons_append,az,cN]
  by_cases e:n=t
  · subst e
    have:find (da (n+1) r) n=none:=by
     cases h':find (da (n+1) r) n with
     |none=>rfl
     |some v=>have:=(eA _ _ _ _ h').1;omega
    simp[this]
  · simp[e]
theorem D5 (us:List W):ey (jo 0 us .nil) (da 0 us):=by
 have:=xj us 0 .nil [] (fun t=>by rw[Tr.th];rfl) (fun t _=>rfl)
 simpa using this
theorem Rel.toM {M':Nat→Prop} (h:Rel M' A ρ F st a w) (hM: ∀b,M' b→M b) (hmay: ∀b,w.heap.size≤b→M b) (IR:zy M A w):Rel M A ρ F st a w:=by
 refine⟨h.size,h.defers,h.tmps,fun id blk hb=>?_,h.inj,h.fresh,h.bound,hmay,IR⟩
 have:=h.heap id blk hb
 cases blk with
 |row sz xs=>
  obtain⟨h1,h2⟩:=this
  refine⟨h1,?_⟩
  rcases h2 with⟨b,c,e,k1,k2,k3⟩|h2
  · exact .inl ⟨b,c,e,k1,hM b k2,k3⟩
  · exact .inr h2
 |mp es clock=>
  obtain⟨b,en,k1,k2,k3⟩:=this
  exact⟨b,en,k1,hM b k2,k3⟩
theorem Rel.own {id:Nat} {blk:bE} {b:Nat} (h:Rel M A ρ F st a w) (hf:find st.heap id=some blk) (hρ:ρ id=some (.fN b)):M b∧A b∧b < w.heap.size:=by
 have:=(h.heap id blk hf).lt hρ
 exact⟨this.2.1,this.2.2,this.1⟩
def rP (e:Exit):Prop:=e= .normal∨e= .ret
theorem vB {f:FuncId} {fr:bq} (hok:aL P f fr) {us:List W} {hp aG:HS} {ctr bC:Nat} {e:Exit} {bg:Tr} {vs:List W} (hn:us.length≤fr.n) (he:rP e)
 (hrun: ∀c,(∃fn,P.funcs[f]? =some fn∧fn.body=some c)→Qo P fr.n c (jo 0 us .nil) hp ctr e bg aG bC) (hres: ∀fn,P.funcs[f]? =some fn→ ∀L,ey bg L→aN P aG L fn.results.toList=some vs)
 {M A:Nat→Prop} {ρ:Env} {w:World} {xs:Array Value} (hr:HR M A ρ (bD ctr) hp w) (hx:zu w A ρ us xs.toList):
 Calls P f xs w fun e w'=> ∃x A' ρ',e= .returned x∧HR M A' ρ' (bD bC) aG w'∧RV w' A' ρ' (aQ vs) x∧dc M w w'∧cU ρ ρ'∧bJ A A' w:=by
 obtain⟨fn,c,hf,hb,hrc,hnt,Hy,hds⟩:=hok
 refine calls_of_wp hf hb ?_
 have hl:us.length=xs.size:=by simpa using hx.1
 have cF:Rel M A ρ (bD ctr) ⟨fr.n,da 0 us,hp⟩ {tmps:=xs++Array.replicate (fn.ntmps - xs.size) undef,defers:=[]} w:=by
  refine⟨by simp;omega,rfl,fun t v hv=>?_,hr.heap,hr.inj,hr.fresh,hr.bound,hr.may,hr.dS⟩
  obtain⟨_,u,hu,rfl⟩:=eA _ _ _ _ hv
  simp only[Nat.sub_zero]at hu
  have ht:t < xs.size:=by rw[←hl];exact(List.getElem?_eq_some_iff.1 hu).1
  have BN:xs.toList[t]? =some xs[t]:=by simp[ht]
  have:=hx.2 t u _ hu BN
  have e:(xs++Array.replicate (fn.ntmps - xs.size) undef).getD t undef=xs[t]:=by simp[Array.getD_eq_getD_getElem?,Array.getElem?_append_left ht,ht]
  rw[e]
  exact this
 refine wp_mono (hrun c ⟨fn,hf,hb⟩ M A ρ _ w _ (D5 us) cF) ?_
 rintro e2 a' w' ⟨rfl,L',A',ρ',hL',dn,dI,cG,hg⟩
 have fQ:=hres fn hf L' hL'
 obtain⟨ws,hvs,hR⟩:=ep dn fQ
 have hm:(fn.results.mapM fun(r:ResultVar)=>match r with
  | .tmp t=>(pure (a'.tmps.getD t undef):Sem Value)
  | .cell b t=>do loadVar t (←asAddr (a'.tmps.getD b undef))).run P w'= .ok ws.toArray w':=by
  rw[Array.mapM_eq_mapM_toList]
  simp only[Sem.run_map]
  exact(congrArg (fun r:Result (List Value)=>Result.andThen r fun a w'=>Result.ok a.toArray w') hvs).trans rfl
 have hrun:(results fn a'.tmps).run P w'= .ok (if h:ws.toArray.size=1 then ws.toArray[0]else .tuple ws.toArray) w':=by
  show(Bind.bind (fn.results.mapM fun(r:ResultVar)=>match r with
   | .tmp t=>(pure (a'.tmps.getD t undef):Sem Value)
   | .cell b t=>do loadVar t (←asAddr (a'.tmps.getD b undef))) fun vs=>Pure.pure (if h:vs.size=1 then vs[0]else .tuple vs)).run P w'=_
  rw[Sem.run_bind,hm]
  rfl
 have fin:a'.defers=[]∧ ∃v,(results fn a'.tmps).run P w'= .ok v w'∧ ∃x A' ρ',Ending.returned v= .returned x∧HR M A' ρ' (bD bC) aG w'∧RV w' A' ρ' (aQ vs) x∧dc M w w'∧cU ρ ρ'∧bJ A A' w:=by
  refine⟨dn.defers,_,hrun,_,A',ρ',rfl,⟨rfl,rfl,fun t v hv=>by simp[find]at hv,dn.heap,dn.inj,dn.fresh,dn.bound,dn.may,dn.dS⟩,?_,dI,cG,hg⟩
  match vs,ws,hR with
  | [],[],_=>exact⟨#[],by simp,rfl,by simp⟩
  | [u],[v],hR=>exact hR.2 0 u v rfl rfl
  |u::u2::r,v::v2::s,hR=>
   have hne:¬ (v::v2::s).toArray.size=1:=by simp
   simp only[hne,dite_false]
   exact⟨_,rfl,by simpa using hR.1,fun k x y hx hy=>hR.2 k x y hx (by simpa using hy)⟩
  | [],_::_,hR=>exact absurd hR.1 (by simp)
  |_::_,[],hR=>exact absurd hR.1 (by simp)
  | [_],_::_::_,hR=>exact absurd hR.1 (by simp)
  |_::_::_,[_],hR=>exact absurd hR.1 (by simp)
 rcases he with rfl|rfl
 · exact fin
 · exact fin
theorem vz {f:FuncId} {fr:bq} (hok:aL P f fr) {us:List W} {hp aG:HS} {ctr bC:Nat} {e:Exit} {bg:Tr} {vs:List W} (hn:us.length≤fr.n) (he:rP e)
 (hrun: ∀c,(∃fn,P.funcs[f]? =some fn∧fn.body=some c)→Qo P fr.n c (jo 0 us .nil) hp ctr e bg aG bC) (hres: ∀fn,P.funcs[f]? =some fn→ ∀L,ey bg L→aN P aG L fn.results.toList=some vs):
 fJ P f us hp ctr (aQ vs) aG bC:=by
 intro M A ρ a w n L xs hr hx
 let M':Nat→Prop:=fun b=>(M b∧A b)∨w.heap.size≤b
 have hH:HR M' A ρ (bD ctr) hp w:=by
  refine⟨rfl,rfl,fun t v hv=>by simp[find]at hv,fun id blk hb=>?_,hr.inj,hr.fresh,hr.bound,fun b hb=> .inr hb,hr.dS.sub (fun b hb hm=>hm.elim (fun h=>h.1) (fun h=>by omega)) (fun _ h=>h)⟩
  have:=hr.heap id blk hb
  cases blk with
  |row sz ys=>
   obtain⟨h1,h2⟩:=this
   refine⟨h1,?_⟩
   rcases h2 with⟨b,c,e,k1,k2,k3,k4⟩|h2
   · exact .inl ⟨b,c,e,k1, .inl ⟨k2,k3⟩,k3,k4⟩
   · exact .inr h2
  |mp es clock=>
   obtain⟨b,en,k1,k2,k3,k4⟩:=this
   exact⟨b,en,k1, .inl ⟨k2,k3⟩,k3,k4⟩
 refine(vB hok hn he hrun hres hH hx).mono ?_
 rintro e w' ⟨x,A',ρ',rfl,h1,h2,h3,h4,h5⟩
 have hM: ∀b,M' b→M b:=fun b hb=>hb.elim (fun h=>h.1) (hr.may b)
 have hmay: ∀b,w'.heap.size≤b→M b:=fun b hb=>hr.may b (Nat.le_trans h3.size hb)
 have hk:dV A A' w w':=⟨h3.size,fun b hb F6=>⟨h3.block b hb (fun hm=>by
  rcases hm with hm|hm
  · exact F6 hm.2
  · omega),fun hA=>F6 (h5.2 b hb hA)⟩⟩
 refine⟨x,A',ρ',rfl,?_,h2,h3.weaken (fun i _ ho=>hM i ho),h4,h5⟩
 have PX:=h1.toM hM hmay (hr.dS.Er (h3.weaken (fun i _ ho=>hM i ho)) h5.2)
 exact⟨hr.size,hr.defers,fun t v hv=>(hr.tmps t v hv).keeps hk h3.shape h4,PX.heap,PX.inj,PX.fresh,PX.bound,PX.may,PX.dS⟩
theorem Em {f:FuncId} {fr:bq} (hok:aL P f fr) {us:List W} {aG:HS} {bC:Nat} {e:Exit} {bg:Tr} {vs ts:List W} (hn:us.length≤fr.n) (he:rP e)
 (hrun: ∀c,(∃fn,P.funcs[f]? =some fn∧fn.body=some c)→Qo P fr.n c (jo 0 us .nil) [] 4 e bg aG bC) (hres: ∀fn,P.funcs[f]? =some fn→ ∀L,ey bg L→aN P aG L fn.results.toList=some vs)
 (hts:bM (bR aG) vs=some ts):Fn P f us [] (aQ ts) []:=by
 intro w A ρ xs hH hxs
 refine(vB hok hn he hrun hres hH hxs).mono ?_
 rintro e w' ⟨x,A',ρ',rfl,h1,h2,h3,h4,h5⟩
 have hB: ∀id blk b,find aG id=some blk→ρ' id=some (.fN b)→¬A b:=by
  intro id blk b hf hρ hA
  have hM:=(h1.own hf hρ).1
  rcases hM with⟨id',fk,mc,_⟩|hM
  · simp[find]at mc
  · have:=hH.bound b hA
    omega
 refine⟨x,A,ρ,bD 4,rfl,?_,⟨rfl,rfl,fun t v hv=>by simp[find]at hv,fun id blk hb=>by simp[find]at hb,fun id id' b b' q hb=>by simp[find]at hb,hH.fresh,fun b hb=>Nat.lt_of_lt_of_le (hH.bound b hb) h3.size,fun b hb=> .inr (Nat.le_trans h3.size hb),hH.dS.Er h3 (fun _ _ h=>h)⟩,h3,iK.refl _,bJ.refl _ _⟩
 have hlen:=iz hts
 have one: ∀ (k:Nat) (u:W) (y:Value),ts[k]? =some u→(∀v,vs[k]? =some v→RW w' A' ρ' v y)→RW w' A ρ u y:=by
  intro k u y hu hv
  obtain⟨v,jT,Ec⟩:=eW hts k u hu
  exact ju (st:=⟨0,[],aG⟩) h1 (fun b hb=>h5.1 b hb) hB Ec (hv v jT) ρ
 match vs,ts,hlen with
 | [],[],_=>
   obtain⟨ys,h6,h7,_⟩:=h2
   exact⟨ys,h6,h7,fun k u y hu=>by simp at hu⟩
 | [v],[u],_=>exact one 0 u x rfl (fun v' jT=>by simp only[List.getElem?_cons_zero,Option.some.injEq]at jT;subst jT;exact h2)
 |v::v2::r,u::u2::s,hlen=>
  obtain⟨ys,rfl,h6,h7⟩:=h2
  refine⟨ys,rfl,by rw[←h6];simpa using hlen,fun k u' y hu hy=>one k u' y hu (fun v' jT=>h7 k v' y jT hy)⟩
 | [],_::_,hlen=>simp at hlen
 |_::_,[],hlen=>simp at hlen
 | [_],_::_::_,hlen=>simp at hlen
 |_::_::_,[_],hlen=>simp at hlen
def wE (us:List W):Bool:=us.all W.cg
theorem oE {n:Nat} {u:W} (h:u.cg=true):u.up n=u:=by
 cases u with
 |one c=>cases c<;>simp[W.cg,C.cg]at h;rfl
 |agg cs=>
  simp only[W.cg,List.all_eq_true]at h
  simp only[W.up,W.agg.injEq]
  have: ∀c,c∈cs→c.up n=id c:=by
   intro c hc
   have:=h c hc
   cases c<;>simp[C.cg]at this
   rfl
  rw[List.map_congr_left this];simp
theorem fZ {hp:HS} {u u':W} (h:bR hp u=some u'):u'.cg=true:=by
 cases u with
 |one c=>
  simp only[bR,Option.map_eq_some_iff]at h
  obtain⟨t,_,rfl⟩:=h
  rfl
 |agg cs=>
  simp only[bR,Option.map_eq_some_iff]at h
  obtain⟨t,_,rfl⟩:=h
  simp[W.cg,C.cg]
def V.cg:V→Bool
 | .w u=>u.cg
 | .ej ws=>ws.all W.cg
 | .undef=>false
theorem V.oE {n:Nat} {v:V} (h:v.cg=true):v.up n=v:=by
 cases v with
 |w u=>simp only[V.cg]at h;simp only[V.up,Go.aR.oE h]
 |ej ws=>
  simp only[V.cg,List.all_eq_true]at h
  simp only[V.up,V.ej.injEq]
  have: ∀c,c∈ws→c.up n=id c:=fun c hc=>Go.aR.oE (h c hc)
  rw[List.map_congr_left this];simp
 |undef=>rfl
theorem tT {ts:List W} (h:ts.all W.cg=true):(aQ ts).cg=true:=by
 match ts with
 | []=>rfl
 | [u]=>simpa[aQ,V.cg]using h
 |_::_::_=>simpa only[aQ,V.cg]using h
def C.plain:C→Bool
 | .t (.val (.int ..))| .t (.val (.bool _))| .t (.val (.string _))=>true
 |_=>false
def W.plain:W→Bool
 | .one c=>c.plain
 | .agg cs=>cs.all C.plain
def V.plain:V→Bool
 | .w u=>u.plain
 | .ej ws=>ws.all W.plain
 | .undef=>false
end Go.aR
end
section
namespace Go.aR
open Go
section
variable {α:Type} (bad:α)
def oD (P:Program) (call:sC α) (dw:sD α) (fuel:Nat) (fr:bq) (us:List W) (k:V→α):α:=
 fU (Nat.ble us.length fr.n) (An 0 us .nil fun tm=>E bad call dw P fuel fr.code (fun e bg aG _=>match e with
  | .normal=>tV bad bg aG fr.res fun vs=>oc (Gk bad aG) vs fun ts=>k (aQ ts)
  | .ret=>tV bad bg aG fr.res fun vs=>oc (Gk bad aG) vs fun ts=>k (aQ ts)
  |_=>bad) tm [] 4) bad
def yH (P:Program) (call:sC α) (dw:sD α) (fuel:Nat) (fr:bq) (us:List W) (hp:HS) (ctr:Nat) (K:V→HS→Nat→α):α:=
 fU (Nat.ble us.length fr.n) (An 0 us .nil fun tm=>E bad call dw P fuel fr.code (fun e bg aG bC=>match e with
  | .normal=>tV bad bg aG fr.res fun vs=>K (aQ vs) aG bC
  | .ret=>tV bad bg aG fr.res fun vs=>K (aQ vs) aG bC
  |_=>bad) tm hp ctr) bad
variable (P:Program) (gR:Nat→Option bq) (CB:Nat→List W→Option V) (fuel:Nat)
def cA:Nat→sC α×sD α
 |0=>(fun _ _ _ _ _=>bad,fun _ _ _ _ _=>bad)
 |d+1=>
  (fun f us hp ctr K=>match gR f with
    |some fr=>fU fr.inl (yH bad P (cA d).1 (cA d).2 fuel fr us hp ctr K)
      (fU (wE us) (match CB f us with
        |some v=>nA (ctr+4) fun c=>K v hp c
        |none=>oD bad P (cA d).1 (cA d).2 fuel fr us fun v=>nA (ctr+4) fun c=>K v hp c)
      (fU (fr.flat&& (bM (bR hp) us).isSome) (oc (Gk bad hp) us fun ts=>match CB f ts with
        |some v=>fU v.flat (nA (ctr+4) fun c=>K v hp c) bad
        |none=>oD bad P (cA d).1 (cA d).2 fuel fr ts fun v=>fU v.flat (nA (ctr+4) fun c=>K v hp c) bad)
      (yH bad P (cA d).1 (cA d).2 fuel fr us hp ctr K)))
    |none=>bad,
   fun f us hp _ K=>match gR f with
    |some fr=>fU (wE us) (match CB f us with
      |some v=>K v hp
      |none=>oD bad P (cA d).1 (cA d).2 fuel fr us fun v=>K v hp)
      (match iL hp us with
        |some ts=>match CB f ts with
         |some v=>fU v.flat (K v hp) bad
         |none=>oD bad P (cA d).1 (cA d).2 fuel fr ts fun v=>fU v.flat (K v hp) bad
        |none=>bad)
    |none=>bad)
end
variable {P:Program}
theorem gj {f:FuncId} {us:List W} {hp:HS} {ctr:Nat} {v:V} (hv:v.cg=true) (hT:wE us=true) (h:Fn P f us [] v []):ee P hp ctr f us v hp:=
 .inl ⟨v,[],us,h.toF,(V.oE hv).symm,rfl, .inl ⟨rfl,hT⟩⟩
theorem sr {f:FuncId} {us ts:List W} {hp:HS} {ctr:Nat} {v:V} (hv:v.cg=true) (hl:iL hp us=some ts) (hfl:v.flat=true) (h:Fn P f ts [] v []):ee P hp ctr f us v hp:=
 .inl ⟨v,[],ts,h.toF,(V.oE hv).symm,rfl, .inr ⟨hl,hfl,fun id blk hb=>by simp[find]at hb⟩⟩
theorem lJ {f:FuncId} {us ts:List W} {hp:HS} {ctr:Nat} {v:V} (hv:v.cg=true) (hl:bM (bR hp) us=some ts) (hfl:v.flat=true) (hfn:Fn P f ts [] v []):fJ P f us hp ctr v hp (ctr+4):=by
 intro M A ρ a w n L xs h hx
 have hM: ∀ (ρ0:Env),(fun b=>ph ρ0 [] b∨w.heap.size≤b)=fun b=>w.heap.size≤b:=by
  intro ρ0
  funext b
  simp[ph,find]
 have empty:HR (fun b=>ph (fun _=>none) [] b∨w.heap.size≤b) (fun _=>False) (fun _=>none) (bD 4) [] w:=
  ⟨rfl,rfl,fun t v hv=>by simp[find]at hv,fun id b hb=>by simp[find]at hb,fun id id' b b' c hb=>by simp[find]at hb,fun _ _=>rfl,fun _ h=>h.elim,fun b hb=> .inr hb,h.dS.sub (fun b hb hm=>hm.elim (fun ho=>by obtain⟨_,_,hf,_⟩:=ho;simp[find]at hf) (fun hl=>by omega)) (fun _ h=>h.elim)⟩
 have hx':zu w (fun _=>False) (fun _=>none) ts xs.toList:=⟨(iz hl).trans hx.1,fun k u x hu BN=>by
  obtain⟨c,hc,hlc⟩:=eW hl k u hu
  exact ju (st:=⟨n,L,hp⟩) h (fun _ hb=>hb.elim) (fun _ _ _ _ _ hb=>hb) hlc (hx.2 k c x hc BN) _⟩
 refine(hfn w (fun _=>False) (fun _=>none) xs empty hx').mono ?_
 rintro e w' ⟨x,A1,ρ1,F1,rfl,RM,hr,dI,_,hg⟩
 rw[hM]at hr dI
 obtain⟨A2,ρ2,r1,r2,r3,r4,r5⟩:=Rel.import (st:=⟨n,L,hp⟩) h (nid:=ctr) (fun k h1 _=>h1) dI hr (fun b hb hA=>(hg.2 b hb hA).elim) RM (.inr ⟨hfl,fun id blk hb=>by simp[find]at hb⟩)
 rw[V.oE hv]at r2
 exact⟨x,A2,ρ2,rfl,r1.sub gy,r2,r3,r4,r5⟩
theorem gq {call:sC Bool} {dw:sD Bool} {fuel:Nat} (hc:nn P call) (hd:jZ P dw) {f:FuncId} {fr:bq} (hok:aL P f fr) {us:List W} {k:V→Bool}
 (h:oD false P call dw fuel fr us k=true): ∃v,Fn P f us [] v []∧v.cg=true∧k v=true:=by
 unfold oD at h
 obtain⟨hn,h⟩:=bt h
 simp only[Nat.ble_eq]at hn
 rw[uA]at h
 obtain⟨fn,c,hf,hb,hrc,hnt,Hy,hds⟩:=hok
 obtain⟨e,bg,aG,bC,h1,h2⟩:=Dq (P:=P) hc hd hrc hds h
 have hrun: ∀c',(∃fn,P.funcs[f]? =some fn∧fn.body=some c')→Qo P fr.n c' (jo 0 us .nil) [] 4 e bg aG bC:=by
  rintro c' ⟨fn',mc,hb'⟩
  rw[hf]at mc
  simp only[Option.some.injEq]at mc
  subst mc
  rw[hb]at hb'
  simp only[Option.some.injEq]at hb'
  subst hb'
  exact h2
 have fin:rP e→tV false bg aG fr.res (fun vs=>oc (Gk false aG) vs fun ts=>k (aQ ts))=true→ ∃v,Fn P f us [] v []∧v.cg=true∧k v=true:=by
  intro he hr
  obtain⟨vs,h3,h4⟩:=tc Hy hr
  obtain⟨ts,h5,h6⟩:=kD (fun x k h=>CY h) h4
  refine⟨aQ ts,Em ⟨fn,c,hf,hb,hrc,hnt,Hy,hds⟩ hn he hrun (fun fn' mc=>?_) h5,?_,h6⟩
  · rw[hf]at mc
    simp only[Option.some.injEq]at mc
    subst mc
    exact h3
  · refine tT ?_
    rw[List.all_eq_true]
    intro u hu
    obtain⟨k',hk',hke⟩:=List.getElem_of_mem hu
    obtain⟨v,_,Ec⟩:=eW h5 k' u (by rw[←hke];simp[hk'])
    exact fZ Ec
 cases e with
 |normal=>exact fin (.inl rfl) h1
 |ret=>exact fin (.inr rfl) h1
 |_=>simp at h1
theorem pV {call:sC Bool} {dw:sD Bool} {fuel:Nat} (hc:nn P call) (hd:jZ P dw) {f:FuncId} {fr:bq} (hok:aL P f fr) {us:List W} {hp:HS} {ctr:Nat} {K:V→HS→Nat→Bool}
 (h:yH false P call dw fuel fr us hp ctr K=true): ∃v aG bC,fJ P f us hp ctr v aG bC∧K v aG bC=true:=by
 unfold yH at h
 obtain⟨hn,h⟩:=bt h
 simp only[Nat.ble_eq]at hn
 rw[uA]at h
 obtain⟨fn,c,hf,hb,hrc,hnt,Hy,hds⟩:=hok
 obtain⟨e,bg,aG,bC,h1,h2⟩:=Dq (P:=P) hc hd hrc hds h
 have hrun: ∀c',(∃fn,P.funcs[f]? =some fn∧fn.body=some c')→Qo P fr.n c' (jo 0 us .nil) hp ctr e bg aG bC:=by
  rintro c' ⟨fn',mc,hb'⟩
  rw[hf]at mc
  simp only[Option.some.injEq]at mc
  subst mc
  rw[hb]at hb'
  simp only[Option.some.injEq]at hb'
  subst hb'
  exact h2
 have fin:rP e→tV false bg aG fr.res (fun vs=>K (aQ vs) aG bC)=true→ ∃v aG bC,fJ P f us hp ctr v aG bC∧K v aG bC=true:=by
  intro he hr
  obtain⟨vs,h3,h4⟩:=tc Hy hr
  refine⟨aQ vs,aG,bC,vz ⟨fn,c,hf,hb,hrc,hnt,Hy,hds⟩ hn he hrun (fun fn' mc=>?_),h4⟩
  rw[hf]at mc
  simp only[Option.some.injEq]at mc
  subst mc
  exact h3
 cases e with
 |normal=>exact fin (.inl rfl) h1
 |ret=>exact fin (.inr rfl) h1
 |_=>simp at h1
def Dp (P:Program) (gR:Nat→Option bq):Prop:= ∀f fr,gR f=some fr→aL P f fr
def bW (P:Program) (CB:Nat→List W→Option V):Prop:= ∀f us v,CB f us=some v→Fn P f us [] v []∧v.cg=true
theorem rU {gR:Nat→Option bq} {CB:Nat→List W→Option V} {fuel:Nat} (Ed:Dp P gR) (BO:bW P CB): ∀d,nn P (cA false P gR CB fuel d).1∧jZ P (cA false P gR CB fuel d).2
 |0=>⟨fun f us hp ctr K h=>by simp[cA]at h,fun f us hp ctr K h=>by simp[cA]at h⟩
 |d+1=>by
  obtain⟨PU,PT⟩:=rU Ed BO (fuel:=fuel) d
  refine⟨fun f us hp ctr K h=>?_,fun f us hp ctr K h=>?_⟩
  · simp only[cA]at h
    split at h
    · rename_i fr hfr
      have hok:=Ed f fr hfr
      cases hi:fr.inl with
      |true=>
       rw[hi]at h
       exact pV PU PT hok h
      |false=>
       rw[hi]at h
       simp only[fU]at h
       cases hT:wE us with
       |true=>
        rw[hT]at h
        simp only at h
        split at h
        · rename_i v hv
          rw[dB]at h
          obtain⟨h1,h2⟩:=BO f us v hv
          exact⟨v,hp,ctr+4,ni (gj h2 hT h1),h⟩
        · obtain⟨v,h1,h2,h3⟩:=gq PU PT hok h
          rw[dB]at h3
          exact⟨v,hp,ctr+4,ni (gj h2 hT h1),h3⟩
       |false=>
        rw[hT]at h
        simp only at h
        cases hfl:(fr.flat&& (bM (bR hp) us).isSome)with
        |true=>
         rw[hfl]at h
         simp only at h
         obtain⟨ts,hts,h⟩:=kD (fun x k h=>CY h) h
         split at h
         · rename_i v hv
           have D8:v.flat=true∧(nA (ctr+4) fun c=>K v hp c)=true:=bt h
           rw[dB]at D8
           obtain⟨h1,h2⟩:=BO f ts v hv
           exact⟨v,hp,ctr+4,lJ h2 hts D8.1 h1,D8.2⟩
         · obtain⟨v,h1,h2,h3⟩:=gq PU PT hok h
           have D8:v.flat=true∧(nA (ctr+4) fun c=>K v hp c)=true:=bt h3
           rw[dB]at D8
           exact⟨v,hp,ctr+4,lJ h2 hts D8.1 h1,D8.2⟩
        |false=>
         rw[hfl]at h
         exact pV PU PT hok h
    · simp at h
  · simp only[cA]at h
    split at h
    · rename_i fr hfr
      have hok:=Ed f fr hfr
      cases hT:wE us with
      |true=>
       rw[hT]at h
       simp only[fU]at h
       split at h
       · rename_i v hv
         obtain⟨h1,h2⟩:=BO f us v hv
         exact⟨v,hp,gj h2 hT h1,h⟩
       · obtain⟨v,h1,h2,h3⟩:=gq PU PT hok h
         exact⟨v,hp,gj h2 hT h1,h3⟩
      |false=>
       rw[hT]at h
       simp only[fU]at h
       split at h
       · rename_i ts hts
         split at h
         · rename_i v hv
           have D8:v.flat=true∧K v hp=true:=bt h
           obtain⟨h1,h2⟩:=BO f ts v hv
           exact⟨v,hp,sr h2 hts D8.1 h1,D8.2⟩
         · obtain⟨v,h1,h2,h3⟩:=gq PU PT hok h
           have D8:v.flat=true∧K v hp=true:=bt h3
           exact⟨v,hp,sr h2 hts D8.1 h1,D8.2⟩
       · simp at h
    · simp at h
def GM:Value→Value→Bool
 | .int k a, .int k' b=>Nat.beq (BJ k) (BJ k')&&OB a b
 | .bool a, .bool b=>a==b
 | .string a, .string b=>a.data.toList==b.data.toList
 | .slice none 0 0, .slice none 0 0=>true
 |_,_=>false
theorem GK {a b:Value} (h:GM a b=true):a=b:=by
 unfold GM at h
 split at h
 · simp only[Bool.and_eq_true,GP,beq_iff_eq]at h
   rw[CS h.1,h.2]
 · simp only[beq_iff_eq]at h;rw[h]
 · rename_i a b
   simp only[beq_iff_eq]at h
   congr 1
   cases a;cases b
   congr 1
   exact Array.toList_inj.1 h
 · rfl
 · simp at h
mutual
def OA:T→T→Bool
 | .val a, .val b=>GM a b
 | .aD sz xs, .aD sz' ys=>Nat.beq sz sz'&&xD xs ys
 |_,_=>false
def Ev:List T→List T→Bool
 | [],[]=>true
 |a::r,b::s=>OA a b&&Ev r s
 |_,_=>false
def xD:Lz→Lz→Bool
 | [],[]=>true
 |a::r,b::s=>Ev a b&&xD r s
 |_,_=>false
end
mutual
theorem GO: ∀ {a b:T},OA a b=true→a=b
 | .val a, .val b,h=>by simp only[OA]at h;rw[GK h]
 | .aD sz xs, .aD sz' ys,h=>by
   simp only[OA,Bool.and_eq_true,Nat.beq_eq]at h
   rw[h.1,AN h.2]
 | .val _, .aD ..,h=>by simp[OA]at h
 | .aD .., .val _,h=>by simp[OA]at h
theorem C7: ∀ {a b:List T},Ev a b=true→a=b
 | [],[],_=>rfl
 |a::r,b::s,h=>by
  simp only[Ev,Bool.and_eq_true]at h
  rw[GO h.1,C7 h.2]
 | [],_::_,h=>by simp[Ev]at h
 |_::_,[],h=>by simp[Ev]at h
theorem AN: ∀ {a b:Lz},xD a b=true→a=b
 | [],[],_=>rfl
 |a::r,b::s,h=>by
  simp only[xD,Bool.and_eq_true]at h
  rw[C7 h.1,AN h.2]
 | [],_::_,h=>by simp[xD]at h
 |_::_,[],h=>by simp[xD]at h
end
def eqC:C→C→Bool
 | .t a, .t b=>OA a b
 |_,_=>false
def Ew:List C→List C→Bool
 | [],[]=>true
 |a::r,b::s=>eqC a b&&Ew r s
 |_,_=>false
def eqW:W→W→Bool
 | .one a, .one b=>eqC a b
 | .agg a, .agg b=>Ew a b
 |_,_=>false
def AM:List W→List W→Bool
 | [],[]=>true
 |a::r,b::s=>eqW a b&&AM r s
 |_,_=>false
def eqV:V→V→Bool
 | .w a, .w b=>eqW a b
 | .ej a, .ej b=>AM a b
 |_,_=>false
theorem GQ {a b:C} (h:eqC a b=true):a=b:=by
 cases a<;>cases b<;>simp[eqC]at h
 rw[GO h]
theorem C8: ∀ {a b:List C},Ew a b=true→a=b
 | [],[],_=>rfl
 |a::r,b::s,h=>by
  simp only[Ew,Bool.and_eq_true]at h
  rw[GQ h.1,C8 h.2]
 | [],_::_,h=>by simp[Ew]at h
 |_::_,[],h=>by simp[Ew]at h
theorem GJ {a b:W} (h:eqW a b=true):a=b:=by
 cases a<;>cases b<;>simp[eqW]at h
 · rw[GQ h]
 · rw[C8 h]
theorem yX: ∀ {a b:List W},AM a b=true→a=b
 | [],[],_=>rfl
 |a::r,b::s,h=>by
  simp only[AM,Bool.and_eq_true]at h
  rw[GJ h.1,yX h.2]
 | [],_::_,h=>by simp[AM]at h
 |_::_,[],h=>by simp[AM]at h
theorem Oz {a b:V} (h:eqV a b=true):a=b:=by
 cases a<;>cases b<;>simp[eqV]at h
 · rw[GJ h]
 · rw[yX h]
theorem bc {gR:Nat→Option bq} {CB:Nat→List W→Option V} {fuel d:Nat} (Ed:Dp P gR) (BO:bW P CB) {f:FuncId} {fr:bq} (hfr:gR f=some fr) {us:List W} {v:V}
 (h:oD false P (cA false P gR CB fuel d).1 (cA false P gR CB fuel d).2 fuel fr us (fun v'=>eqV v' v)=true):Fn P f us [] v []∧v.cg=true:=by
 obtain⟨h1,h2⟩:=rU Ed BO (fuel:=fuel) d
 obtain⟨v',h3,h4,h5⟩:=gq h1 h2 (Ed f fr hfr) h
 have:=Oz h5
 subst this
 exact⟨h3,h4⟩
end Go.aR
end
section
namespace Go.aR.Cd
open Go
abbrev t (n:Nat):dN:= .t n
abbrev k (n:Int):dN:= .c (iV .i64 n)
abbrev kb (b:Bool):dN:= .c (bV b)
abbrev kn:dN:= .c (.w (.one (.t (.val (.slice none 0 0)))))
abbrev p (d:Nat) (r:Ro):gn:=⟨some d,none,r⟩
abbrev q (r:Ro):gn:=⟨none,none,r⟩
abbrev i (n:Int):T:= .val (.int .i64 n)
abbrev u (n:Int):T:= .val (.int .u32 n)
abbrev bo (b:Bool):T:= .val (.bool b)
abbrev nl:T:= .val (.slice none 0 0)
abbrev Mv (d s:Nat):gn:=p d (.kC (t s))
abbrev Ld (d s:Nat):gn:=p d (.load none (t s))
abbrev Lo (z d s:Nat):gn:=p d (.load (some z) (t s))
abbrev Fa (d o s:Nat):gn:=p d (.xC o (t s))
abbrev Le (d s:Nat):gn:=p d (.len (t s))
abbrev Ia (d z a b:Nat):gn:=p d (.fW z (t a) (t b))
abbrev So (z a b:Nat):gn:=q (.store z (t a) (t b))
abbrev Mk (d:Nat) (n:Int):gn:=p d (.kC (k n))
abbrev Bt (d:Nat) (o:BinOp) (a b:Nat):gn:=p d (.bin o (t a) (t b))
abbrev Bi (d:Nat) (o:BinOp) (a:Nat) (n:Int):gn:=p d (.bin o (t a) (k n))
abbrev Et (d s n:Nat):gn:=p d (.extract (t s) n)
abbrev Pt (d a b:Nat):gn:=p d (.pick (t a) (kb true) (t b))
abbrev Pf (d a b:Nat):gn:=p d (.pick (t a) (t b) (kb false))
abbrev Bx (d s:Nat):gn:=p d (.box (t s))
abbrev Nt (d s:Nat):gn:=p d (.not (t s))
abbrev Mb (d:Nat) (b:Bool):gn:=p d (.kC (kb b))
abbrev Mn (d:Nat):gn:=p d (.kC kn)
abbrev zi:C:= .t (.val (.int .i64 0))
abbrev zn:C:= .t (.val (.slice none 0 0))
abbrev zb:C:= .t (.val (.bool false))
abbrev Ga (g:Nat) (r:gn):gn:=⟨r.dst,some (g,false),r.op⟩
abbrev Gb (g:Nat) (r:gn):gn:=⟨r.dst,some (g,true),r.op⟩
abbrev Rg (l:List gn):Rc:= .region l
abbrev Dr (l:List gn) (e:List (List Nat)):Rc:= .draw l e
abbrev Sq (a b:Rc):Rc:= .seq a b
abbrev Cn (n:Nat) (a b:Rc):Rc:= .cond (t n) a b
abbrev Bk (n:Nat) (b:Rc):Rc:= .block n b
abbrev Lp (b:Rc):Rc:= .loop b
abbrev Ex (n:Nat):Rc:= .exit n
abbrev Sk:Rc:= .skip
abbrev Rt:Rc:= .ret
variable {P:Program}
def Hs (P:Program):List (Nat×bq)→Prop
 | []=>True
 |(f,fr)::r=>aL P f fr∧Hs P r
theorem AH: ∀ {l:List (Nat×bq)},Hs P l→Dp P (find l)
 | [],_,f,fr,h=>by simp[find]at h
 |(g,gr)::r,hl,f,fr,h=>by
  rw[az]at h
  split at h
  · rename_i e
    subst e
    simp only[Option.some.injEq]at h
    subst h
    exact hl.1
  · exact AH hl.2 f fr h
def bQ:List (Nat×List W×V)→Nat→List W→Option V
 | [],_,_=>none
 |(g,ar,v)::r,f,us=>fU (Nat.beq g f&&AM ar us) (some v) (bQ r f us)
theorem H6:bW P (bQ []):=fun f us v h=>by simp[bQ]at h
theorem aS {l:List (Nat×List W×V)} {g:Nat} {ar:List W} {v:V} (h:bW P (bQ l)) (he:Fn P g ar [] v []∧v.cg=true):bW P (bQ ((g,ar,v)::l)):=by
 intro f us v' hv
 simp only[bQ]at hv
 cases hc:(Nat.beq g f&&AM ar us)with
 |true=>
  rw[hc]at hv
  simp only[fU,Option.some.injEq]at hv
  subst hv
  simp only[Bool.and_eq_true,Nat.beq_eq]at hc
  obtain⟨rfl,h2⟩:=hc
  rw[←yX h2]
  exact he
 |false=>
  rw[hc]at hv
  exact h f us v' hv
end Go.aR.Cd
end
section
namespace Go.aR
open Go
variable {P:Program} {M A:Nat→Prop} {ρ:Env} {F:Nat→Prop} {st:St} {a:Act} {w:World}
theorem kU.Mf {ops:Array Oper} {i:Nat} {K:St→Nat→Prop} {ctr:Nat} (h:kU P ops i K st ctr): ∃st' c',K st' c'∧kU P ops i (fun s c=>s=st'∧c=c') st ctr:=by
 unfold kU at h⊢
 split at h
 · exact⟨st,ctr,h,⟨rfl,rfl⟩⟩
 · obtain⟨hd,h⟩:=h
   split at h
   · exact h.elim
   · rename_i hg
     exact⟨_,_,h,hd,by simp only[hg];exact⟨trivial,trivial⟩⟩
   · rename_i hg
     rcases h with h|h
     · obtain⟨g,us,hc,he,v,heap',c',h1,h2⟩:=h
       exact⟨_,_,h2,hd,by simp only[hg];refine .inl ⟨g,us,hc,he,v,heap',c',h1,?_⟩;first|trivial|exact⟨rfl,rfl⟩|exact⟨trivial,trivial⟩⟩
     · obtain⟨v,heap',h1,h2⟩:=h
       exact⟨_,_,h2,hd,by simp only[hg];refine .inr ⟨v,heap',h1,?_⟩;first|trivial|exact⟨rfl,rfl⟩|exact⟨trivial,trivial⟩⟩
theorem Jj.toWp {ops:Array Oper} {o:Oper} {i n:Nat} {x:Ro} {g:Option (Nat×Bool)} {ctr:Nat} {tm:TS} {hp:HS} {K:TS→HS→Nat→Prop}
 (hi:ops[i]? =some o) (hx:bn P o=some x) (hgd:gO ops o g) (h:Jj P n ⟨o.dst,g,x⟩ tm hp ctr K):
 ∃bg,(∀t,find bg t=find tm t)∧kU P ops i (nM n K) ⟨n,bg,hp⟩ ctr:=by
 unfold Jj at h
 split at h
 · exact h.elim
 · rename_i hd
   simp only at hd
   have gz: ∀ {bg:TS},(∀t,find bg t=find tm t)→aV ops o bg=some false→K (eE bg o.dst (.ej [])) hp ctr→ ∃bg,(∀t,find bg t=find tm t)∧kU P ops i (nM n K) ⟨n,bg,hp⟩ ctr:=by
    intro bg he jb hK
    refine⟨bg,he,?_⟩
    unfold kU
    simp only[hi]
    refine⟨hd,?_⟩
    simp only[jb,kx]
    exact⟨rfl,hK⟩
   have wanted: ∀ {bg:TS},(∀t,find bg t=find tm t)→aV ops o bg=some true→wF P n ⟨o.dst,g,x⟩ bg hp ctr K→ ∃bg,(∀t,find bg t=find tm t)∧kU P ops i (nM n K) ⟨n,bg,hp⟩ ctr:=by
    intro bg he jb hX
    exact⟨bg,he,wF.wpOp (st:=⟨n,bg,hp⟩) hi hx hd jb hX⟩
   rcases hgd with⟨Au,rfl⟩|⟨j,want,d,Au,hj,rfl⟩
   · simp only at h
     exact wanted (fun _=>rfl) (by simp[aV,Au]) h
   · have eL: ∀ {bg:TS} {b:Bool},find bg d=some (bV b)→aV ops o bg=some (b==want):=by
      intro bg b hf
      simp only[aV,Au,hj,hf]
     simp only at h
     split at h
     · rename_i b hf
       have lit: ∀ {c:Bool},b=c→ ∀t,find ((d,bV c)::tm) t=find tm t:=by
        intro c hb t
        subst hb
        simp only[az]
        split
        · rename_i e;subst e;exact hf.symm
        · rfl
       split at h
       · rcases iZ h with⟨hb,h⟩|⟨hb,h⟩
         · exact wanted (lit hb) (by rw[eL (b:=true) (by simp[az])];rfl) h
         · exact gz (lit hb) (by rw[eL (b:=false) (by simp[az])];rfl) h
       · rcases iZ h with⟨hb,h⟩|⟨hb,h⟩
         · exact gz (lit hb) (by rw[eL (b:=true) (by simp[az])];rfl) h
         · exact wanted (lit hb) (by rw[eL (b:=false) (by simp[az])];rfl) h
     · rename_i hf
       exact gz (fun _=>rfl) (by simp only[aV,Au,hj,hf]) h
     · exact h.elim
theorem zF {K:TS→HS→Nat→Prop} {Q:Exit→TS→HS→Nat→Prop} {e:Exit} (h:e≠ .normal):gU K Q e=Q e:=by
 cases e<;>first|rfl|exact absurd rfl h
theorem E7 {K:St→Nat→Prop} {Q:Exit→St→Nat→Prop} {e:Exit} (h:e≠ .normal):E8 K Q e=Q e:=by
 cases e<;>first|rfl|exact absurd rfl h
theorem Du {id:Nat} {Q:Exit→TS→HS→Nat→Prop} {e:Exit} (h: ∀i,e≠ .exit i):xQ id Q e=Q e:=by
 cases e<;>first|rfl|exact absurd rfl (h _)
theorem ED {id:Nat} {Q:Exit→St→Nat→Prop} {e:Exit} (h: ∀i,e≠ .exit i):ri id Q e=Q e:=by
 cases e<;>first|rfl|exact absurd rfl (h _)
def Is (st':St) (c':Nat):St→Nat→Prop:=fun s c=>s=st'∧c=c'
theorem s7.Mf {ops:Array Oper} {n:Nat} {K:TS→HS→Nat→Prop}: ∀ {l:List Oper} {rs:List gn} {k:Nat} {tm:TS} {hp:HS} {ctr:Nat},
 (∀j,ops[k+j]? =l[j]?)→aT P ops l=some rs→s7 P n rs tm hp ctr K→
 ∃st' c',nM n K st' c'∧ ∀ (M A:Nat→Prop) (ρ:Env) (a:Act) (w:World) (Q:Exit→Act→World→Prop),Rel M A ρ (bD ctr) ⟨n,tm,hp⟩ a w→(∀a' w',Post M A ρ w (Is st' c') a' w'→Q .normal a' w')→
  wpOps P ops Q (List.range' k l.length) a w
 | [],rs,k,tm,hp,ctr,hl,eK,h=>by
   simp only[aT,Option.some.injEq]at eK
   subst eK
   exact⟨⟨n,tm,hp⟩,ctr,⟨rfl,h⟩,fun M A ρ a w Q hr hq=>hq _ _ (Post.here hr ⟨rfl,rfl⟩)⟩
 |o::l,rs,k,tm,hp,ctr,hl,eK,h=>by
  simp only[aT]at eK
  split at eK
  · rename_i x l' hx hl'
    have hi:ops[k]? =some o:=by simpa using hl 0
    obtain⟨g,rfl,hgd⟩:=jq eK
    simp only[s7]at h
    obtain⟨bg,he,hw⟩:=Jj.toWp (ops:=ops) hi hx hgd h
    obtain⟨st1,c1,⟨tg,hK1⟩,D7⟩:=kU.Mf hw
    obtain⟨n1,nH,hp1⟩:=st1
    simp only at tg hK1
    subst tg
    obtain⟨st2,c2,hK2,hw2⟩:=s7.Mf (k:=k+1) (fun j=>by have:=hl (j+1);rw[show k+1+j=k+(j+1) by omega,this];simp) hl' hK1
    refine⟨st2,c2,hK2,fun M A ρ a w Q hr hq=>?_⟩
    rw[List.length_cons,List.range'_succ,wpOps_cons]
    have dn:Rel M A ρ (bD ctr) ⟨n1,bg,hp⟩ a w:=hr.forget rfl (fun t v hv=>by rw[←he t];exact hv) (fun _ _ hb=>hb)
    refine kU.sound D7 dn fun a' w' aG=>?_
    obtain⟨st',c',A',ρ',⟨rfl,rfl⟩,h2,h3,h4,h5⟩:=aG
    exact hw2 M A' ρ' a' w' Q h2 fun a2 w2 hp2=>hq _ _ (hp2.trans h3 h4 h5)
  · simp at eK
theorem X.Mf {n:Nat}: ∀ {c:Code} {r:Rc},ae P c=some r→ ∀ {Q:Exit→TS→HS→Nat→Prop} {tm:TS} {hp:HS} {ctr:Nat},X P n r Q tm hp ctr→
 ∃e st' c',nM n (Q e) st' c'∧Wp P c (fun e2 s c=>e2=e∧Is st' c' s c) ⟨n,tm,hp⟩ ctr:=by
 intro c
 induction c with
 |skip=>
  intro r hr Q tm hp ctr h
  simp only[ae,Option.some.injEq]at hr
  subst hr
  exact⟨.normal,⟨n,tm,hp⟩,ctr,⟨rfl,h⟩,Wp.skip ⟨rfl,rfl,rfl⟩⟩
 |ret=>
  intro r hr Q tm hp ctr h
  simp only[ae,Option.some.injEq]at hr
  subst hr
  exact⟨.ret,⟨n,tm,hp⟩,ctr,⟨rfl,h⟩,Wp.ret ⟨rfl,rfl,rfl⟩⟩
 |exit id=>
  intro r hr Q tm hp ctr h
  simp only[ae,Option.some.injEq]at hr
  subst hr
  exact⟨.exit id,⟨n,tm,hp⟩,ctr,⟨rfl,h⟩,Wp.exit ⟨rfl,rfl,rfl⟩⟩
 |seq x y FT FR=>
  intro r hr Q tm hp ctr h
  simp only[ae]at hr
  split at hr
  · rename_i rx ry hx hy
    simp only[Option.some.injEq]at hr
    subst hr
    simp only[X]at h
    obtain⟨e1,st1,c1,⟨tg,h1⟩,w1⟩:=FT hx h
    obtain⟨n1,nH,hp1⟩:=st1
    simp only at tg h1
    subst tg
    by_cases mO:e1= .normal
    · subst mO
      obtain⟨e2,st2,c2,h2,w2⟩:=FR hy h1
      refine⟨e2,st2,c2,h2,Wp.seq (w1.mono ?_)⟩
      rintro e s c ⟨rfl,rfl,rfl⟩
      exact w2
    · rw[zF mO]at h1
      refine⟨e1,⟨n1,nH,hp1⟩,c1,⟨rfl,h1⟩,Wp.seq (w1.mono ?_)⟩
      rintro e s c ⟨rfl,rfl,rfl⟩
      rw[E7 mO]
      exact⟨rfl,rfl,rfl⟩
  · simp at hr
 |cond c x y FT FR=>
  intro r hr Q tm hp ctr h
  simp only[ae]at hr
  split at hr
  · rename_i rx ry hx hy
    simp only[Option.some.injEq]at hr
    subst hr
    simp only[X]at h
    split at h
    · rename_i b hb
      have hb':((⟨n,tm,hp⟩:St).get c).gk =some b:=by rw[←bk];exact hb
      rcases iZ h with⟨rfl,h⟩|⟨rfl,h⟩
      · obtain⟨e,s,c',h1,h2⟩:=FT hx h
        exact⟨e,s,c',h1,Wp.cond hb' h2⟩
      · obtain⟨e,s,c',h1,h2⟩:=FR hy h
        exact⟨e,s,c',h1,Wp.cond hb' h2⟩
    · exact h.elim
  · simp at hr
 |block id b ih=>
  intro r hr Q tm hp ctr h
  simp only[ae]at hr
  split at hr
  · rename_i rb hb
    simp only[Option.some.injEq]at hr
    subst hr
    simp only[X]at h
    obtain⟨e1,st1,c1,⟨tg,h1⟩,w1⟩:=ih hb h
    cases e1 with
    |exit id'=>
     simp only[xQ]at h1
     split at h1
     · rename_i bL
       refine⟨_,_,_,⟨tg,h1⟩,Wp.block (w1.mono ?_)⟩
       rintro e s c ⟨rfl,rfl,rfl⟩
       simp only[ri,bL,if_true]
       exact⟨trivial,rfl,rfl⟩
     · rename_i bL
       refine⟨_,_,_,⟨tg,h1⟩,Wp.block (w1.mono ?_)⟩
       rintro e s c ⟨rfl,rfl,rfl⟩
       simp only[ri,bL,if_false]
       exact⟨trivial,rfl,rfl⟩
    |_=>
     rw[Du (by simp)]at h1
     refine⟨_,st1,c1,⟨tg,h1⟩,Wp.block (w1.mono ?_)⟩
     rintro e s c ⟨rfl,rfl,rfl⟩
     rw[ED (by simp)]
     exact⟨rfl,rfl,rfl⟩
  · simp at hr
 |loop b ih=>
  intro r hr Q tm hp ctr h
  simp only[ae]at hr
  split at hr
  · rename_i rb hb
    simp only[Option.some.injEq]at hr
    subst hr
    simp only[X]at h
    obtain⟨I,anX,BP⟩:=h
    obtain⟨sE,pb,c0,Hw,m,hI⟩:=anX.get
    have key: ∀ (m:Nat) (tm:TS) (hp:HS) (c:Nat),I m tm hp c→ ∃e st' c',nM n (Q e) st' c'∧ ∀ (M A:Nat→Prop) (ρ:Env) (a:Act) (w:World) (b':Frame) (kk:List _) (cs:List _),Rel M A ρ (bD c) ⟨n,tm,hp⟩ a w→
     ∃a' w',Post M A ρ w (Is st' c') a' w'∧Arrives P (lone (b'.at a (.code b:: .inLoop b::kk)) cs w) b' kk cs e a' w':=by
     intro m
     induction m using Nat.strongRecOn with
     |_ m ihm=>
      intro tm hp c hI
      obtain⟨e1,st1,c1,⟨tg,h1⟩,w1⟩:=ih hb (BP m tm hp c hI)
      obtain⟨n1,nH,hp1⟩:=st1
      simp only at tg h1
      subst tg
      by_cases mO:e1= .normal
      · subst mO
        obtain⟨tm3,hp3,c3,hw3,m',hm',SK⟩:=bP.get h1
        obtain⟨e2,st2,c2,h2,rT⟩:=ihm m' hm' _ _ _ SK
        refine⟨e2,st2,c2,h2,fun M A ρ a w b' kk cs hr=>?_⟩
        obtain⟨e,a1,HV,⟨rfl,st',c',A',ρ',⟨rfl,rfl⟩,r2,r3,r4,r5⟩,jF⟩:=(by
         obtain⟨e,a1,HV,hp1,jF⟩:=w1 M A ρ a w hr b' (.inLoop b::kk) cs
         obtain⟨st',c',A',ρ',⟨he,hs⟩,r⟩:=hp1
         exact⟨e,a1,HV,⟨he,st',c',A',ρ',hs,r⟩,jF⟩: ∃e a1 HV,(e=Exit.normal∧ ∃st' c' A' ρ',Is ⟨n1,nH,hp1⟩ c1 st' c'∧Rel M A' ρ' (bD c') st' a1 HV∧dc M w HV∧iK ρ ρ'∧fI M A A' w)∧Arrives P (lone (b'.at a (.code b:: .inLoop b::kk)) cs w) b' (.inLoop b::kk) cs e a1 HV)
        obtain⟨A2,ρ2,uE,BU,xn⟩:=hw3 _ _ _ _ _ _ r2
        obtain⟨a2,w2,hp2,AB⟩:=rT M A2 ρ2 a1 HV b' kk cs uE
        exact⟨a2,w2,hp2.trans r3 (r4.trans BU) (r5.trans xn r3.size), .of_steps (Steps.trans jF (.one step_inLoop)) AB⟩
      · rw[zF mO]at h1
        refine⟨e1,⟨n1,nH,hp1⟩,c1,⟨rfl,h1⟩,fun M A ρ a w b' kk cs hr=>?_⟩
        obtain⟨e,a1,HV,amT,jF⟩:=w1 M A ρ a w hr b' (.inLoop b::kk) cs
        obtain⟨st',c',A',ρ',⟨rfl,hs⟩,r⟩:=amT
        refine⟨a1,HV,⟨st',c',A',ρ',hs,r⟩,?_⟩
        cases e with
        |normal=>exact absurd rfl mO
        |_=>exact .pass (x:= .inLoop b) rfl (fun _ _=> .inl (by simp)) jF
    obtain⟨e,st',c',h1,h2⟩:=key m _ _ _ hI
    refine⟨e,st',c',h1,Wp.E3 (st:=⟨n,tm,hp⟩) Hw ?_⟩
    intro M A ρ a w hr b' kk cs
    obtain⟨a',w',aG,jF⟩:=h2 M A ρ a w b' kk cs hr
    obtain⟨s1,s2,s3,s4,s5,s6⟩:=aG
    exact⟨e,a',w',⟨s1,s2,s3,s4,⟨rfl,s5⟩,s6⟩, .of_steps (.one step_loop) jF⟩
  · simp at hr
 |region id ops d=>
  intro r hr Q tm hp ctr h
  cases d with
  |true=>
   simp only[ae]at hr
   split at hr
   · rename_i l hl
     split at hr
     · rename_i hc
       simp only[Bool.and_eq_true]at hc
       simp only[Option.some.injEq]at hr
       subst hr
       simp only[X]at h
       obtain⟨tmT,hpT,v,fs,⟨q0,q1⟩,_,q3,q4,q5⟩:=qo.trace (P:=P) (ops:=ops) (n:=n) (base:=ctr) (k:=0) (fun j=>by simp) hl rfl (by simpa using h)
       simp only[Nat.zero_add]at q1 q5
       refine⟨.normal,⟨n,tmT ops.size,hpT ops.size⟩,ctr+4 * ops.size,⟨rfl,by simpa using q1⟩,?_⟩
       intro M A ρ a w cF
       have Aq:Rel M A ρ (bD ctr) ⟨n,tmT 0,hpT 0⟩ a w:=cF.forget rfl (fun t u hu=>by rw[←q3 t];exact hu) (fun k b hb=>by rw[q4]at hb;exact hb)
       refine vj hc.1 (fun i o ho=>q5 i o (by simpa using ho)) (fun i o ho e he=>?_) q0 Aq ?_
       · have:=iY hc.2 i (bf o) (by simp[ho]) e he
         omega
       · rintro a' w' ⟨st',c',A',ρ',⟨rfl,rfl⟩,h2⟩
         exact⟨_,_,A',ρ',⟨rfl,rfl,rfl⟩,h2⟩
     · simp at hr
   · simp at hr
  |false=>
   simp only[ae]at hr
   split at hr
   · rename_i l hl
     simp only[Option.some.injEq]at hr
     subst hr
     simp only[X]at h
     obtain⟨st',c',h1,h2⟩:=s7.Mf (P:=P) (ops:=ops) (k:=0) (l:=ops.toList) (fun j=>by simp) hl h
     refine⟨.normal,st',c',h1,fun M A ρ a w cF=>wp_region ?_⟩
     have:=h2 M A ρ a w (fun e a' w'=>Post M A ρ w (fun s c=>e= .normal∧Is st' c' s c) a' w') cF (fun a' w' hp=>by
      obtain⟨s1,s2,s3,s4,s5,s6⟩:=hp
      exact⟨s1,s2,s3,s4,⟨rfl,s5⟩,s6⟩)
     rw[List.range_eq_range']
     simpa using this
   · simp at hr
 |_=>intro r hr;simp[ae]at hr
def aeW (P:Program) (rs:List ResultVar) (Good:List W→Prop):Exit→TS→HS→Nat→Prop
 | .normal,tm,hp,_| .ret,tm,hp,_=> ∃us ts,aN P hp tm rs=some us∧bM (bR hp) us=some ts∧Good ts
 |_,_,_,_=>False
theorem ag {f:FuncId} {fn:Func} {c:Code} {r:Rc} {args:List W} {n:Nat} {rs:List ResultVar} {Good:List W→Prop} (hf:P.funcs[f]? =some fn) (hb:fn.body=some c) (hr:ae P c=some r)
 (hn:fn.ntmps=n) (eK:fn.results.toList=rs) (hl:args.length≤n) (h:X P n r (aeW P rs Good) (da 0 args) [] 4): ∃ts,Fn P f args [] (aQ ts) []∧(aQ ts).cg=true∧Good ts:=by
 subst hn
 subst eK
 obtain⟨e,st',c',⟨hn',hq⟩,hw⟩:=X.Mf hr h
 obtain⟨n',bg,aG⟩:=st'
 simp only at hn' hq
 subst hn'
 have main: ∀us ts,rP e→aN P aG bg fn.results.toList=some us→bM (bR aG) us=some ts→Good ts→ ∃ts,Fn P f args [] (aQ ts) []∧(aQ ts).cg=true∧Good ts:=by
  intro vs ts he fQ hts hg
  refine⟨ts,?_,tT ?_,hg⟩
  · intro w A ρ xs hH hxs
    refine calls_of_wp hf hb ?_
    have hl':args.length=xs.size:=by simpa using hxs.1
    have cF:Rel (fun b=>ph ρ [] b∨w.heap.size≤b) A ρ (bD 4) ⟨fn.ntmps,da 0 args,[]⟩ {tmps:=xs++Array.replicate (fn.ntmps - xs.size) undef,defers:=[]} w:=by
     refine⟨by simp;omega,rfl,fun t v hv=>?_,hH.heap,hH.inj,hH.fresh,hH.bound,hH.may,hH.dS⟩
     obtain⟨_,u,hu,rfl⟩:=eA _ _ _ _ hv
     simp only[Nat.sub_zero]at hu
     have ht:t < xs.size:=by rw[←hl'];exact(List.getElem?_eq_some_iff.1 hu).1
     have BN:xs.toList[t]? =some xs[t]:=by simp[ht]
     have:=hxs.2 t u _ hu BN
     have e:(xs++Array.replicate (fn.ntmps - xs.size) undef).getD t undef=xs[t]:=by simp[Array.getD_eq_getD_getElem?,Array.getElem?_append_left ht,ht]
     rw[e]
     exact this
    refine wp_mono (hw _ A ρ _ w cF) ?_
    rintro e2 a' w' ⟨st2,c2,A',ρ',⟨rfl,rfl,rfl⟩,dn,dI,cG,P6⟩
    have jb:=xq hH.bound P6
    obtain⟨ws,hvs,hR⟩:=ep dn fQ
    have hm:(fn.results.mapM fun(r:ResultVar)=>match r with
     | .tmp t=>(pure (a'.tmps.getD t undef):Sem Value)
     | .cell b t=>do loadVar t (←asAddr (a'.tmps.getD b undef))).run P w'= .ok ws.toArray w':=by
     rw[Array.mapM_eq_mapM_toList]
     simp only[Sem.run_map]
     exact(congrArg (fun r:Result (List Value)=>Result.andThen r fun a w'=>Result.ok a.toArray w') hvs).trans rfl
    have hrun:(results fn a'.tmps).run P w'= .ok (if h:ws.toArray.size=1 then ws.toArray[0]else .tuple ws.toArray) w':=by
     show(Bind.bind (fn.results.mapM fun(r:ResultVar)=>match r with
      | .tmp t=>(pure (a'.tmps.getD t undef):Sem Value)
      | .cell b t=>do loadVar t (←asAddr (a'.tmps.getD b undef))) fun vs=>Pure.pure (if h:vs.size=1 then vs[0]else .tuple vs)).run P w'=_
     rw[Sem.run_bind,hm]
     rfl
    have hB: ∀id blk b,find aG id=some blk→ρ' id=some (.fN b)→¬A b:=by
     intro id blk b hf hρ hA
     have hM:=(Rel.own dn hf hρ).1
     rcases hM with⟨id',fk,mc,_⟩|hM
     · simp[find]at mc
     · have:=hH.bound b hA
       omega
    have hlen:=iz hts
    have one: ∀ (k:Nat) (u:W) (y:Value),ts[k]? =some u→(∀v,vs[k]? =some v→RW w' A' ρ' v y)→RW w' A ρ u y:=by
     intro k u y hu hv
     obtain⟨v,jT,Ec⟩:=eW hts k u hu
     exact ju dn (fun b hb=>jb.1 b hb) hB Ec (hv v jT) ρ
    have fin:a'.defers=[]∧ ∃v,(results fn a'.tmps).run P w'= .ok v w'∧ ∃x A' ρ' F',Ending.returned v= .returned x∧RV w' A' ρ' (aQ ts) x∧HR (fun b=>ph ρ [] b∨w.heap.size≤b) A' ρ' F' [] w'∧
     dc (fun b=>ph ρ [] b∨w.heap.size≤b) w w'∧iK ρ ρ'∧bJ A A' w:=by
     refine⟨dn.defers,_,hrun,_,A,ρ,bD 4,rfl,?_,⟨rfl,rfl,fun t v hv=>by simp[find]at hv,fun id blk hb=>by simp[find]at hb,fun id id' b b' q hb=>by simp[find]at hb,hH.fresh,fun b hb=>Nat.lt_of_lt_of_le (hH.bound b hb) dI.size,fun b hb=> .inr (Nat.le_trans dI.size hb),hH.dS.Er dI (fun _ _ h=>h)⟩,dI,iK.refl _,bJ.refl _ _⟩
     match vs,ws,ts,hR,hlen,one with
     | [],[],[],_,_,_=>exact⟨#[],by simp,rfl,by simp⟩
     | [u],[v],[t],hR,_,one=>exact one 0 t v rfl (fun v' jT=>by simp only[List.getElem?_cons_zero,Option.some.injEq]at jT;subst jT;exact hR.2 0 u v rfl rfl)
     |u::u2::r,v::v2::s,t::t2::q,hR,hlen,one=>
      have hne:¬ (v::v2::s).toArray.size=1:=by simp
      simp only[hne,dite_false]
      refine⟨_,rfl,?_,fun k x y hx hy=>one k x y hx (fun v' jT=>hR.2 k v' y jT (by simpa using hy))⟩
      have:=hR.1
      simp at this hlen⊢
      omega
     | [],_::_,_,hR,_,_=>exact absurd hR.1 (by simp)
     |_::_,[],_,hR,_,_=>exact absurd hR.1 (by simp)
     | [_],_::_::_,_,hR,_,_=>exact absurd hR.1 (by simp)
     |_::_::_,[_],_,hR,_,_=>exact absurd hR.1 (by simp)
     | [],[],_::_,_,hlen,_=>simp at hlen
     | [_],[_],[],_,hlen,_=>simp at hlen
     | [_],[_],_::_::_,_,hlen,_=>simp at hlen
     |_::_::_,_::_::_,[],_,hlen,_=>simp at hlen
     |_::_::_,_::_::_,[_],_,hlen,_=>simp at hlen
    rcases he with rfl|rfl
    · exact fin
    · exact fin
  · rw[List.all_eq_true]
    intro u hu
    obtain⟨k',hk',hke⟩:=List.getElem_of_mem hu
    obtain⟨v,_,Ec⟩:=eW hts k' u (by rw[←hke];simp[hk'])
    exact fZ Ec
 cases e with
 |normal=>obtain⟨us,ts,h1,h2,h3⟩:=hq;exact main us ts (.inl rfl) h1 h2 h3
 |ret=>obtain⟨us,ts,h1,h2,h3⟩:=hq;exact main us ts (.inr rfl) h1 h2 h3
 |_=>exact hq.elim
end Go.aR
end
section
namespace Go.aR
open Go
variable {P:Program} {M A:Nat→Prop} {ρ:Env} {F:Nat→Prop} {st:St} {a:Act} {w:World}
theorem HB.av {M2:Nat→Prop} {ρ2:Env} {f:Nat→Option Nat} {id k:Nat} {blk:bE} (h:HB w M A ρ id blk) (hρ: ∀id k l,f id=some k→ρ id=some l→ρ2 k=some l)
 (hk: ∀l,ρ id=some l→ρ2 k=some l) (hM: ∀b,ρ id=some (.fN b)→M b→M2 b):HB w M2 A ρ2 k (blk.av f):=by
 cases blk with
 |row sz xs=>
  obtain⟨q1,q2⟩:=h
  refine⟨fun e he=>?_,?_⟩
  · simp only[List.mem_map]at he
    obtain⟨e',he',rfl⟩:=he
    simpa using q1 e' he'
  · rcases q2 with⟨b,c,e,k1,k2,k3,k4,k5,k6⟩|⟨k1,k2⟩
    · refine .inl ⟨b,c,e,hk _ k1,hM b k1 k2,k3,k4,by simpa using k5,fun i el j q hi hj=>?_⟩
      simp only[List.getElem?_map,Option.map_eq_some_iff]at hi
      obtain⟨Bm,Ay,rfl⟩:=hi
      simp only[List.getElem?_map,Option.map_eq_some_iff]at hj
      obtain⟨q',CU,rfl⟩:=hj
      obtain⟨y,hy,dn,h1⟩:=k6 i Bm j q' Ay CU
      exact⟨y,hy,dn.av hρ,h1⟩
    · exact .inr ⟨hk _ k1,by rw[k2];rfl⟩
 |mp es clock=>
  obtain⟨b,en,k1,k2,k3,k4,k5,k6⟩:=h
  refine⟨b,en,hk _ k1,hM b k1 k2,k3,k4,by simpa using k5,fun i k c n hi=>?_⟩
  simp only[List.getElem?_map,Option.map_eq_some_iff]at hi
  obtain⟨⟨k',c',n'⟩,hi',he⟩:=hi
  simp only[Prod.mk.injEq]at he
  obtain⟨rfl,rfl,rfl⟩:=he
  obtain⟨e,h1,h2,h3,h4,h5⟩:=k6 i k' c' n' hi'
  exact⟨e,h1,h2,h3,h4.av hρ,h5.av⟩
theorem HB.some {id:Nat} {blk:bE} (h:HB w M A ρ id blk): ∃l,ρ id=some l:=by
 cases blk with
 |row sz xs=>rcases h.2 with⟨b,c,e,k1,_⟩|⟨k1,_⟩<;>exact⟨_,k1⟩
 |mp es clock=>obtain⟨b,en,k1,_⟩:=h;exact⟨_,k1⟩
def bA:List Nat→Nat→Option Nat
 | [],_=>none
 |x::r,id=>if x=id then some 0 else(bA r id).map (· +1)
theorem dR: ∀ {ids:List Nat} {id k:Nat},bA ids id=some k→ids[k]? =some id
 | [],id,k,h=>by simp[bA]at h
 |x::r,id,k,h=>by
  simp only[bA]at h
  split at h
  · rename_i e;simp only[Option.some.injEq]at h;subst h;subst e;rfl
  · simp only[Option.map_eq_some_iff]at h
    obtain⟨k',h',rfl⟩:=h
    simpa using dR h'
theorem ij: ∀ {ids:List Nat} {id:Nat},bA ids id=none→ ∀k:Nat,ids[k]? ≠some id
 | [],id,_,k=>by simp
 |x::r,id,h,k=>by
  simp only[bA]at h
  split at h
  · simp at h
  · rename_i e
    simp only[Option.map_eq_none_iff]at h
    cases k with
    |zero=>simpa using e
    |succ k=>simpa using ij h k
def fR (ids:List Nat) (ctr j:Nat):Option Nat:=if j < 4 then some ((ids[j]?).getD (ctr+j))else none
def cK (f:Nat→Option Nat) (hp:List (Nat×bE)):Nat→List Nat→List (Nat×bE)
 |_,[]=>[]
 |j,id::r=>match find hp id with
  |some b=>(j,b.av f)::cK f hp (j+1) r
  |none=>cK f hp (j+1) r
theorem cc {f:Nat→Option Nat} {hp:List (Nat×bE)}: ∀ {ids:List Nat} {j k:Nat} {b:bE},find (cK f hp j ids) k=some b→ ∃i id b',k=j+i∧ids[i]? =some id∧find hp id=some b'∧b=b'.av f
 | [],j,k,b,h=>by simp[cK,find]at h
 |id::r,j,k,b,h=>by
  simp only[cK]at h
  have tl:find (cK f hp (j+1) r) k=some b→ ∃i id', ∃b',k=j+i∧(id::r)[i]? =some id'∧find hp id'=some b'∧b=b'.av f:=by
   intro h
   obtain⟨i,id',b',h1,h2,h3,h4⟩:=cc h
   exact⟨i+1,id',b',by omega,by simpa using h2,h3,h4⟩
  split at h
  · rename_i b0 hb0
    rw[az]at h
    split at h
    · rename_i e
      simp only[Option.some.injEq]at h
      exact⟨0,id,b0,by omega,rfl,hb0,h.symm⟩
    · exact tl h
  · exact tl h
def iO (ids:List Nat):List (Nat×bE)→List (Nat×bE)
 | []=>[]
 |p::r=>match bA ids p.1 with
  |some _=>iO ids r
  |none=>p::iO ids r
theorem jW {ids:List Nat}: ∀ {hp:List (Nat×bE)} {k:Nat} {b:bE},find (iO ids hp) k=some b→bA ids k=none∧find hp k=some b
 | [],k,b,h=>by simp[iO,find]at h
 |(q,c)::r,k,b,h=>by
  simp only[iO]at h
  split at h
  · rename_i j hj
    obtain⟨h1,h2⟩:=jW h
    refine⟨h1,?_⟩
    rw[az]
    split
    · rename_i e
      subst e
      rw[hj]at h1
      simp at h1
    · exact h2
  · rename_i hj
    rw[az]at h⊢
    split at h
    · rename_i e
      subst e
      rw[if_pos rfl]
      exact⟨hj,h⟩
    · rename_i e
      obtain⟨h1,h2⟩:=jW h
      rw[if_neg e]
      exact⟨h1,h2⟩
def eF (g:Nat→Option Nat):List (Nat×bE)→List (Nat×bE)
 | []=>[]
 |p::r=>match g p.1 with
  |some k=>(k,p.2.av g)::eF g r
  |none=>eF g r
theorem iH {g:Nat→Option Nat} (hinj: ∀i j k,g i=some k→g j=some k→i=j): ∀ {hout:List (Nat×bE)} {k:Nat} {b:bE},find (eF g hout) k=some b→ ∃j b',g j=some k∧find hout j=some b'∧b=b'.av g
 | [],k,b,h=>by simp[eF,find]at h
 |(q,c)::r,k,b,h=>by
  simp only[eF]at h
  split at h
  · rename_i k' hk'
    rw[az]at h
    split at h
    · rename_i e
      subst e
      simp only[Option.some.injEq]at h
      exact⟨q,c,hk',by rw[az,if_pos rfl],h.symm⟩
    · rename_i e
      obtain⟨j,b',h1,h2,h3⟩:=iH hinj h
      refine⟨j,b',h1,?_,h3⟩
      rw[az,if_neg]
      · exact h2
      · intro e'
        subst e'
        rw[hk']at h1
        exact e (Option.some.inj h1)
  · rename_i hk'
    obtain⟨j,b',h1,h2,h3⟩:=iH hinj h
    refine⟨j,b',h1,?_,h3⟩
    rw[az,if_neg]
    · exact h2
    · intro e'
      subst e'
      rw[hk']at h1
      simp at h1
def uB (ids:List Nat) (ctr:Nat):Bool:=decide (ids.length≤4)&&ids.all (fun id=>decide (id < ctr))&&decide ids.Nodup
theorem zh {f:FuncId} {us args:List W} {hp hin hout:List (Nat×bE)} {ctr:Nat} {res:V} (ids:List Nat) (hok:uB ids ctr=true) (hfn:Fn P f args hin res hout)
 (ha:us.map (W.av (bA ids))=args) (hh:cK (bA ids) hp 0 ids=hin):
 fJ P f us hp ctr (res.av (fR ids ctr)) (eF (fR ids ctr) hout++iO ids hp) (ctr+4):=by
 subst ha
 subst hh
 simp only[uB,Bool.and_eq_true,decide_eq_true_eq,List.all_eq_true]at hok
 obtain⟨⟨hlen,hlt⟩,Ea⟩:=hok
 have hidx: ∀ {i j id:Nat},ids[i]? =some id→ids[j]? =some id→i=j:=by
  intro i j id h1 h2
  obtain⟨hi,e1⟩:=List.getElem?_eq_some_iff.1 h1
  obtain⟨hj,e2⟩:=List.getElem?_eq_some_iff.1 h2
  exact(List.getElem_inj Ea).1 (e1.trans e2.symm)
 have hinv: ∀ {j id:Nat},ids[j]? =some id→bA ids id=some j:=by
  intro j id h
  cases hi:bA ids id with
  |none=>exact absurd h (ij hi j)
  |some k=>rw[hidx (dR hi) h]
 have jD: ∀ {j id:Nat},ids[j]? =some id→id < ctr:=fun h=>hlt _ (List.mem_of_getElem? h)
 have Bg: ∀ {j id:Nat},ids[j]? =some id→j < 4:=fun h=>by have:=(List.getElem?_eq_some_iff.1 h).1;omega
 intro M A ρ a w n L xs hr hx
 let ρ0:Env:=fun j=>(ids[j]?).bind ρ
 have NW: ∀id k l,bA ids id=some k→ρ id=some l→ρ0 k=some l:=by
  intro id k l h1 h2
  simp only[ρ0,dR h1,Option.bind_some,h2]
 let M':Nat→Prop:=fun b=>ph ρ0 (cK (bA ids) hp 0 ids) b∨w.heap.size≤b
 have IY: ∀b,b < w.heap.size→M' b→M b∧A b:=by
  intro b hb hm
  rcases hm with⟨j,blk,hf,hρ⟩|hm
  · obtain⟨i,id,b',rfl,h2,h3,_⟩:=cc hf
    simp only[Nat.zero_add,ρ0,h2,Option.bind_some]at hρ
    exact((hr.heap id b' h3).lt hρ).2
  · omega
 have hH:HR M' A ρ0 (bD 4) (cK (bA ids) hp 0 ids) w:=by
  refine⟨rfl,rfl,fun t v hv=>by simp[find]at hv,fun j blk hf=>?_,fun j j' blk fk b h1 h2 r1 r2=>?_,fun j hj=>?_,hr.bound,fun b hb=> .inr hb,hr.dS.sub (fun b hb hm=>(IY b hb hm).1) (fun _ h=>h)⟩
  · obtain⟨i,id,b',rfl,h2,h3,rfl⟩:=cc hf
    refine(hr.heap id b' h3).av NW (fun l hl=>by simp only[Nat.zero_add,ρ0,h2,Option.bind_some,hl]) (fun b hb _=> .inl ⟨0+i,_,hf,by simp only[Nat.zero_add,ρ0,h2,Option.bind_some,hb]⟩)
  · obtain⟨i,id,b1,rfl,h3,h4,_⟩:=cc h1
    obtain⟨i',id',b2,rfl,Kn,Oi,_⟩:=cc h2
    simp only[Nat.zero_add,ρ0,h3,Kn,Option.bind_some]at r1 r2
    have:=hr.inj id id' b1 b2 b h4 Oi r1 r2
    subst this
    rw[hidx h3 Kn]
  · simp only[ρ0]
    rw[List.getElem?_eq_none (by simp only[bD]at hj;omega)]
    rfl
 have hx':zu w A ρ0 (us.map (W.av (bA ids))) xs.toList:=by
  refine⟨by simpa using hx.1,fun k u y hu hy=>?_⟩
  simp only[List.getElem?_map,Option.map_eq_some_iff]at hu
  obtain⟨u',yI,rfl⟩:=hu
  exact(hx.2 k u' y yI hy).av NW
 refine(hfn w A ρ0 xs hH hx').mono ?_
 rintro e w' ⟨x,A',ρ',F',rfl,hv,dn,dI,cG,hg⟩
 let ρ2:Env:=fun k=>match bA ids k with
  |some j=>ρ' j
  |none=>if ctr≤k∧k < ctr+4 then ρ' (k - ctr)else ρ k
 have Kl: ∀j k l,fR ids ctr j=some k→ρ' j=some l→ρ2 k=some l:=by
  intro j k l h1 h2
  simp only[fR]at h1
  split at h1
  · rename_i hj
    simp only[Option.some.injEq]at h1
    cases hi:ids[j]? with
    |some id=>
     rw[hi]at h1
     simp only[Option.getD_some]at h1
     subst h1
     simp only[ρ2,hinv hi]
     exact h2
    |none=>
     rw[hi]at h1
     simp only[Option.getD_none]at h1
     subst h1
     have hn:bA ids (ctr+j)=none:=by
      cases hq:bA ids (ctr+j)with
      |none=>rfl
      |some q=>have:=jD (dR hq);omega
     simp only[ρ2,hn]
     rw[if_pos ⟨by omega,by omega⟩,show ctr+j - ctr=j by omega]
     exact h2
  · simp at h1
 have Kk: ∀i j k,fR ids ctr i=some k→fR ids ctr j=some k→i=j:=by
  intro i j k h1 h2
  simp only[fR]at h1 h2
  split at h1
  · split at h2
    · simp only[Option.some.injEq]at h1 h2
      cases hi:ids[i]? with
      |some id=>
       cases hj:ids[j]? with
       |some id'=>
        rw[hi]at h1;rw[hj]at h2
        simp only[Option.getD_some]at h1 h2
        subst h1;subst h2
        exact hidx hi hj
       |none=>
        rw[hi]at h1;rw[hj]at h2
        simp only[Option.getD_some,Option.getD_none]at h1 h2
        have:=jD hi
        omega
      |none=>
       cases hj:ids[j]? with
       |some id'=>
        rw[hi]at h1;rw[hj]at h2
        simp only[Option.getD_some,Option.getD_none]at h1 h2
        have:=jD hj
        omega
       |none=>
        rw[hi]at h1;rw[hj]at h2
        simp only[Option.getD_none]at h1 h2
        omega
    · simp at h2
  · simp at h1
 have hE:cU ρ ρ2:=by
  intro id l hl
  simp only[ρ2]
  cases hi:bA ids id with
  |some j=>
   have hj:=Bg (dR hi)
   exact cG j l hj (NW id j l hi hl)
  |none=>
   simp only
   rw[if_neg]
   · exact hl
   · rintro⟨h1,_⟩
     have:=hr.fresh id h1
     rw[this]at hl
     simp at hl
 have Ax:dc M w w':=dI.weaken (fun i hi ho=>(IY i hi ho).1)
 have hk:dV A A' w w':=⟨dI.size,fun b hb F6=>⟨dI.block b hb (fun hm=>F6 (IY b hb hm).2),fun h=>F6 (hg.2 b hb h)⟩⟩
 have hM': ∀b,M' b→M b:=fun b hm=>by
  rcases Nat.lt_or_ge b w.heap.size with hlt|hge
  · exact(IY b hlt hm).1
  · exact hr.may b hge
 refine⟨x,A',ρ2,rfl,⟨hr.size,hr.defers,fun t v hv=>(hr.tmps t v hv).keeps hk dI.shape hE,fun k blk hf=>?_,fun k k' blk fk b h1 h2 r1 r2=>?_,fun k hk'=>?_,dn.bound,fun b hb=>hr.may b (Nat.le_trans dI.size hb),hr.dS.Er Ax hg.2⟩,hv.av Kl,Ax,hE,hg⟩
 · simp only[cN,Option.or_eq_some_iff]at hf
   rcases hf with hf|⟨_,hf⟩
   · obtain⟨j,b',h1,h2,rfl⟩:=iH Kk hf
     exact(dn.heap j b' h2).av Kl (fun l hl=>Kl j k l h1 hl) (fun b _ hm=>hM' b hm)
   · obtain⟨h1,h2⟩:=jW hf
     have hb:=hr.heap k blk h2
     refine hb.keeps hk dI.shape hE hg.1 (fun b Bl=>dI.block b (hb.lt Bl).1 ?_)
     intro hm
     rcases hm with⟨j,bl,hfj,RH⟩|hm
     · obtain⟨i,id,b',rfl,q2,q3,_⟩:=cc hfj
       simp only[Nat.zero_add,ρ0,q2,Option.bind_some]at RH
       have:=hr.inj k id blk b' b h2 q3 Bl RH
       subst this
       exact ij h1 i q2
     · have:=(hb.lt Bl).1
       omega
 · have old: ∀ {k:Nat} {bl:bE} {b:Nat},find (iO ids hp) k=some bl→ρ2 k=some (.fN b)→find hp k=some bl∧ρ k=some (.fN b)∧bA ids k=none∧b < w.heap.size:=by
    intro k bl b hf hρ
    obtain⟨g1,g2⟩:=jW hf
    obtain⟨l,hl⟩:=(hr.heap k bl g2).some
    have:=hE k l hl
    rw[this]at hρ
    simp only[Option.some.injEq]at hρ
    subst hρ
    exact⟨g2,hl,g1,((hr.heap k bl g2).lt hl).1⟩
   have new: ∀ {k:Nat} {bl:bE} {b:Nat},find (eF (fR ids ctr) hout) k=some bl→ρ2 k=some (.fN b)→ ∃j b',fR ids ctr j=some k∧find hout j=some b'∧ρ' j=some (.fN b):=by
    intro k bl b hf hρ
    obtain⟨j,b',g1,g2,_⟩:=iH Kk hf
    obtain⟨l,hl⟩:=(dn.heap j b' g2).some
    have:=Kl j k l g1 hl
    rw[this]at hρ
    simp only[Option.some.injEq]at hρ
    subst hρ
    exact⟨j,b',g1,g2,hl⟩
   have Mg: ∀ {k k':Nat} {bl zB:bE} {b:Nat},find (eF (fR ids ctr) hout) k=some bl→ρ2 k=some (.fN b)→find (iO ids hp) k'=some zB→ρ2 k'=some (.fN b)→False:=by
    intro k k' bl zB b h1 r1 h2 r2
    obtain⟨j,b',g1,g2,g3⟩:=new h1 r1
    obtain⟨q1,q2,q3,q4⟩:=old h2 r2
    have hm:=((dn.heap j b' g2).lt g3).2.1
    rcases hm with⟨i,Qm,hfi,hρi⟩|hm
    · obtain⟨i',id,b2,rfl,p2,p3,_⟩:=cc hfi
      simp only[Nat.zero_add,ρ0,p2,Option.bind_some]at hρi
      have:=hr.inj k' id zB b2 b q1 p3 q2 hρi
      subst this
      exact ij q3 i' p2
    · omega
   simp only[cN,Option.or_eq_some_iff]at h1 h2
   rcases h1 with h1|⟨_,h1⟩<;>rcases h2 with h2|⟨_,h2⟩
   · obtain⟨j,b',g1,g2,g3⟩:=new h1 r1
     obtain⟨j',b'',g1',g2',g3'⟩:=new h2 r2
     have:=dn.inj j j' b' b'' b g2 g2' g3 g3'
     subst this
     rw[g1]at g1'
     exact Option.some.inj g1'
   · exact(Mg h1 r1 h2 r2).elim
   · exact(Mg h2 r2 h1 r1).elim
   · obtain⟨q1,q2,_⟩:=old h1 r1
     obtain⟨q1',q2',_⟩:=old h2 r2
     exact hr.inj k k' _ _ b q1 q1' q2 q2'
 · simp only[bD]at hk'
   have hn:bA ids k=none:=by
    cases hq:bA ids k with
    |none=>rfl
    |some q=>have:=jD (dR hq);omega
   simp only[ρ2,hn]
   rw[if_neg (by omega)]
   exact hr.fresh k (by simp only[bD];omega)
theorem su {f:FuncId} {us args:List W} {hp hin hout:List (Nat×bE)} {ctr:Nat} {res:V} (ids:List Nat) (hok:uB ids ctr=true) (hfn:Fn P f args hin res hout)
 (ha:us.map (W.av (bA ids))=args) (hh:cK (bA ids) hp 0 ids=hin):
 fm P f us hp ctr (res.av (fR ids ctr)) (eF (fR ids ctr) hout++iO ids hp) (ctr+4):=
 (zh ids hok hfn ha hh).m
theorem Cf {f:FuncId} {us args:List W} {hp hin:List (Nat×bE)} {res:V} (ids:List Nat) (hlen:ids.length≤4) (Ea:ids.Nodup) (hsub: ∀id,id∈ids→id∈us.flatMap W.ids) (hfn:Fn P f args hin res hin)
 (ha:us.map (W.av (bA ids))=args) (hh:cK (bA ids) hp 0 ids=hin)
 (AA: ∀id,id∈ids→ ∃b,find hp id=some b∧(b.av (bA ids)).av (fun j=>ids[j]?)=b):
 Hr P hp f us (res.av (fun j=>ids[j]?)):=by
 subst ha
 have hidx: ∀ {i j id:Nat},ids[i]? =some id→ids[j]? =some id→i=j:=by
  intro i j id h1 h2
  obtain⟨hi,e1⟩:=List.getElem?_eq_some_iff.1 h1
  obtain⟨hj,e2⟩:=List.getElem?_eq_some_iff.1 h2
  exact(List.getElem_inj Ea).1 (e1.trans e2.symm)
 have hinv: ∀ {j id:Nat},ids[j]? =some id→bA ids id=some j:=by
  intro j id h
  cases hi:bA ids id with
  |none=>exact absurd h (ij hi j)
  |some k=>rw[hidx (dR hi) h]
 have Bg: ∀ {j id:Nat},ids[j]? =some id→j < 4:=fun h=>by have:=(List.getElem?_eq_some_iff.1 h).1;omega
 intro hp2 hag M A ρ F a w n L xs hr hx
 have BX: ∀id,id∈ids→find hp2 id=find hp id:=fun id bL=>hag id (hsub id bL)
 have hsame: ∀ (l:List Nat) (j:Nat),(∀id,id∈l→id∈ids)→cK (bA ids) hp2 j l=cK (bA ids) hp j l:=by
  intro l
  induction l with
  |nil=>intro j _;rfl
  |cons x l ih=>
   intro j hl
   simp only[cK]
   rw[BX x (hl x List.mem_cons_self),ih (j+1) (fun id bL=>hl id (List.mem_cons_of_mem _ bL))]
 rw[←hsame ids 0 (fun _ h=>h)]at hh
 subst hh
 let ρ0:Env:=fun j=>(ids[j]?).bind ρ
 have NW: ∀id k l,bA ids id=some k→ρ id=some l→ρ0 k=some l:=by
  intro id k l h1 h2
  simp only[ρ0,dR h1,Option.bind_some,h2]
 let M':Nat→Prop:=fun b=>ph ρ0 (cK (bA ids) hp2 0 ids) b∨w.heap.size≤b
 have IY: ∀b,b < w.heap.size→M' b→M b∧A b:=by
  intro b hb hm
  rcases hm with⟨j,blk,hf,hρ⟩|hm
  · obtain⟨i,id,b',rfl,h2,h3,_⟩:=cc hf
    simp only[Nat.zero_add,ρ0,h2,Option.bind_some]at hρ
    exact((hr.heap id b' h3).lt hρ).2
  · omega
 have hH:HR M' A ρ0 (bD 4) (cK (bA ids) hp2 0 ids) w:=by
  refine⟨rfl,rfl,fun t v hv=>by simp[find]at hv,fun j blk hf=>?_,fun j j' blk fk b h1 h2 r1 r2=>?_,fun j hj=>?_,hr.bound,fun b hb=> .inr hb,hr.dS.sub (fun b hb hm=>(IY b hb hm).1) (fun _ h=>h)⟩
  · obtain⟨i,id,b',rfl,h2,h3,rfl⟩:=cc hf
    refine(hr.heap id b' h3).av NW (fun l hl=>by simp only[Nat.zero_add,ρ0,h2,Option.bind_some,hl]) (fun b hb _=> .inl ⟨0+i,_,hf,by simp only[Nat.zero_add,ρ0,h2,Option.bind_some,hb]⟩)
  · obtain⟨i,id,b1,rfl,h3,h4,_⟩:=cc h1
    obtain⟨i',id',b2,rfl,Kn,Oi,_⟩:=cc h2
    simp only[Nat.zero_add,ρ0,h3,Kn,Option.bind_some]at r1 r2
    have:=hr.inj id id' b1 b2 b h4 Oi r1 r2
    subst this
    rw[hidx h3 Kn]
  · simp only[ρ0]
    rw[List.getElem?_eq_none (by simp only[bD]at hj;omega)]
    rfl
 have hx':zu w A ρ0 (us.map (W.av (bA ids))) xs.toList:=by
  refine⟨by simpa using hx.1,fun k u y hu hy=>?_⟩
  simp only[List.getElem?_map,Option.map_eq_some_iff]at hu
  obtain⟨u',yI,rfl⟩:=hu
  exact(hx.2 k u' y yI hy).av NW
 refine(hfn w A ρ0 xs hH hx').mono ?_
 rintro e w' ⟨x,A',ρ',F',rfl,hv,dn,dI,cG,hg⟩
 let ρ2:Env:=fun k=>match bA ids k with
  |some j=>ρ' j
  |none=>ρ k
 have Kl: ∀j k l,ids[j]? =some k→ρ' j=some l→ρ2 k=some l:=by
  intro j k l h1 h2
  simp only[ρ2,hinv h1]
  exact h2
 have hE:cU ρ ρ2:=by
  intro id l hl
  simp only[ρ2]
  cases hi:bA ids id with
  |some j=>exact cG j l (Bg (dR hi)) (NW id j l hi hl)
  |none=>exact hl
 have Ax:dc M w w':=dI.weaken (fun i hi ho=>(IY i hi ho).1)
 have hk:dV A A' w w':=⟨dI.size,fun b hb F6=>⟨dI.block b hb (fun hm=>F6 (IY b hb hm).2),fun h=>F6 (hg.2 b hb h)⟩⟩
 have hM': ∀b,M' b→M b:=fun b hm=>by
  rcases Nat.lt_or_ge b w.heap.size with hlt|hge
  · exact(IY b hlt hm).1
  · exact hr.may b hge
 have alF: ∀ (l:List Nat) (s i id:Nat) (b:bE),l.Nodup→l[i]? =some id→find hp2 id=some b→find (cK (bA ids) hp2 s l) (s+i)=some (b.av (bA ids)):=by
  intro l
  induction l with
  |nil=>intro s i id b _ h;simp at h
  |cons y l ih=>
   intro s i id b Ea h hf
   cases i with
   |zero=>
    simp only[List.getElem?_cons_zero,Option.some.injEq]at h
    subst h
    simp only[cK,hf,find,Nat.add_zero,if_true]
   |succ i=>
    simp only[List.getElem?_cons_succ]at h
    have:=ih (s+1) i id b (List.nodup_cons.1 Ea).2 h hf
    rw[show s+(i+1)=s+1+i by omega]
    simp only[cK]
    split
    · rw[az,if_neg (by omega)];exact this
    · exact this
 have same: ∀ {k:Nat} {l:_},ρ k=some l→ρ2 k=some l:=fun h=>hE _ _ h
 refine⟨x,A',ρ2,rfl,⟨hr.size,hr.defers,fun t v hv=>(hr.tmps t v hv).keeps hk dI.shape hE,fun k blk hf=>?_,fun k k' blk fk b h1 h2 r1 r2=>?_,fun k hk'=>?_,dn.bound,fun b hb=>hr.may b (Nat.le_trans dI.size hb),hr.dS.Er Ax hg.2⟩,hv.av Kl,Ax,hE,hg⟩
 · cases hi:bA ids k with
   |some j=>
    have Oa:=dR hi
    have BS:=alF ids 0 j k blk Ea Oa hf
    rw[Nat.zero_add]at BS
    have hb:=dn.heap j _ BS
    have:=hb.av (f:=fun j=>ids[j]?) (ρ2:=ρ2) (M2:=M) (k:=k) Kl (fun l hl=>Kl j k l Oa hl) (fun b _ hm=>hM' b hm)
    obtain⟨b0,hb0,o4⟩:=AA k (List.mem_of_getElem? Oa)
    rw[←BX k (List.mem_of_getElem? Oa),hf]at hb0
    rw[←Option.some.inj hb0]at o4
    rw[o4]at this
    exact this
   |none=>
    have hb:=hr.heap k blk hf
    refine hb.keeps hk dI.shape hE hg.1 (fun b Bl=>dI.block b (hb.lt Bl).1 ?_)
    intro hm
    rcases hm with⟨j,bl,hfj,RH⟩|hm
    · obtain⟨i,id,b',rfl,q2,q3,_⟩:=cc hfj
      simp only[Nat.zero_add,ρ0,q2,Option.bind_some]at RH
      have:=hr.inj k id blk b' b hf q3 Bl RH
      subst this
      exact ij hi i q2
    · have:=(hb.lt Bl).1
      omega
 · obtain⟨l,hl⟩:=(hr.heap k blk h1).some
   obtain⟨l',hl'⟩:=(hr.heap k' fk h2).some
   have e1:=same hl
   have e2:=same hl'
   rw[e1]at r1
   rw[e2]at r2
   simp only[Option.some.injEq]at r1 r2
   subst r1
   subst r2
   exact hr.inj k k' blk fk b h1 h2 hl hl'
 · have h0:=hr.fresh k hk'
   cases hi:bA ids k with
   |none=>simp only[ρ2,hi];exact h0
   |some j=>
    exfalso
    have Oa:=dR hi
    obtain⟨b0,hb0,_⟩:=AA k (List.mem_of_getElem? Oa)
    rw[←BX k (List.mem_of_getElem? Oa)]at hb0
    obtain⟨l,hl⟩:=(hr.heap k b0 hb0).some
    rw[h0]at hl
    simp at hl
end Go.aR
end
