import Derived.Test.YtlhffnnmmbannaaGreatMA
import Derived.Laws.Strings
import Derived.Test.YtlhffnnmmbannaaGreatProg
set_option linter.all false
section
namespace Go.aU
open Go
variable {P:Program} {M A:Nat→Prop} {ρ:Env} {F:Nat→Prop} {a:Act} {w:World}
def tc (ids:List Nat) (src h:HS):HS:=
 ids.foldl (fun h id=>match find src id with|some b=>(id,b)::del h id|none=>del h id) h
theorem fL (src:HS) (id:Nat): ∀ (ids:List Nat) (h:HS),find (tc ids src h) id=if id∈ids then find src id else find h id
 | [],h=>by simp[tc]
 |k::r,h=>by
  have ih:=fL src id r (match find src k with|some b=>(k,b)::del h k|none=>del h k)
  simp only[tc,List.foldl_cons]at ih⊢
  rw[ih]
  by_cases hr:id∈r
  · simp[hr]
  · simp only[hr,if_false,List.mem_cons,or_false]
    by_cases hk:id=k
    · subst hk
      simp only[if_true]
      cases hs:find src id with
      |none=>simp[dI]
      |some b=>simp[aj]
    · simp only[hk,if_false]
      have hk':¬k=id:=fun e=>hk e.symm
      cases hs:find src k with
      |none=>simp[dI,hk]
      |some b=>simp[aj,dI,hk,hk']
section
variable (dst:Nat→Option Nat) (v:Nat→V) (wr:Nat→List Nat) (hpT:Nat→HS) (rG:TS) (lX:HS)
def mL (L:Nat→Bool):Nat→TS
 |0=>rG
 |i+1=>if L i then cN (mL L i) (dst i) (v i)else mL L i
def mO (L:Nat→Bool):Nat→HS
 |0=>lX
 |i+1=>if L i then tc (wr i) (hpT (i+1)) (mO L i)else mO L i
theorem fM (tm:TS) (d:Option Nat) (u:V) (t:Nat):find (cN tm d u) t=if d=some t then some u else find tm t:=by
 cases d with
 |none=>simp[cN]
 |some d=>simp only[cN,aj,Option.some.injEq]
theorem lD (L1 L2:Nat→Bool) (t:Nat): ∀k,(∀i,i < k→dst i=some t→L1 i=L2 i)→find (mL dst v rG L1 k) t=find (mL dst v rG L2 k) t
 |0,_=>rfl
 |k+1,h=>by
  have ih:=lD L1 L2 t k (fun i hi=>h i (by omega))
  simp only[mL]
  by_cases hd:dst k=some t
  · rw[h k (by omega) hd]
    split
    · simp only[fM,hd,if_true]
    · exact ih
  · have e: ∀ (L:Nat→Bool),find (if L k then cN (mL dst v rG L k) (dst k) (v k)else mL dst v rG L k) t=find (mL dst v rG L k) t:=by
     intro L
     split
     · simp only[fM,hd,if_false]
     · rfl
    rw[e L1,e L2,ih]
theorem xI (L:Nat→Bool) (t i:Nat) (hd:dst i=some t) (hL:L i=true): ∀k,i < k→(∀j,i < j→j < k→dst j=some t→L j=false)→find (mL dst v rG L k) t=some (v i)
 |0,h,_=>by omega
 |k+1,h,hj=>by
  simp only[mL]
  by_cases e:i=k
  · subst e
    simp only[hL,if_true,fM,hd]
  · have ih:=xI L t i hd hL k (by omega) (fun j h1 h2=>hj j h1 (by omega))
    by_cases hk:dst k=some t
    · rw[hj k (by omega) (by omega) hk]
      exact ih
    · split
      · simp only[fM,hk,if_false];exact ih
      · exact ih
theorem lV (L1 L2:Nat→Bool) (id:Nat): ∀k,(∀i,i < k→id∈wr i→L1 i=L2 i)→find (mO wr hpT lX L1 k) id=find (mO wr hpT lX L2 k) id
 |0,_=>rfl
 |k+1,h=>by
  have ih:=lV L1 L2 id k (fun i hi=>h i (by omega))
  simp only[mO]
  by_cases hd:id∈wr k
  · rw[h k (by omega) hd]
    split
    · simp only[fL,hd,if_true]
    · exact ih
  · have e: ∀ (L:Nat→Bool),find (if L k then tc (wr k) (hpT (k+1)) (mO wr hpT lX L k)else mO wr hpT lX L k) id=find (mO wr hpT lX L k) id:=by
     intro L
     split
     · simp only[fL,hd,if_false]
     · rfl
    rw[e L1,e L2,ih]
theorem yt (L:Nat→Bool) (id i:Nat) (hd:id∈wr i) (hL:L i=true): ∀k,i < k→(∀j,i < j→j < k→id∈wr j→L j=false)→find (mO wr hpT lX L k) id=find (hpT (i+1)) id
 |0,h,_=>by omega
 |k+1,h,hj=>by
  simp only[mO]
  by_cases e:i=k
  · subst e
    simp only[hL,if_true,fL,hd]
  · have ih:=yt L id i hd hL k (by omega) (fun j h1 h2=>hj j h1 (by omega))
    by_cases hk:id∈wr k
    · rw[hj k (by omega) (by omega) hk]
      exact ih
    · split
      · simp only[fL,hk,if_false];exact ih
      · exact ih
theorem ox (tmT:Nat→TS) (N:Nat) (h0:tmT 0=rG) (hs: ∀i,i < N→ ∀t,find (tmT (i+1)) t=find (cN (tmT i) (dst i) (v i)) t) (L:Nat→Bool) (t:Nat): ∀k,k≤N→(∀i,i < k→L i=true)→find (mL dst v rG L k) t=find (tmT k) t
 |0,_,_=>by rw[h0];rfl
 |k+1,hk,hL=>by
  simp only[mL,hL k (by omega),if_true]
  rw[hs k (by omega) t,fM,fM,ox tmT N h0 hs L t k (by omega) (fun i hi=>hL i (by omega))]
theorem o7 (N:Nat) (h0:hpT 0=lX) (hs: ∀i,i < N→ ∀id,¬id∈wr i→find (hpT (i+1)) id=find (hpT i) id) (L:Nat→Bool) (id:Nat): ∀k,k≤N→(∀i,i < k→L i=true)→find (mO wr hpT lX L k) id=find (hpT k) id
 |0,_,_=>by rw[h0];rfl
 |k+1,hk,hL=>by
  simp only[mO,hL k (by omega),if_true,fL]
  split
  · rfl
  · rename_i hn
    rw[o7 N h0 hs L id k (by omega) (fun i hi=>hL i (by omega)),hs k (by omega) id hn]
theorem sW (i:Nat) (t:Nat): ∀k,i≤k→find (mL dst v rG (fun j=>decide (j < i)) k) t=find (mL dst v rG (fun j=>decide (j < i)) i) t
 |0,h=>by have:i=0:=by omega
          subst this;rfl
 |k+1,h=>by
  by_cases e:i=k+1
  · subst e;rfl
  · have ih:=sW i t k (by omega)
    have hn:decide (k < i)=false:=by simp;omega
    simp only[mL]
    rw[if_neg (by simp;omega)]
    exact ih
theorem tS (i:Nat) (id:Nat): ∀k,i≤k→find (mO wr hpT lX (fun j=>decide (j < i)) k) id=find (mO wr hpT lX (fun j=>decide (j < i)) i) id
 |0,h=>by have:i=0:=by omega
          subst this;rfl
 |k+1,h=>by
  by_cases e:i=k+1
  · subst e;rfl
  · have ih:=tS i id k (by omega)
    simp only[mO]
    rw[if_neg (by simp;omega)]
    exact ih
end
theorem eL.sound {ops:Array Oper} {o:Oper} {i n nid:Nat} {tm:TS} {hp hp':HS} {v:V} {Q:Exit→Act→World→Prop} {K':Act→World→Prop} (hi:ops[i]? =some o)
 (h:eL P ops o n tm hp nid v hp') (hr:Rel M A ρ F ⟨n,tm,hp⟩ a w) (hF: ∀k,nid≤k→k < nid+4→F k)
 (hk: ∀a' w' A' ρ',Rel M A' ρ' (Sub F nid) ⟨n,cN tm o.dst v,hp'⟩ a' w'→cz M w w'→cC ρ ρ'→bq A A' w→K' a' w'):wpOp P ops Q i K' a w:=by
 obtain⟨hd,h⟩:=h
 have yG:=jb hd
 unfold wpOp
 simp only[hi]
 have fin: ∀ {a2:Act} {w2:World} {A2:Nat→Prop} {ρ2:Env} {x:Value} {hp2:HS},Rel M A2 ρ2 (Sub F nid) ⟨n,tm,hp2⟩ a2 w2→RV w2 A2 ρ2 v x→Rel M A2 ρ2 (Sub F nid) ⟨n,cN tm o.dst v,hp2⟩ (a2.put o.dst x) w2:=by
  intro a2 w2 A2 ρ2 x hp2 r1 r2
  have:=r1.put (dst:=o.dst) r2 yG
  rw[eB]at this
  exact this
 split at h
 · exact h.elim
 · rename_i hg
   have:=cJ hr hg
   simp only[this,Bool.false_eq_true,if_false]
   obtain⟨rfl,rfl⟩:=h
   exact hk _ _ A ρ (fin (hr.sub fun id h=>h.1) pW) (cz.refl _ _) (cC.refl _) (bq.refl _ _)
 · rename_i hg
   have:=cJ hr hg
   simp only[this,if_true]
   refine .inl ?_
   split at h
   · rename_i g us hc
     obtain⟨he,hct⟩:=h
     obtain⟨xs,hx,hxs⟩:=kT (P:=P) hr hc he
     simp only[Oper.wp,hx,Oper.upon]
     refine(dP.sound hr hF hct hxs).mono ?_
     rintro e w' ⟨x,A',ρ',rfl,r1,r2,r3,r4,r5⟩
     exact hk _ _ A' ρ' (fin r1 r2) r3 r4 r5
   · obtain⟨x,w',A',ρ',hrun,r1,r2,r3,r4,r5⟩:=kN h hr (hF nid (Nat.le_refl _) (by omega))
     rcases hrun with hrun|⟨hrun,rfl⟩
     · simp only[Oper.wp,hrun,Oper.upon]
       exact hk _ _ A' ρ' (fin r1 r2) r3 r4 r5
     · simp only[Oper.wp,hrun,Oper.upon]
       exact hk _ _ A' ρ' (fin r1 r2) r3 r4 r5
def aX (o:Oper):List Nat:=(o.after.toList.filter (Region.binds .any)).map (·.on)
def jO:List (List Nat)→List Nat→List Nat
 | [],acc=>acc
 |es::r,acc=>jO r (acc++[es.foldl (fun s e=>s|||2 ^ e|||acc.getD e 0) 0])
theorem AQ: ∀ (r:List (List Nat)) (acc:List Nat), ∃tail,jO r acc=acc++tail∧tail.length=r.length
 | [],acc=>⟨[],by simp[jO]⟩
 |es::r,acc=>by
  obtain⟨tail,h1,h2⟩:=AQ r (acc++[es.foldl (fun s e=>s|||2 ^ e|||acc.getD e 0) 0])
  exact⟨_::tail,by simp only[jO];rw[h1,List.append_assoc];rfl,by simp[h2]⟩
theorem AR: ∀ (r:List (List Nat)) (acc:List Nat) (k:Nat) (es:List Nat),r[k]? =some es→(∀e,e∈es→e < acc.length+k)→
 (jO r acc).getD (acc.length+k) 0=es.foldl (fun s e=>s|||2 ^ e|||(jO r acc).getD e 0) 0
 | [],acc,k,es,h,_=>by simp at h
 |GP::r,acc,0,es,h,he=>by
  simp only[List.getElem?_cons_zero,Option.some.injEq]at h
  subst h
  simp only[jO,Nat.add_zero]
  obtain⟨tail,h1,_⟩:=AQ r (acc++[GP.foldl (fun s e=>s|||2 ^ e|||acc.getD e 0) 0])
  rw[h1]
  have e1: ∀e,e∈GP→(acc++[GP.foldl (fun s e=>s|||2 ^ e|||acc.getD e 0) 0]++tail).getD e 0=acc.getD e 0:=by
   intro e hm
   have:=he e hm
   simp only[List.getD_eq_getElem?_getD,List.append_assoc]
   rw[List.getElem?_append_left (by omega)]
  have e2:(acc++[GP.foldl (fun s e=>s|||2 ^ e|||acc.getD e 0) 0]++tail).getD acc.length 0=GP.foldl (fun s e=>s|||2 ^ e|||acc.getD e 0) 0:=by
   simp[List.getD_eq_getElem?_getD]
  rw[e2]
  have gen: ∀ (l:List Nat) (s:Nat),(∀e,e∈l→e∈GP)→l.foldl (fun s e=>s|||2 ^ e|||acc.getD e 0) s=l.foldl (fun s e=>s|||2 ^ e|||(acc++[GP.foldl (fun s e=>s|||2 ^ e|||acc.getD e 0) 0]++tail).getD e 0) s:=by
   intro l
   induction l with
   |nil=>intro s _;rfl
   |cons x l ih=>
    intro s hs
    simp only[List.foldl_cons]
    rw[e1 x (hs x (by simp)),ih _ (fun e h=>hs e (by simp[h]))]
  exact gen GP 0 (fun _ h=>h)
 |GP::r,acc,k+1,es,h,he=>by
  have:=AR r (acc++[GP.foldl (fun s e=>s|||2 ^ e|||acc.getD e 0) 0]) k es (by simpa using h) (fun e hm=>by have:=he e hm;simp;omega)
  simp only[jO]
  rw[show acc.length+(k+1)=(acc++[GP.foldl (fun s e=>s|||2 ^ e|||acc.getD e 0) 0]).length+k by simp;omega]
  exact this
theorem mY (g:Nat→Nat) (j:Nat): ∀ (l:List Nat) (s:Nat),(l.foldl (fun s e=>s|||2 ^ e|||g e) s).testBit j=true→s.testBit j=true∨ ∃e,e∈l∧(j=e∨(g e).testBit j=true)
 | [],s,h=> .inl h
 |e::r,s,h=>by
  simp only[List.foldl_cons]at h
  rcases mY g j r _ h with h|⟨e',h1,h2⟩
  · simp only[Nat.testBit_or,Bool.or_eq_true,Nat.testBit_two_pow,decide_eq_true_eq]at h
    rcases h with(h|h)|h
    · exact .inl h
    · exact .inr ⟨e,by simp, .inl h.symm⟩
    · exact .inr ⟨e,by simp, .inr h⟩
  · exact .inr ⟨e',by simp[h1],h2⟩
theorem oe {Es:List (List Nat)} (hE: ∀ (i:Nat) (es:List Nat),Es[i]? =some es→ ∀e,e∈es→e < i) {L:Nat→Bool}: ∀ (i:Nat),i < Es.length→
 (∀ (k:Nat) (es:List Nat),k < i→L k=true→Es[k]? =some es→ ∀e,e∈es→L e=true)→(∀ (es:List Nat),Es[i]? =some es→ ∀e,e∈es→L e=true)→ ∀j,((jO Es []).getD i 0).testBit j=true→L j=true∧j < i:=by
 intro i
 induction i using Nat.strongRecOn with
 |_ i ih=>
  intro hi ee hE' j hb
  obtain⟨es,iF⟩: ∃es,Es[i]? =some es:=⟨Es[i],by simp[hi]⟩
  have:=AR Es [] i es iF (fun e he=>by simpa using hE i es iF e he)
  simp only[List.length_nil,Nat.zero_add]at this
  rw[this]at hb
  rcases mY _ j es 0 hb with h|⟨e,he,h⟩
  · simp at h
  · have hlt:=hE i es iF e he
    have hLe:=hE' es iF e he
    rcases h with rfl|h
    · exact⟨hLe,hlt⟩
    · obtain⟨h1,h2⟩:=ih e hlt (by omega) (fun k es' hk=>ee k es' (by omega)) (fun es' arF e' he'=>ee e es' hlt hLe arF e' he') j h
      exact⟨h1,by omega⟩
def BW (l r:List Nat):Bool:=l.all fun x=> !r.contains x
theorem cw {l r:List Nat} (h:BW l r=true) {x:Nat} (hx:x∈l) (hy:x∈r):False:=by
 have:=List.all_eq_true.1 h x hx
 simp only[Bool.not_eq_true',List.contains_eq_mem]at this
 simp[hy]at this
structure gn where
 dst:Option Nat
 nm:List Nat
 rd:List Nat
 wr:List Nat
def gn.apart (f g:gn):Bool:=
 BW f.dst.toList g.nm&&BW g.dst.toList f.nm&&BW f.dst.toList g.dst.toList&&BW f.wr g.rd&&BW g.wr f.rd&&BW f.wr g.wr
def uE (Es:List (List Nat)) (fs:List gn):Bool:=
 let bits:=jO Es []
 (List.range fs.length).all fun j=>match fs[j]? with
   |some g=>(List.range j).all fun i=>match fs[i]? with
    |some f=>(bits.getD j 0).testBit i||f.apart g
    |none=>true
   |none=>true
theorem rf {Es:List (List Nat)} {fs:List gn} (h:uE Es fs=true) {i j:Nat} {f g:gn} (hij:i < j) (hf:fs[i]? =some f) (hg:fs[j]? =some g):
 ((jO Es []).getD j 0).testBit i=true∨f.apart g=true:=by
 unfold uE at h
 have hj:j < fs.length:=(List.getElem?_eq_some_iff.1 hg).1
 have:=List.all_eq_true.1 h j (List.mem_range.2 hj)
 simp only[hg]at this
 have:=List.all_eq_true.1 this i (List.mem_range.2 hij)
 simp only[hf,Bool.or_eq_true]at this
 exact this
theorem kM {p:Nat→Bool}: ∀ {N:Nat},(∃i,i < N∧p i=false)→ ∃i,i < N∧p i=false∧ ∀j,j < i→p j=true
 |0,⟨i,h,_⟩=>by omega
 |N+1,⟨i,h,hp⟩=>by
  by_cases hq: ∃i,i < N∧p i=false
  · obtain⟨k,h1,h2,h3⟩:=kM hq
    exact⟨k,by omega,h2,h3⟩
  · have hi:i=N:=by
     rcases Nat.lt_or_ge i N with hl|hl
     · exact absurd ⟨i,hl,hp⟩ hq
     · omega
    subst hi
    refine⟨i,by omega,hp,fun j hj=>?_⟩
    cases hpj:p j with
    |true=>rfl
    |false=>exact absurd ⟨j,hj,hpj⟩ hq
def mo (L:Nat→Bool):Nat→Nat
 |0=>0
 |k+1=>mo L k+if L k then 0 else 1
theorem qG {L:Nat→Bool}: ∀ {k:Nat},mo L k=0→ ∀i,i < k→L i=true
 |0,_,i,hi=>by omega
 |k+1,h,i,hi=>by
  simp only[mo]at h
  by_cases e:i=k
  · subst e
    cases hL:L i with
    |true=>rfl
    |false=>simp[hL]at h
  · exact qG (k:=k) (by omega) i (by omega)
theorem uJ {L L':Nat→Bool} {i:Nat} (hi:L i=false) (hi':L' i=true) (hne: ∀j,j≠i→L' j=L j): ∀ {k:Nat},i < k→mo L' k+1=mo L k
 |0,h=>by omega
 |k+1,h=>by
  simp only[mo]
  by_cases e:i=k
  · subst e
    have same: ∀ {m:Nat},m≤i→mo L' m=mo L m:=by
     intro m
     induction m with
     |zero=>intro _;rfl
     |succ m ih=>intro hm;simp only[mo];rw[ih (by omega),hne m (by omega)]
    rw[same (Nat.le_refl _),hi,hi']
    simp
  · have:=uJ hi hi' hne (k:=k) (by omega)
    rw[hne k (fun e'=>e e'.symm)]
    omega
def Dl (M A:Nat→Prop) (ρ:Env) (w:World) (Q:St→Nat→Prop) (a':Act) (w':World):Prop:=
 ∃st' bz A' ρ',Q st' bz∧Rel M A' ρ' (aZ bz) st' a' w'∧cz M w w'∧cC ρ ρ'∧bq A A' w
theorem Dl.HU {Q:St→Nat→Prop} {a':Act} {w':World} (h:Dl M A ρ w Q a' w'):Post M A ρ w Q a' w':=by
 obtain⟨st',c',A',ρ',h1,h2,h3,h4,h5⟩:=h
 exact⟨st',c',A',ρ',h1,h2,h3,h4.HU,h5.m⟩
theorem AJ {ops:Array Oper} {n base:Nat} {tmT:Nat→TS} {hpT:Nat→HS} {v:Nat→V} {fs:List gn} {id:Nat} {Q:Exit→Act→World→Prop}
 (hfo:P.follows .mixedOrders=true)
 (hstep: ∀i o,ops[i]? =some o→eL P ops o n (tmT i) (hpT i) (base+4 * i) (v i) (hpT (i+1))∧(∀t,find (tmT (i+1)) t=find (cN (tmT i) o.dst (v i)) t)∧
   ∃f,fs[i]? =some f∧f.dst=o.dst∧(∀t,t∈names ops o→t∈f.nm)∧(∀k,k∈iD (St.get ⟨n,tmT i,hpT i⟩) o→k∈f.rd)∧(∀k,k∈sA (St.get ⟨n,tmT i,hpT i⟩) (base+4 * i) o→k∈f.wr))
 (hE: ∀i o,ops[i]? =some o→ ∀e,e∈aX o→e < i)
 (hok:uE (ops.toList.map aX) fs=true)
 (bL:Rel M A ρ (aZ base) ⟨n,tmT 0,hpT 0⟩ a w)
 (hQ: ∀a' w',Dl M A ρ w (fun st c=>st=⟨n,tmT ops.size,hpT ops.size⟩∧c=base+4 * ops.size) a' w'→Q .normal a' w'):(Code.region id ops true).wp P Q a w:=by
 refine wp_region_any hfo ?_
 let N:=ops.size
 let dst:Nat→Option Nat:=fun i=>(ops[i]?).bind (·.dst)
 let wr:Nat→List Nat:=fun i=>((ops[i]?).map fun o=>sA (St.get ⟨n,tmT i,hpT i⟩) (base+4 * i) o).getD []
 have hop: ∀i,i < N→ ∃o,ops[i]? =some o:=fun i hi=>⟨ops[i],by simp[show i < ops.size from hi]⟩
 have tY: ∀i o,ops[i]? =some o→dst i=o.dst:=fun i o h=>by simp only[dst,h,Option.bind_some]
 have Iy: ∀i o,ops[i]? =some o→wr i=sA (St.get ⟨n,tmT i,hpT i⟩) (base+4 * i) o:=by
  intro i o h
  simp only[wr,h,Option.map_some,Option.getD_some]
 have tT: ∀i,i < N→ ∀k,¬k∈wr i→find (hpT (i+1)) k=find (hpT i) k:=by
  intro i hi k hk
  obtain⟨o,ho⟩:=hop i hi
  obtain⟨h1,_⟩:=hstep i o ho
  obtain⟨_,_,h3⟩:=h1.loc (tm2:=tmT i) (hp2:=hpT i) (fun _ _=>rfl) (fun _ _=>rfl) (fun _ _=>rfl)
  rw[Iy i o ho]at hk
  exact(h3.2 k hk).1
 have FT: ∀i,i < N→ ∀t,find (tmT (i+1)) t=find (cN (tmT i) (dst i) (v i)) t:=by
  intro i hi t
  obtain⟨o,ho⟩:=hop i hi
  rw[(hstep i o ho).2.1 t,tY i o ho]
 have Tv: ∀ (i:Nat) (es:List Nat),(ops.toList.map aX)[i]? =some es→ ∀e,e∈es→e < i:=by
  intro i es h e he
  simp only[List.getElem?_map,Array.getElem?_toList,Option.map_eq_some_iff]at h
  obtain⟨o,ho,rfl⟩:=h
  exact hE i o ho e he
 let cM:Array Bool→Nat→Bool:=fun listed i=>listed.getD i false
 let Fr:(Nat→Bool)→Nat→Prop:=fun L k=>base+4 * N≤k∨ ∃j,j < N∧L j=false∧base+4 * j≤k∧k < base+4 * j+4
 have gK: ∀ {L:Nat→Bool} {i:Nat},i < N→(∀k o,ops[k]? =some o→L k=true→ ∀e,e∈aX o→L e=true)→(∀o,ops[i]? =some o→ ∀e,e∈aX o→L e=true)→
  ∀j,((jO (ops.toList.map aX) []).getD i 0).testBit j=true→L j=true:=by
  intro L i hi ee HG j hb
  refine(oe Tv i (by simpa using hi) (fun k es _ D8 iF e he=>?_) (fun es iF e he=>?_) j hb).1
  · simp only[List.getElem?_map,Array.getElem?_toList,Option.map_eq_some_iff]at iF
    obtain⟨o,ho,rfl⟩:=iF
    exact ee k o ho D8 e he
  · simp only[List.getElem?_map,Array.getElem?_toList,Option.map_eq_some_iff]at iF
    obtain⟨o,ho,rfl⟩:=iF
    exact HG o ho e he
 have hNs:N=ops.size:=rfl
 have finish: ∀ (L:Nat→Bool) (a':Act) (w':World) (A':Nat→Prop) (ρ':Env),(∀i,i < N→L i=true)→
  Rel M A' ρ' (Fr L) ⟨n,mL dst v (tmT 0) L N,mO wr hpT (hpT 0) L N⟩ a' w'→cz M w w'→cC ρ ρ'→bq A A' w→Q .normal a' w':=by
  intro L a' w' A' ρ' ef hr dl ca hg
  refine hQ _ _ ⟨⟨n,tmT ops.size,hpT ops.size⟩,base+4 * ops.size,A',ρ',⟨rfl,rfl⟩,?_,dl,ca,hg⟩
  have h1:Rel M A' ρ' (Fr L) ⟨n,tmT ops.size,hpT ops.size⟩ a' w':=hr.forget rfl (fun t u hu=>by
   rw[show find (⟨n,mL dst v (tmT 0) L N,mO wr hpT (hpT 0) L N⟩:St).tmps t=find (tmT N) t from ox dst v (tmT 0) tmT N rfl FT L t N (Nat.le_refl _) ef];exact hu) (fun k b hb=>by
   rw[show find (⟨n,mL dst v (tmT 0) L N,mO wr hpT (hpT 0) L N⟩:St).heap k=find (hpT N) k from o7 wr hpT (hpT 0) N rfl tT L k N (Nat.le_refl _) ef];exact hb)
  exact h1.sub (fun k hk=> .inl hk)
 have main: ∀ (fuel:Nat) (listed:Array Bool) (a':Act) (w':World) (A':Nat→Prop) (ρ':Env),listed.size=N→mo (cM listed) N≤fuel→
  (∀k o,ops[k]? =some o→cM listed k=true→ ∀e,e∈aX o→cM listed e=true)→
  Rel M A' ρ' (Fr (cM listed)) ⟨n,mL dst v (tmT 0) (cM listed) N,mO wr hpT (hpT 0) (cM listed) N⟩ a' w'→cz M w w'→cC ρ ρ'→bq A A' w→
  wpAny P .any ops Q fuel listed a' w':=by
  intro fuel
  induction fuel with
  |zero=>
   intro listed a' w' A' ρ' hsz BI ee hr dl ca hg
   have ef:=qG (Nat.le_zero.1 BI)
   refine⟨?_,finish _ a' w' A' ρ' ef hr dl ca hg⟩
   apply List.eq_nil_iff_forall_not_mem.2
   intro i hi
   rw[mem_ready]at hi
   obtain⟨h0,o,ho,_⟩:=hi
   have hlt:i < N:=(Array.getElem?_eq_some_iff.1 ho).1
   have:=ef i hlt
   simp only[cM,Array.getD_eq_getD_getElem?]at this h0
   have jl:i < listed.size:=by omega
   simp[jl]at this h0
   simp[this]at h0
  |succ fuel ih=>
   intro listed a' w' A' ρ' hsz BI ee hr dl ca hg
   refine⟨fun Aj=>?_,fun i hi=>?_⟩
   · by_cases hex: ∃i,i < N∧cM listed i=false
     · exfalso
       obtain⟨i,hi,hL,BE⟩:=kM hex
       obtain⟨o,ho⟩:=hop i hi
       have:i∈Region.ready .any ops listed:=by
        rw[mem_ready]
        refine⟨?_,o,ho,fun e he hb=>?_⟩
        · simp only[cM,Array.getD_eq_getD_getElem?]at hL⊢
          have jl:i < listed.size:=by omega
          simpa[jl]using hL
        · have hm:e.on∈aX o:=by simp only[aX,List.mem_map,List.mem_filter];exact⟨e,⟨by simpa using he,hb⟩,rfl⟩
          exact BE _ (hE i o ho _ hm)
       rw[Aj]at this
       simp at this
     · exact finish _ a' w' A' ρ' (fun i hi=>by cases h:cM listed i with|true=>rfl|false=>exact absurd ⟨i,hi,h⟩ hex) hr dl ca hg
   · rw[mem_ready]at hi
     obtain⟨h0,o,ho,tX⟩:=hi
     have yB:i < N:=(Array.getElem?_eq_some_iff.1 ho).1
     have D9:cM listed i=false:=by
      simp only[cM,Array.getD_eq_getD_getElem?]at h0⊢
      have jl:i < listed.size:=by omega
      simpa[jl]using h0
     have HG: ∀e,e∈aX o→cM listed e=true:=by
      intro e he
      simp only[aX,List.mem_map,List.mem_filter]at he
      obtain⟨ed,⟨h1,h2⟩,rfl⟩:=he
      exact tX ed (by simpa using h1) h2
     obtain⟨hst,apB,f,hf,fd,fn,fr,fw⟩:=hstep i o ho
     have order: ∀j oj g,j≠i→ops[j]? =some oj→fs[j]? =some g→(f.apart g=true∨g.apart f=true)∨(j < i∧cM listed j=true)∨(i < j∧cM listed j=false):=by
      intro j oj g fk n8 iE
      have hjN:j < N:=(Array.getElem?_eq_some_iff.1 n8).1
      rcases Nat.lt_or_gt_of_ne fk with hlt|hgt
      · rcases rf hok hlt iE hf with hb|hb
        · exact .inr (.inl ⟨hlt,gK yB ee (fun o' vp=>by rw[ho]at vp;simp only[Option.some.injEq]at vp;subst vp;exact HG) j hb⟩)
        · exact .inl (.inr hb)
      · rcases rf hok hgt hf iE with hb|hb
        · refine .inr (.inr ⟨hgt,?_⟩)
          cases hLj:cM listed j with
          |false=>rfl
          |true=>
           have:=gK hjN ee (fun o' vp=>ee j o' vp hLj) i hb
           rw[D9]at this
           simp at this
        · exact .inl (.inl hb)
     have uk: ∀j,j < N→ ∃oj g,ops[j]? =some oj∧fs[j]? =some g∧g.dst=dst j∧ ∀k,k∈wr j→k∈g.wr:=by
      intro j hj
      obtain⟨oj,n8⟩:=hop j hj
      obtain⟨_,_,g,g1,g2,_,_,g5⟩:=hstep j oj n8
      exact⟨oj,g,n8,g1,by rw[g2,tY j oj n8],fun k hk=>g5 k (by rw[Iy j oj n8]at hk;exact hk)⟩
     have apart_spec: ∀ {f g:gn},(f.apart g=true∨g.apart f=true)→(∀t,f.dst=some t→g.dst=some t→False)∧(∀t,g.dst=some t→t∈f.nm→False)∧(∀k,k∈g.wr→k∈f.rd→False)∧(∀k,k∈g.wr→k∈f.wr→False):=by
      intro f g h
      rcases h with h|h<;>simp only[gn.apart,Bool.and_eq_true]at h<;>obtain⟨⟨⟨⟨⟨h1,h2⟩,h3⟩,h4⟩,h5⟩,h6⟩:=h
      · exact⟨fun t a b=>cw (x:=t) h3 (by simp[a]) (by simp[b]),fun t a b=>cw (x:=t) h2 (by simp[a]) b,fun k a b=>cw h5 a b,fun k a b=>cw h6 b a⟩
      · exact⟨fun t a b=>cw (x:=t) h3 (by simp[b]) (by simp[a]),fun t a b=>cw (x:=t) h1 (by simp[a]) b,fun k a b=>cw h4 a b,fun k a b=>cw h6 a b⟩
     have B2: ∀t,t∈names ops o→find (mL dst v (tmT 0) (cM listed) N) t=find (tmT i) t:=by
      intro t ht
      rw[lD dst v (tmT 0) (cM listed) (fun j=>decide (j < i)) t N ?_,sW dst v (tmT 0) i t N (Nat.le_of_lt yB),ox dst v (tmT 0) tmT N rfl FT _ t i (Nat.le_of_lt yB) (fun j hj=>by simpa using hj)]
      intro j hj yF
      by_cases fk:j=i
      · subst fk;rw[D9];simp
      · obtain⟨oj,g,n8,iE,gd,gw⟩:=uk j hj
        rcases order j oj g fk n8 iE with hap|⟨h1,h2⟩|⟨h1,h2⟩
        · exact((apart_spec hap).2.1 t (by rw[gd,yF]) (fn t ht)).elim
        · rw[h2];simp[h1]
        · rw[h2];simp;omega
     have uV: ∀k,(k∈f.rd∨k∈f.wr)→find (mO wr hpT (hpT 0) (cM listed) N) k=find (hpT i) k:=by
      intro k hk
      rw[lV wr hpT (hpT 0) (cM listed) (fun j=>decide (j < i)) k N ?_,tS wr hpT (hpT 0) i k N (Nat.le_of_lt yB),o7 wr hpT (hpT 0) N rfl tT _ k i (Nat.le_of_lt yB) (fun j hj=>by simpa using hj)]
      intro j hj yF
      by_cases fk:j=i
      · subst fk;rw[D9];simp
      · obtain⟨oj,g,n8,iE,gd,gw⟩:=uk j hj
        rcases order j oj g fk n8 iE with hap|⟨h1,h2⟩|⟨h1,h2⟩
        · rcases hk with hk|hk
          · exact((apart_spec hap).2.2.1 k (gw k yF) hk).elim
          · exact((apart_spec hap).2.2.2 k (gw k yF) hk).elim
        · rw[h2];simp[h1]
        · rw[h2];simp;omega
     have Gc: ∀k,k∈four (base+4 * i)→k∈f.wr:=fun k hk=>fw k (by simp only[sA,List.mem_append];exact .inl hk)
     obtain⟨lW,N4,IV⟩:=hst.loc (tm2:=mL dst v (tmT 0) (cM listed) N) (hp2:=mO wr hpT (hpT 0) (cM listed) N) B2 (fun k hk=>uV k (.inl (fr k hk))) (fun k hk=>uV k (.inr (Gc k hk)))
     rw[←Iy i o ho]at IV
     refine eL.sound ho N4 hr (fun k h1 h2=> .inr ⟨i,yB,D9,h1,h2⟩) ?_
     intro a2 w2 A2 ρ2 r1 r2 r3 r4
     have FX: ∀j,cM (listed.setIfInBounds i true) j=if j=i then true else cM listed j:=by
      intro j
      by_cases fk:j=i
      · subst fk
        have:j < listed.size:=by omega
        simp[cM,Array.getD_eq_getD_getElem?,this]
      · simp only[cM,fk,if_false]
        exact getD_set_ne false (fun e=>fk e.symm)
     have uc:cM (listed.setIfInBounds i true) i=true:=by rw[FX];simp
     have kY: ∀j,j≠i→cM (listed.setIfInBounds i true) j=cM listed j:=fun j hj=>by rw[FX,if_neg hj]
     have later: ∀j,i < j→j < N→(∀oj g,ops[j]? =some oj→fs[j]? =some g→(f.apart g=true∨g.apart f=true)→False)→cM (listed.setIfInBounds i true) j=false:=by
      intro j h1 h2 h3
      obtain⟨oj,g,n8,iE,gd,gw⟩:=uk j h2
      rw[kY j (by omega)]
      rcases order j oj g (by omega) n8 iE with hap|⟨h4,_⟩|⟨_,h5⟩
      · exact(h3 oj g n8 iE hap).elim
      · omega
      · exact h5
     refine ih (listed.setIfInBounds i true) a2 w2 A2 ρ2 (by simpa using hsz) ?_ ?_ ?_ (dl.trans r2) (ca.trans r3) (hg.trans r4 dl.size)
     · have:=uJ (L:=cM listed) (L':=cM (listed.setIfInBounds i true)) D9 uc kY (k:=N) yB
       omega
     · intro k ok' rS D8 e he
       by_cases nt:k=i
       · subst nt
         rw[ho]at rS
         simp only[Option.some.injEq]at rS
         subst rS
         exact getD_set_true (HG e he)
       · rw[kY k nt]at D8
         exact getD_set_true (ee k ok' rS D8 e he)
     · refine(Rel.forget (st':=⟨n,mL dst v (tmT 0) (cM (listed.setIfInBounds i true)) N,mO wr hpT (hpT 0) (cM (listed.setIfInBounds i true)) N⟩) r1 rfl (fun t u hu=>?_) (fun k b hb=>?_)).sub (fun k hk=>?_)
       · simp only[fM]
         split
         · rename_i hd
           have nn:=xI dst v (tmT 0) (cM (listed.setIfInBounds i true)) t i (by rw[tY i o ho];exact hd) uc N yB (fun j h1 h2 h3=>later j h1 h2 (fun oj g n8 iE hap=>by
            obtain⟨_,g',_,yC,gd,_⟩:=uk j h2
            rw[iE]at yC
            simp only[Option.some.injEq]at yC
            subst yC
            exact(apart_spec hap).1 t (by rw[fd];exact hd) (by rw[gd];exact h3)))
           rw[←nn];exact hu
         · rename_i hd
           rw[lD dst v (tmT 0) (cM listed) (cM (listed.setIfInBounds i true)) t N (fun j hj yF=>by
            by_cases fk:j=i
            · subst fk;rw[tY j o ho]at yF;exact absurd yF hd
            · exact(kY j fk).symm)]
           exact hu
       · by_cases hk:k∈wr i
         · have hkw:k∈f.wr:=fw k (by rw[←Iy i o ho];exact hk)
           have nn:=yt wr hpT (hpT 0) (cM (listed.setIfInBounds i true)) k i hk uc N yB (fun j h1 h2 h3=>later j h1 h2 (fun oj g n8 iE hap=>by
            obtain⟨_,g',_,yC,_,gw⟩:=uk j h2
            rw[iE]at yC
            simp only[Option.some.injEq]at yC
            subst yC
            exact(apart_spec hap).2.2.2 k (gw k h3) hkw))
           rw[IV.1 k hk, ←nn];exact hb
         · rw[(IV.2 k hk).2,lV wr hpT (hpT 0) (cM listed) (cM (listed.setIfInBounds i true)) k N (fun j hj yF=>by
            by_cases fk:j=i
            · subst fk;exact absurd yF hk
            · exact(kY j fk).symm)]
           exact hb
       · refine⟨?_,?_⟩
         · rcases hk with hk|⟨j,h1,h2,h3⟩
           · exact .inl hk
           · by_cases fk:j=i
             · subst fk;rw[uc]at h2;simp at h2
             · rw[kY j fk]at h2;exact .inr ⟨j,h1,h2,h3⟩
         · rintro⟨q1,q2⟩
           rcases hk with hk|⟨j,h1,h2,h3,h4⟩
           · omega
           · by_cases fk:j=i
             · subst fk;rw[uc]at h2;simp at h2
             · omega
 have h0: ∀i,cM (Array.replicate ops.size false) i=false:=by
  intro i
  simp only[cM,Array.getD_eq_getD_getElem?]
  by_cases hi:i < ops.size<;>simp[hi]
 refine main ops.size (Array.replicate ops.size false) a _ A ρ (by simp[N]) ?_ (fun k o _ hL=>by rw[h0]at hL;simp at hL) ?_ (cz.drew M w) (cC.refl _) (bq.refl _ _)
 · have: ∀k,mo (cM (Array.replicate ops.size false)) k=k:=by
    intro k
    induction k with
    |zero=>rfl
    |succ k ih=>simp only[mo,ih,h0];simp
   rw[this]
   exact Nat.le_refl _
 · have eT: ∀k,mL dst v (tmT 0) (cM (Array.replicate ops.size false)) k=tmT 0:=by
    intro k
    induction k with
    |zero=>rfl
    |succ k ih=>simp only[mL,h0,Bool.false_eq_true,if_false,ih]
   have eH: ∀k,mO wr hpT (hpT 0) (cM (Array.replicate ops.size false)) k=hpT 0:=by
    intro k
    induction k with
    |zero=>rfl
    |succ k ih=>simp only[mO,h0,Bool.false_eq_true,if_false,ih]
   rw[eT,eH]
   refine bL.drew.sub (fun k hk=>?_)
   simp only[aZ]
   rcases hk with hk|⟨j,_,_,h3,_⟩<;>omega
theorem uD {ops:Array Oper} {n base:Nat} {tmT:Nat→TS} {hpT:Nat→HS} {v:Nat→V} {fs:List gn} {id:Nat} {Q:Exit→Act→World→Prop}
 (hfo:P.follows .mixedOrders=true)
 (hstep: ∀i o,ops[i]? =some o→eL P ops o n (tmT i) (hpT i) (base+4 * i) (v i) (hpT (i+1))∧(∀t,find (tmT (i+1)) t=find (cN (tmT i) o.dst (v i)) t)∧
   ∃f,fs[i]? =some f∧f.dst=o.dst∧(∀t,t∈names ops o→t∈f.nm)∧(∀k,k∈iD (St.get ⟨n,tmT i,hpT i⟩) o→k∈f.rd)∧(∀k,k∈sA (St.get ⟨n,tmT i,hpT i⟩) (base+4 * i) o→k∈f.wr))
 (hE: ∀i o,ops[i]? =some o→ ∀e,e∈aX o→e < i)
 (hok:uE (ops.toList.map aX) fs=true)
 (bL:Rel M A ρ (aZ base) ⟨n,tmT 0,hpT 0⟩ a w)
 (hQ: ∀a' w',Post M A ρ w (fun st c=>st=⟨n,tmT ops.size,hpT ops.size⟩∧c=base+4 * ops.size) a' w'→Q .normal a' w'):(Code.region id ops true).wp P Q a w:=
 AJ hfo hstep hE hok bL fun a' w' h=>hQ a' w' h.HU
end Go.aU
end
section
namespace Go.aU
open Go
inductive Rc where
 |skip
 |ret
 |exit (id:Nat)
 |seq (a b:Rc)
 |cond (c:cL) (a b:Rc)
 |block (id:Nat) (b:Rc)
 |loop (b:Rc)
 |region (ops:List fe)
 |draw (ops:List fe) (es:List (List Nat))
def aM (P:Program) (all:Array Oper):List Oper→Option (List fe)
 | []=>some []
 |o::r=>
  match aV P o,aM P all r with
  |some x,some l=>
   match o.guard with
   |none=>some (⟨o.dst,none,x⟩::l)
   |some (j,want)=>
    match(all[j]?).bind (·.dst)with
    |some d=>some (⟨o.dst,some (d,want),x⟩::l)
    |none=>none
  |_,_=>none
def sI:Nat→List (List Nat)→Bool
 |_,[]=>true
 |i,es::r=>es.all (fun e=>decide (e < i))&&sI (i+1) r
def ae (P:Program):Code→Option Rc
 | .skip=>some .skip
 | .ret=>some .ret
 | .exit id=>some (.exit id)
 | .seq a b=>match ae P a,ae P b with
   |some x,some y=>some (.seq x y)
   |_,_=>none
 | .cond c a b=>match ae P a,ae P b with
   |some x,some y=>some (.cond (cT c) x y)
   |_,_=>none
 | .block id b=>match ae P b with
   |some x=>some (.block id x)
   |none=>none
 | .loop b=>match ae P b with
   |some x=>some (.loop x)
   |none=>none
 | .region _ ops false=>match aM P ops ops.toList with
   |some l=>some (.region l)
   |none=>none
 | .region _ ops true=>match aM P ops ops.toList with
   |some l=>if P.follows .mixedOrders&&sI 0 (ops.toList.map aX)then some (.draw l (ops.toList.map aX))else none
   |none=>none
 |_=>none
def Ck (tm:TS):List cL→Option (List W)
 | []=>some []
 |x::r=>match x.get tm,Ck tm r with
  | .w u,some l=>some (u::l)
  |_,_=>none
def rV {α:Sort _} (n:Nat) (k:Nat→α):α:=
 match n with
 |0=>k 0
 |m+1=>k (Nat.succ m)
theorem eW {α:Sort _} (n:Nat) (k:Nat→α):rV n k=k n:=by cases n<;>rfl
def xW (tm:TS) (dst:Option Nat) (v:V) (K:TS→Prop):Prop:=
 match dst with
 |some d=>K ((d,v)::tm)
 |none=>K tm
theorem ga (tm:TS) (dst:Option Nat) (v:V) (K:TS→Prop):xW tm dst v K=K (cN tm dst v):=by cases dst<;>rfl
def fnX (v:V) (us:List W):Option (FuncId×List W):=
 match v with
 | .w (.one (.jc f cK))=>some (f,us++cK.map fun p=> .one (.ptr p.1 p.2.1 p.2.2.1 p.2.2.2))
 | .w (.one (.yY f true ts))=>some (f, .agg (ts.map .t)::us)
 | .w (.one (.yY f false [t]))=>some (f, .one (.t t)::us)
 | .w (.one (.t (.val (.func (.func f) first cK))))=>if first.isEmpty&&cK.isEmpty then some (f,us)else none
 |_=>none
def EvR (P:Program) (op:Op) (ty:TypeId) (tm:TS) (hp:HS) (ctr:Nat) (v:V) (hp':HS):Prop:=
 (∀get,bF get ⟨none,op,ty, "", #[],none⟩=none)∧ ∀ (n:Nat) (o:Oper),o.op=op→o.type=ty→ak P (St.get ⟨n,tm,hp⟩) hp ctr o=some (v,hp')
def M1 (P:Program) (o:fe) (tm:TS) (hp:HS) (ctr:Nat) (K:TS→HS→Nat→Prop):Prop:=
 match o.op with
 | .call f args=>match Ck tm args with
   |some us=> ∃v hp',dP P hp ctr f us v hp'∧qW v fun v=>xW tm o.dst v fun aW=>rV (ctr+4) fun c=>K aW hp' c
   |none=>False
 | .fp x args=>match Ck tm args with
   |some us=>match fnX (x.get tm) us with
    |some (f,eO)=>enters P f=true∧ ∃v hp',dP P hp ctr f eO v hp'∧qW v fun v=>xW tm o.dst v fun aW=>rV (ctr+4) fun c=>K aW hp' c
    |none=>False
   |none=>False
 | .raw op ty=> ∃v hp',EvR P op ty tm hp ctr v hp'∧qW v fun v=>xW tm o.dst v fun aW=>rV (ctr+4) fun c=>K aW hp' c
 |r=>XR r tm hp ctr fun v hp'=>xW tm o.dst v fun aW=>rV (ctr+4) fun c=>K aW hp' c
def gQ (P:Program) (n:Nat) (op:Op) (ty:TypeId) (tm:TS) (hp:HS) (ctr:Nat) (v:V) (hp':HS):Prop:=
 ∀o:Oper,o.op=op→o.type=ty→pJ P o n tm hp ctr v hp'
def sy (P:Program) (n:Nat) (o:fe) (tm:TS) (hp:HS) (ctr:Nat) (K:TS→HS→Nat→Prop):Prop:=
 match o.op with
 | .call f args=>match Ck tm args with
   |some us=> ∃v hp' c',dQ P f us hp ctr v hp' c'∧qW v fun v=>xW tm o.dst v fun aW=>rV c' fun c=>K aW hp' c
   |none=>False
 | .fp x args=>match Ck tm args with
   |some us=>match fnX (x.get tm) us with
    |some (f,eO)=>enters P f=true∧ ∃v hp' c',dQ P f eO hp ctr v hp' c'∧qW v fun v=>xW tm o.dst v fun aW=>rV c' fun c=>K aW hp' c
    |none=>False
   |none=>False
 | .raw op ty=> ∃v hp',gQ P n op ty tm hp ctr v hp'∧qW v fun v=>xW tm o.dst v fun aW=>rV (ctr+4) fun c=>K aW hp' c
 |r=>XR r tm hp ctr fun v hp'=>xW tm o.dst v fun aW=>rV (ctr+4) fun c=>K aW hp' c
def Hi (P:Program) (n:Nat) (o:fe) (tm:TS) (hp:HS) (ctr:Nat) (K:TS→HS→Nat→Prop):Prop:=
 match eI n o.dst with
 |false=>False
 |true=>
  match o.guard with
  |none=>sy P n o tm hp ctr K
  |some (d,want)=>
   match find tm d with
   |some (.w (.one (.t (.val (.bool b)))))=>
    match want with
    |true=>br b (sy P n o ((d,bV true)::tm) hp ctr K) (K (cN ((d,bV false)::tm) o.dst (.dn [])) hp ctr)
    |false=>br b (K (cN ((d,bV true)::tm) o.dst (.dn [])) hp ctr) (sy P n o ((d,bV false)::tm) hp ctr K)
   |some (.dn [])=>K (cN tm o.dst (.dn [])) hp ctr
   |_=>False
def gP (P:Program) (n:Nat):List fe→TS→HS→Nat→(TS→HS→Nat→Prop)→Prop
 | [],tm,hp,ctr,K=>K tm hp ctr
 |o::r,tm,hp,ctr,K=>Hi P n o tm hp ctr fun tm hp ctr=>gP P n r tm hp ctr K
def Ro.gA:Ro→List cL
 | .hY x| .box x| .load _ x| .uy _ x| .field _ _ x| .extract x _| .len x| .nU x| .not x| .neg x| .conv _ x| .G6 x=>[x]
 | .pick c x y=>[c,x,y]
 | .alloc _=>[]
 | .build _ ps=>ps.map (·.2.2)
 | .aT _ _ ps=>ps.map (·.2)
 | .store _ x y| .dB _ x y| .tO _ _ x y| .make _ _ x y| .append _ _ x y| .bin _ x y| .sk _ x y| .Ba _ _ x y| .qb x y| .qd x y| .lH x y=>[x,y]
 | .slice _ x lo hi=>x::(lo.toList++hi.toList)
 | .jc _ cK=>cK
 | .call _ xs=>xs
 | .fp x xs=>x::xs
 | .raw op _=>op.operands.toList.map cT
def Ro.dF:Ro→Bool
 | .raw op _=>Go.aU.dF op
 | .load .. | .store .. | .append .. | .len .. | .nU .. | .qb .. | .qd .. | .call .. | .fp .. | .conv .. | .G6 .. =>true
 |_=>false
def Ro.wrt:Ro→Bool
 | .raw op _=>writes op
 | .store .. | .append .. =>true
 |_=>false
def RL:cL→Option Nat
 | .t n=>some n
 | .c _=>none
def dg (o:fe) (tm:TS) (ctr:Nat):gn:=
 let rd:=if o.op.dF then o.op.gA.flatMap fun x=>(x.get tm).ids else []
 ⟨o.dst,o.op.gA.filterMap RL++(o.guard.map (·.1)).toList,rd,four ctr++if o.op.wrt then rd else []⟩
def Hh (P:Program) (n:Nat) (o:fe) (tm:TS) (hp:HS) (ctr:Nat) (K:gn→TS→HS→Nat→Prop):Prop:=
 match eI n o.dst with
 |false=>False
 |true=>
  match o.guard with
  |none=>M1 P o tm hp ctr (K (dg o tm ctr))
  |some (d,want)=>
   match find tm d with
   |some (.w (.one (.t (.val (.bool b)))))=>
    match want with
    |true=>br b (M1 P o ((d,bV true)::tm) hp ctr (K (dg o ((d,bV true)::tm) ctr))) (K (dg o ((d,bV false)::tm) ctr) (cN ((d,bV false)::tm) o.dst (.dn [])) hp (ctr+4))
    |false=>br b (K (dg o ((d,bV true)::tm) ctr) (cN ((d,bV true)::tm) o.dst (.dn [])) hp (ctr+4)) (M1 P o ((d,bV false)::tm) hp ctr (K (dg o ((d,bV false)::tm) ctr)))
   |some (.dn [])=>K (dg o tm ctr) (cN tm o.dst (.dn [])) hp (ctr+4)
   |_=>False
def pH (P:Program) (n:Nat):List fe→List gn→TS→HS→Nat→(List gn→TS→HS→Nat→Prop)→Prop
 | [],fs,tm,hp,ctr,K=>K fs tm hp ctr
 |o::r,fs,tm,hp,ctr,K=>Hh P n o tm hp ctr fun f tm hp ctr=>pH P n r (fs++[f]) tm hp ctr K
def ff (K:TS→HS→Nat→Prop) (Q:Exit→TS→HS→Nat→Prop):Exit→TS→HS→Nat→Prop
 | .normal=>K
 |e=>Q e
def pU (id:Nat) (Q:Exit→TS→HS→Nat→Prop):Exit→TS→HS→Nat→Prop
 | .exit id'=>if id'=id then Q .normal else Q (.exit id')
 |e=>Q e
def iA (tm:TS) (hp:HS) (ctr:Nat) (aW:TS) (hp':HS) (c':Nat):Prop:=
 ∀ (M A:Nat→Prop) (ρ:Env) (n:Nat) (a:Act) (w:World),Rel M A ρ (aZ ctr) ⟨n,tm,hp⟩ a w→ ∃A' ρ',Rel M A' ρ' (aZ c') ⟨n,aW,hp'⟩ a w∧gR ρ ρ'∧eY M A A' w
theorem iA.aF {tm:TS} {hp:HS} {ctr:Nat} {S:pR} (hok:S.ok=true):iA tm hp ctr (S.tm tm) (S.hp hp) S.ctr:=fun M A _ _ _ w hr=>by
 obtain⟨ρ',h1,h2⟩:=hr.aF hok
 exact⟨A,ρ',h1,h2,eY.refl M A w⟩
theorem iA.refl {tm:TS} {hp:HS} {ctr:Nat}:iA tm hp ctr tm hp ctr:=fun M A ρ _ _ w hr=>⟨A,ρ,hr,gR.refl _,eY.refl M A w⟩
theorem iA.trans {tm kr tm2:TS} {hp iw hp2:HS} {c c1 c2:Nat} (h:iA tm hp c kr iw c1) (k:iA kr iw c1 tm2 hp2 c2):iA tm hp c tm2 hp2 c2:=by
 intro M A ρ n a w hr
 obtain⟨A1,ρ1,h1,e1,g1⟩:=h M A ρ n a w hr
 obtain⟨A2,ρ2,h2,e2,g2⟩:=k M A1 ρ1 n a w h1
 exact⟨A2,ρ2,h2,e1.trans e2,g1.trans g2 (Nat.le_refl _)⟩
inductive bI (J:TS→HS→Nat→Prop):TS→HS→Nat→Prop
 |mk {tm:TS} {hp:HS} {ctr:Nat} (S:pR) (hok:S.ok=true) (h:J (S.tm tm) (S.hp hp) S.ctr):bI J tm hp ctr
 |sem {tm:TS} {hp:HS} {ctr:Nat} {aW:TS} {hp':HS} {c':Nat} (hw:iA tm hp ctr aW hp' c') (h:bI J aW hp' c'):bI J tm hp ctr
theorem bI.mk' {J:TS→HS→Nat→Prop} {tm:TS} {hp:HS} {ctr:Nat} (h: ∃S:pR,S.ok=true∧J (S.tm tm) (S.hp hp) S.ctr):bI J tm hp ctr:=by
 obtain⟨S,h1,h2⟩:=h
 exact .mk S h1 h2
theorem bI.get {J:TS→HS→Nat→Prop} {tm:TS} {hp:HS} {ctr:Nat} (h:bI J tm hp ctr): ∃aW hp' c',iA tm hp ctr aW hp' c'∧J aW hp' c':=by
 induction h with
 |mk S hok h=>exact⟨_,_,_,iA.aF hok,h⟩
 |sem hw _ ih=>
  obtain⟨aW,hp',c',h1,h2⟩:=ih
  exact⟨aW,hp',c',hw.trans h1,h2⟩
def X (P:Program) (n:Nat):Rc→(Exit→TS→HS→Nat→Prop)→TS→HS→Nat→Prop
 | .skip,Q,tm,hp,ctr=>Q .normal tm hp ctr
 | .ret,Q,tm,hp,ctr=>Q .ret tm hp ctr
 | .exit id,Q,tm,hp,ctr=>Q (.exit id) tm hp ctr
 | .seq a b,Q,tm,hp,ctr=>X P n a (ff (X P n b Q) Q) tm hp ctr
 | .cond c a b,Q,tm,hp,ctr=>
   match(c.get tm).fq with
   |some v=>br v (X P n a Q tm hp ctr) (X P n b Q tm hp ctr)
   |none=>False
 | .block id b,Q,tm,hp,ctr=>X P n b (pU id Q) tm hp ctr
 | .loop b,Q,tm,hp,ctr=> ∃I:Nat→TS→HS→Nat→Prop,bI (fun tm hp c=> ∃m,I m tm hp c) tm hp ctr∧
    ∀m tm hp c,I m tm hp c→X P n b (ff (bI fun tm hp c=> ∃m',m' < m∧I m' tm hp c) Q) tm hp c
 | .region ops,Q,tm,hp,ctr=>gP P n ops tm hp ctr (Q .normal)
 | .draw ops es,Q,tm,hp,ctr=>pH P n ops [] tm hp ctr fun fs tm hp ctr=>uE es fs=true∧Q .normal tm hp ctr
variable {P:Program} {M A:Nat→Prop} {ρ:Env} {F:Nat→Prop} {st:St} {a:Act} {w:World}
theorem nK (st:St): ∀ (xs:List Operand),Ck st.tmps (xs.map cT)=nM st.get xs
 | []=>rfl
 |x::r=>by simp only[List.map_cons,Ck,nM,bh,nK st r];rfl
def lS (n:Nat) (K:TS→HS→Nat→Prop):St→Nat→Prop:=fun st c=>st.n=n∧K st.tmps st.heap c
theorem vD {o:Oper} {f:FuncId} {args:List cL} (h:aD P o=some (.call f args)):
 ∃eK gx,o.op= .call ⟨.value (.func f),eK,gx⟩∧args=eK.toList.map cT∧enters P f=true:=by
 obtain⟨dst,op,ty,pos,after,guard⟩:=o
 cases op
 case call c=>
  obtain⟨callee,eK,gx⟩:=c
  simp only[aD]at h
  split at h
  · split at h
    · split at h
      · simp at h
      · simp at h
      · simp at h
    · simp at h
  · split at h
    · simp at h
    · simp at h
  · split at h
    · simp at h
    · simp at h
  · split at h
    · split at h
      · split at h
        · split at h
          · simp at h
          · simp at h
        · simp at h
      · simp at h
    · simp at h
  · rename_i g
    split at h
    · rename_i he
      simp only[Option.some.injEq,Ro.call.injEq]at h
      obtain⟨rfl,rfl⟩:=h
      exact⟨eK,gx,rfl,rfl,he⟩
    · simp at h
  · simp at h
 all_goals
  exfalso
  simp only[aD]at h
  repeat' (split at h)
  all_goals first
   |contradiction
   |(simp at h;done)
   |(simp[Option.map_eq_some_iff]at h;done)
theorem kD {o:Oper} {f:FuncId} {args:List cL} (h:aV P o=some (.call f args)):
 ∃eK gx,o.op= .call ⟨.value (.func f),eK,gx⟩∧args=eK.toList.map cT∧enters P f=true:=by
 unfold aV at h
 split at h
 · rename_i r' cO
   replace cO:=di cO
   simp only[Option.some.injEq]at h
   subst h
   exact vD cO
 · simp only[Option.some.injEq]at h
   rcases jX o with⟨t,args,gx,_,e⟩|e
   · rw[e]at h;simp at h
   · rw[e]at h;simp at h
theorem tg {o:Oper} {x:cL} {args:List cL} (h:aD P o=some (.fp x args)):False:=by
 obtain⟨dst,op,ty,pos,after,guard⟩:=o
 cases op<;>simp only[aD]at h
 all_goals (repeat' split at h)
 all_goals simp at h
theorem xT {o:Oper} {op:Op} {ty:TypeId} (h:aD P o=some (.raw op ty)):False:=by
 obtain⟨dst,op,ty,pos,after,guard⟩:=o
 cases op<;>simp only[aD]at h
 all_goals (repeat' split at h)
 all_goals simp at h
theorem jH {o:Oper} {x:cL} {args:List cL} (h:aV P o=some (.fp x args)): ∃t eK gx,o.op= .call ⟨.value (.tmp t),eK,gx⟩∧x= .t t∧args=eK.toList.map cT:=by
 unfold aV at h
 split at h
 · rename_i r hr
   replace hr:=di hr
   simp only[Option.some.injEq]at h
   subst h
   exfalso
   exact tg hr
 · simp only[Option.some.injEq]at h
   rcases jX o with⟨t,eK,gx,ho,e⟩|e
   · rw[e]at h
     simp only[Ro.fp.injEq]at h
     exact⟨t,eK,gx,ho,h.1.symm,h.2.symm⟩
   · rw[e]at h;simp at h
theorem dK {o:Oper} {op:Op} {ty:TypeId} (h:aV P o=some (.raw op ty)):op=o.op∧ty=o.type:=by
 unfold aV at h
 split at h
 · rename_i r hr
   replace hr:=di hr
   simp only[Option.some.injEq]at h
   subst h
   exfalso
   exact xT hr
 · simp only[Option.some.injEq]at h
   rcases jX o with⟨t,eK,gx,ho,e⟩|e
   · rw[e]at h;simp at h
   · rw[e]at h
     simp only[Ro.raw.injEq]at h
     exact⟨h.1.symm,h.2.symm⟩
theorem sy.wpOp {ops:Array Oper} {o:Oper} {i:Nat} {x:Ro} {g:Option (Nat×Bool)} {ctr:Nat} {K:TS→HS→Nat→Prop} (hi:ops[i]? =some o) (hx:aV P o=some x)
 (hd:eI st.n o.dst=true) (hg:aP ops o st.tmps=some true) (h:sy P st.n ⟨o.dst,g,x⟩ st.tmps st.heap ctr K):kq P ops i (lS st.n K) st ctr:=by
 unfold kq
 simp only[hi]
 refine⟨hd,?_⟩
 simp only[hg]
 unfold sy at h
 split at h
 · rename_i f args j7
   simp only at j7
   subst j7
   obtain⟨eK,gx,ho,rfl,jN⟩:=kD hx
   simp only[nK]at h
   split at h
   · rename_i us eU
     obtain⟨v,hp',c',hc,hK⟩:=h
     rw[cl,ga,eW]at hK
     have vS:bF st.get o=some (f,us):=by
      unfold bF
      rw[ho]
      simp only[St.get,V.ofValue,eU]
      rfl
     exact .inl ⟨f,us,vS,jN,v,hp',c',hc,by rw[sD];exact⟨rfl,hK⟩⟩
   · exact h.elim
 · rename_i y args j7
   simp only at j7
   subst j7
   obtain⟨t,eK,gx,ho,rfl,rfl⟩:=jH hx
   simp only[nK]at h
   split at h
   · rename_i us eU
     split at h
     · rename_i f eO hf
       obtain⟨jN,v,hp',c',hc,hK⟩:=h
       rw[cl,ga,eW]at hK
       have hv:st.get (.tmp t)=(cL.t t).get st.tmps:=(bh st (.tmp t)).symm
       have vS:bF st.get o=some (f,eO):=by
        unfold bF
        rw[ho]
        unfold fnX at hf
        split at hf
        · rename_i iv
          simp only[Option.some.injEq,Prod.mk.injEq]at hf
          obtain⟨rfl,rfl⟩:=hf
          simp only[hv,iv,eU]
        · rename_i iv
          simp only[Option.some.injEq,Prod.mk.injEq]at hf
          obtain⟨rfl,rfl⟩:=hf
          simp only[hv,iv,eU,lN,Option.map_some]
        · rename_i iv
          simp only[Option.some.injEq,Prod.mk.injEq]at hf
          obtain⟨rfl,rfl⟩:=hf
          simp only[hv,iv,eU,lN,Option.map_some]
        · rename_i iv
          simp only[hv,iv,eU]
          exact hf
        · simp at hf
       exact .inl ⟨f,eO,vS,jN,v,hp',c',hc,by rw[sD];exact⟨rfl,hK⟩⟩
     · exact h.elim
   · exact h.elim
 · rename_i op ty j7
   simp only at j7
   subst j7
   obtain⟨rfl,rfl⟩:=dK hx
   obtain⟨v,hp',hrn,hK⟩:=h
   rw[cl,ga,eW]at hK
   exact .inr ⟨v,hp',hrn o rfl rfl,by rw[sD];exact⟨rfl,hK⟩⟩
 · simp only[ga,eW]at h
   obtain⟨h1,v,heap',h2,h3⟩:=pG hx h
   exact .inr ⟨v,heap',iK h2,by rw[sD];exact⟨rfl,h3⟩⟩
theorem Rel.lit {n:Nat} {tm:TS} {hp:HS} {d:Nat} {b c:Bool} (h:Rel M A ρ F ⟨n,tm,hp⟩ a w) (hf:find tm d=some (bV b)) (hb:b=c):Rel M A ρ F ⟨n,(d,bV c)::tm,hp⟩ a w:=by
 subst hb
 refine h.forget rfl (fun t v hv=>?_) (fun _ _ h=>h)
 simp only[aj]at hv
 split at hv
 · rename_i e;subst e;rw[←hv];exact hf
 · exact hv
theorem Hi.sound {ops:Array Oper} {o:Oper} {i n:Nat} {x:Ro} {g:Option (Nat×Bool)} {ctr:Nat} {tm:TS} {hp:HS} {K:TS→HS→Nat→Prop} {Q:Exit→Act→World→Prop} {K':Act→World→Prop}
 (hi:ops[i]? =some o) (hx:aV P o=some x) (hgd:(o.guard=none∧g=none)∨ ∃j want d,o.guard=some (j,want)∧(ops[j]?).bind (·.dst)=some d∧g=some (d,want))
 (h:Hi P n ⟨o.dst,g,x⟩ tm hp ctr K) (hr:Rel M A ρ (aZ ctr) ⟨n,tm,hp⟩ a w) (hk: ∀a' w',Post M A ρ w (lS n K) a' w'→K' a' w'):wpOp P ops Q i K' a w:=by
 unfold Hi at h
 split at h
 · exact h.elim
 · rename_i hd
   simp only at hd
   have fW: ∀ {aW:TS},Rel M A ρ (aZ ctr) ⟨n,aW,hp⟩ a w→aP ops o aW=some false→K (cN aW o.dst (.dn [])) hp ctr→wpOp P ops Q i K' a w:=by
    intro aW cO iE hK
    refine kq.sound (K:=lS n K) (ctr:=ctr) ?_ cO hk
    unfold kq
    simp only[hi]
    refine⟨hd,?_⟩
    simp only[iE,eB]
    exact⟨rfl,hK⟩
   have wanted: ∀ {aW:TS},Rel M A ρ (aZ ctr) ⟨n,aW,hp⟩ a w→aP ops o aW=some true→sy P n ⟨o.dst,g,x⟩ aW hp ctr K→wpOp P ops Q i K' a w:=by
    intro aW cO iE hX
    exact kq.sound (K:=lS n K) (ctr:=ctr) (sy.wpOp (st:=⟨n,aW,hp⟩) hi hx hd iE hX) cO hk
   rcases hgd with⟨yD,rfl⟩|⟨j,want,d,yD,hj,rfl⟩
   · simp only at h
     exact wanted hr (by simp[aP,yD]) h
   · have ec: ∀ {aW:TS} {b:Bool},find aW d=some (bV b)→aP ops o aW=some (b==want):=by
      intro aW b hf
      simp only[aP,yD,hj,hf]
     simp only at h
     split at h
     · rename_i b hf
       split at h
       · rcases iM h with⟨hb,h⟩|⟨hb,h⟩
         · exact wanted (hr.lit hf hb) (by rw[ec (b:=true) (by simp[aj])];rfl) h
         · exact fW (hr.lit hf hb) (by rw[ec (b:=false) (by simp[aj])];rfl) h
       · rcases iM h with⟨hb,h⟩|⟨hb,h⟩
         · exact fW (hr.lit hf hb) (by rw[ec (b:=true) (by simp[aj])];rfl) h
         · exact wanted (hr.lit hf hb) (by rw[ec (b:=false) (by simp[aj])];rfl) h
     · rename_i hf
       exact fW hr (by simp only[aP,yD,hj,hf]) h
     · exact h.elim
theorem gP.sound {ops:Array Oper} {n:Nat} {K:TS→HS→Nat→Prop} {Q:Exit→Act→World→Prop}: ∀ {l:List Oper} {rs:List fe} {k:Nat} {M A:Nat→Prop} {ρ:Env} {tm:TS} {hp:HS} {a:Act} {w:World} {ctr:Nat},
 (∀j,ops[k+j]? =l[j]?)→aM P ops l=some rs→gP P n rs tm hp ctr K→Rel M A ρ (aZ ctr) ⟨n,tm,hp⟩ a w→(∀a' w',Post M A ρ w (lS n K) a' w'→Q .normal a' w')→
 wpOps P ops Q (List.range' k l.length) a w
 | [],rs,k,M,A,ρ,tm,hp,a,w,ctr,hl,dV,h,hr,hq=>by
   simp only[aM,Option.some.injEq]at dV
   subst dV
   exact hq _ _ (Post.here hr ⟨rfl,h⟩)
 |o::l,rs,k,M,A,ρ,tm,hp,a,w,ctr,hl,dV,h,hr,hq=>by
  simp only[aM]at dV
  split at dV
  · rename_i x l' hx hl'
    have hi:ops[k]? =some o:=by simpa using hl 0
    have rest: ∀ {g:Option (Nat×Bool)},rs=⟨o.dst,g,x⟩::l'→((o.guard=none∧g=none)∨ ∃j want d,o.guard=some (j,want)∧(ops[j]?).bind (·.dst)=some d∧g=some (d,want))→wpOps P ops Q (List.range' k (l.length+1)) a w:=by
     intro g N7 hgd
     subst N7
     simp only[gP]at h
     rw[List.range'_succ,wpOps_cons]
     refine Hi.sound hi hx hgd h hr (fun a' w' hp'=>?_)
     obtain⟨st',c',A',ρ',⟨h1,Gl⟩,h2,h3,h4,h5⟩:=hp'
     subst h1
     exact gP.sound (k:=k+1) (fun j=>by have:=hl (j+1);rw[show k+1+j=k+(j+1) by omega,this];simp) hl' Gl h2 (fun a2 w2 hp2=>hq _ _ (hp2.trans h3 h4 h5))
    split at dV
    · rename_i hg
      simp only[Option.some.injEq]at dV
      exact rest dV.symm (.inl ⟨hg,rfl⟩)
    · rename_i j want hg
      split at dV
      · rename_i d hd
        simp only[Option.some.injEq]at dV
        exact rest dV.symm (.inr ⟨j,want,d,hg,hd,rfl⟩)
      · simp at dV
  · simp at dV
theorem Ad (v:Value):(V.ofValue v).ids=[]:=by
 cases v with
 |agg cs=>
  simp only[V.ofValue]
  split
  · simp only[V.ids,W.ids,List.flatMap_eq_nil_iff,List.mem_map]
    rintro c ⟨x,_,rfl⟩
    rfl
  · rfl
 |_=>rfl
theorem nW {place:Nat→Option (Nat×Nat)}: ∀ {ps:List (Nat×Operand)} {l:List (Nat×Nat×cL)},lR place ps=some l→ ∀p,p∈ps→cT p.2∈l.map (·.2.2)
 | [],l,h,p,hp=>by simp at hp
 |(i,x)::r,l,h,p,hp=>by
  simp only[lR]at h
  split at h
  · rename_i off size l' h1 h2
    simp only[Option.some.injEq]at h
    subst h
    rcases List.mem_cons.1 hp with rfl|hp
    · simp
    · simp only[List.map_cons,List.mem_cons];exact .inr (nW h2 p hp)
  · simp at h
theorem vC {o:Oper} {r:Ro} (h:aD P o=some r):(∀x,x∈o.op.operands→cT x∈r.gA∨ ∃f,x= .func f)∧(dF o.op=true→r.dF=true)∧(writes o.op=true→r.wrt=true):=by
 obtain⟨dst,op,ty,pos,after,guard⟩:=o
 cases op
 case call c=>
  obtain⟨callee,args,gx⟩:=c
  simp only[aD]at h
  split at h
  · split at h
    · rename_i x t hx ht
      split at h
      · simp only[Option.some.injEq]at h
        subst h
        refine⟨fun y hy=>?_,fun _=>rfl,fun hw=>by simp[writes]at hw⟩
        have:y∈args.toList:=by simpa[Op.operands,Call.operands]using hy
        rw[hx]at this
        simp only[List.mem_singleton]at this
        subst this
        exact .inl (by simp[Ro.gA])
      · simp only[Option.some.injEq]at h
        subst h
        refine⟨fun y hy=>?_,fun _=>rfl,fun hw=>by simp[writes]at hw⟩
        have:y∈args.toList:=by simpa[Op.operands,Call.operands]using hy
        rw[hx]at this
        simp only[List.mem_singleton]at this
        subst this
        exact .inl (by simp[Ro.gA])
      · simp at h
    · simp at h
  · split at h
    · rename_i x y hx
      simp only[Option.some.injEq]at h
      subst h
      refine⟨fun z hz=>?_,fun _=>rfl,fun hw=>by simp[writes]at hw⟩
      have:z∈args.toList:=by simpa[Op.operands,Call.operands]using hz
      rw[hx]at this
      simp only[List.mem_cons,List.not_mem_nil,or_false]at this
      rcases this with rfl|rfl
      · exact .inl (by simp[Ro.gA])
      · exact .inl (by simp[Ro.gA])
    · simp at h
  · split at h
    · rename_i x y hx
      simp only[Option.some.injEq]at h
      subst h
      refine⟨fun z hz=>?_,fun _=>rfl,fun hw=>by simp[writes]at hw⟩
      have:z∈args.toList:=by simpa[Op.operands,Call.operands]using hz
      rw[hx]at this
      simp only[List.mem_cons,List.not_mem_nil,or_false]at this
      rcases this with rfl|rfl
      · exact .inl (by simp[Ro.gA])
      · exact .inl (by simp[Ro.gA])
    · simp at h
  · split at h
    · rename_i s x t t' hx ht
      split at h
      · split at h
        · split at h
          · simp only[Option.some.injEq]at h
            subst h
            refine⟨fun y hy=>?_,fun _=>rfl,fun _=>rfl⟩
            have:y∈args.toList:=by simpa[Op.operands,Call.operands]using hy
            rw[hx]at this
            simp only[List.mem_cons,List.not_mem_nil,or_false]at this
            rcases this with rfl|rfl
            · exact .inl (by simp[Ro.gA])
            · exact .inl (by simp[Ro.gA])
          · simp at h
        · simp at h
      · simp at h
    · simp at h
  · rename_i f
    split at h
    · simp only[Option.some.injEq]at h
      subst h
      refine⟨fun y hy=>?_,fun _=>rfl,fun hw=>by simp[writes]at hw⟩
      simp only[Op.operands,Call.operands,Array.mem_append]at hy
      rcases hy with hy|hy
      · exact .inr ⟨f,by simpa using hy⟩
      · exact .inl (by simp only[Ro.gA,List.mem_map];exact⟨y,by simpa using hy,rfl⟩)
    · simp at h
  · simp at h
 case build t ps=>
  simp only[aD]at h
  split at h
  · split at h
    · simp only[Option.map_eq_some_iff]at h
      obtain⟨l,hl,rfl⟩:=h
      refine⟨fun y hy=>?_,fun hl=>by simp[dF]at hl,fun hw=>by simp[writes]at hw⟩
      simp[Op.operands]at hy
      obtain⟨i,hi⟩:=hy
      exact .inl (nW hl (i,y) (by simpa using hi))
    · simp at h
  · split at h
    · simp only[Option.map_eq_some_iff]at h
      obtain⟨l,hl,rfl⟩:=h
      refine⟨fun y hy=>?_,fun hl=>by simp[dF]at hl,fun hw=>by simp[writes]at hw⟩
      simp[Op.operands]at hy
      obtain⟨i,hi⟩:=hy
      exact .inl (nW hl (i,y) (by simpa using hi))
    · simp at h
  · simp at h
 case buildSlice t len ps=>
  simp only[aD]at h
  split at h
  · split at h
    · split at h
      · simp only[Option.some.injEq]at h
        subst h
        refine⟨fun y hy=>?_,fun hl=>by simp[dF]at hl,fun hw=>by simp[writes]at hw⟩
        simp[Op.operands]at hy
        obtain⟨i,hi⟩:=hy
        refine .inl ?_
        simp only[Ro.gA,List.map_map,List.mem_map]
        exact⟨(i,y),by simpa using hi,rfl⟩
      · simp at h
    · simp at h
  · simp at h
 case makeFunc fn first captured=>
  cases fn with
  |func f=>
   simp only[aD]at h
   split at h
   · rename_i hc
     simp only[Option.some.injEq]at h
     subst h
     simp only[Bool.and_eq_true,Array.isEmpty_iff]at hc
     obtain⟨rfl,_⟩:=hc
     refine⟨fun y hy=>?_,fun hl=>by simp[dF]at hl,fun hw=>by simp[writes]at hw⟩
     refine .inl ?_
     simp only[Ro.gA,List.mem_map]
     exact⟨y,by simpa[Op.operands]using hy,rfl⟩
   · simp at h
  |_=>simp[aD]at h
 case slice t x lo hi mx=>
  cases mx with
  |some m=>simp[aD]at h
  |none=>
   simp only[aD]at h
   split at h
   · simp only[Option.map_eq_some_iff]at h
     obtain⟨n,hn,rfl⟩:=h
     refine⟨fun y hy=>?_,fun hl=>by simp[dF]at hl,fun hw=>by simp[writes]at hw⟩
     refine .inl ?_
     cases lo<;>cases hi<;>simp[Op.operands,Ro.gA]at hy⊢ <;>(first|(rcases hy with rfl|rfl|rfl<;>simp)|(rcases hy with rfl|rfl<;>simp)|(subst hy;simp))
   · simp at h
 case unOp op t x=>
  cases op<;>simp only[aD]at h<;>try (simp at h;done)
  all_goals
   simp only[Option.some.injEq]at h
   subst h
   refine⟨fun y hy=>?_,fun hl=>by simp[dF]at hl,fun hw=>by simp[writes]at hw⟩
   simp[Op.operands]at hy
   subst hy
   simp[Ro.gA]
 all_goals
  simp only[aD]at h
  repeat' (split at h)
  all_goals first
   |contradiction
   |(simp at h;done)
   |(simp only[Option.some.injEq]at h
     subst h
     refine⟨fun y hy=>?_,fun hl=>by first|rfl|(simp[dF]at hl;done),fun hw=>by first|rfl|(simp[writes]at hw;done)⟩
     first
      |(simp[Op.operands]at hy;done)
      |(simp[Op.operands]at hy;rcases hy with rfl|rfl|rfl<;>simp[Ro.gA];done)
      |(simp[Op.operands]at hy;rcases hy with rfl|rfl<;>simp[Ro.gA];done)
      |(simp[Op.operands]at hy;subst hy;simp[Ro.gA];done))
   |(simp only[Option.map_eq_some_iff]at h
     obtain⟨q,hq,rfl⟩:=h
     refine⟨fun y hy=>?_,fun hl=>by first|rfl|(simp[dF]at hl;done),fun hw=>by first|rfl|(simp[writes]at hw;done)⟩
     first
      |(simp[Op.operands]at hy;done)
      |(simp[Op.operands]at hy;rcases hy with rfl|rfl|rfl<;>simp[Ro.gA];done)
      |(simp[Op.operands]at hy;rcases hy with rfl|rfl<;>simp[Ro.gA];done)
      |(simp[Op.operands]at hy;subst hy;simp[Ro.gA];done))
theorem M1.step {o:Oper} {x:Ro} {g:Option (Nat×Bool)} {n ctr:Nat} {tm:TS} {hp:HS} {K:TS→HS→Nat→Prop} (hx:aV P o=some x) (h:M1 P ⟨o.dst,g,x⟩ tm hp ctr K):
 ∃v hp',(match bF (St.get ⟨n,tm,hp⟩) o with
  |some (g,us)=>enters P g=true∧dP P hp ctr g us v hp'
  |none=>ak P (St.get ⟨n,tm,hp⟩) hp ctr o=some (v,hp'))∧K (cN tm o.dst v) hp' (ctr+4):=by
 unfold M1 at h
 split at h
 · rename_i f args j7
   simp only at j7
   subst j7
   obtain⟨eK,gx,ho,rfl,jN⟩:=kD hx
   have D2:=nK ⟨n,tm,hp⟩ eK.toList
   simp only at D2
   rw[D2]at h
   split at h
   · rename_i us eU
     obtain⟨v,hp',hc,hK⟩:=h
     rw[cl,ga,eW]at hK
     have vS:bF (St.get ⟨n,tm,hp⟩) o=some (f,us):=by
      unfold bF
      rw[ho]
      have hf:St.get ⟨n,tm,hp⟩ (.func f)= .w (.one (.t (.val (.func (.func f) #[] #[])))):=rfl
      simp only[hf,eU]
      rfl
     exact⟨v,hp',by rw[vS];exact⟨jN,hc⟩,hK⟩
   · exact h.elim
 · rename_i y args j7
   simp only at j7
   subst j7
   obtain⟨t,eK,gx,ho,rfl,rfl⟩:=jH hx
   have D2:=nK ⟨n,tm,hp⟩ eK.toList
   simp only at D2
   rw[D2]at h
   split at h
   · rename_i us eU
     split at h
     · rename_i f eO hf
       obtain⟨jN,v,hp',hc,hK⟩:=h
       rw[cl,ga,eW]at hK
       have hv:St.get ⟨n,tm,hp⟩ (.tmp t)=(cL.t t).get tm:=(bh ⟨n,tm,hp⟩ (.tmp t)).symm
       have vS:bF (St.get ⟨n,tm,hp⟩) o=some (f,eO):=by
        unfold bF
        rw[ho]
        unfold fnX at hf
        split at hf
        · rename_i iv
          simp only[Option.some.injEq,Prod.mk.injEq]at hf
          obtain⟨rfl,rfl⟩:=hf
          simp only[hv,iv,eU]
        · rename_i iv
          simp only[Option.some.injEq,Prod.mk.injEq]at hf
          obtain⟨rfl,rfl⟩:=hf
          simp only[hv,iv,eU,lN,Option.map_some]
        · rename_i iv
          simp only[Option.some.injEq,Prod.mk.injEq]at hf
          obtain⟨rfl,rfl⟩:=hf
          simp only[hv,iv,eU,lN,Option.map_some]
        · rename_i iv
          simp only[hv,iv,eU]
          exact hf
        · simp at hf
       exact⟨v,hp',by rw[vS];exact⟨jN,hc⟩,hK⟩
     · exact h.elim
   · exact h.elim
 · rename_i op ty j7
   simp only at j7
   subst j7
   obtain⟨rfl,rfl⟩:=dK hx
   obtain⟨v,hp',⟨vS,dl⟩,hK⟩:=h
   rw[cl,ga,eW]at hK
   have arM:bF (St.get ⟨n,tm,hp⟩) o=none:=by
    have:=vS (St.get ⟨n,tm,hp⟩)
    unfold bF at this⊢
    exact this
   exact⟨v,hp',by rw[arM];exact dl n o rfl rfl,hK⟩
 · rename_i r hne
   simp only[ga,eW]at h
   obtain⟨h1,v,hp',h2,h3⟩:=pG (st:=⟨n,tm,hp⟩) hx h
   exact⟨v,hp',by rw[h1];exact h2,h3⟩
theorem xS {o:Oper} {r:Ro} (h:aV P o=some r):(∀x,x∈o.op.operands→cT x∈r.gA∨ ∃f,x= .func f)∧(dF o.op=true→r.dF=true)∧(writes o.op=true→r.wrt=true):=by
 unfold aV at h
 split at h
 · rename_i r' cO
   replace cO:=di cO
   simp only[Option.some.injEq]at h
   subst h
   exact vC cO
 · simp only[Option.some.injEq]at h
   subst h
   rcases jX o with⟨t,args,gx,ho,e⟩|e
   · rw[e,ho]
     refine⟨fun x hx=> .inl ?_,fun _=>rfl,fun hw=>by simp[writes]at hw⟩
     have hx':x= .tmp t∨x∈args:=by simpa[Op.operands,Call.operands]using hx
     simp only[Ro.gA,List.mem_cons,List.mem_map]
     rcases hx' with rfl|hx'
     · exact .inl rfl
     · exact .inr ⟨x,by simpa using hx',rfl⟩
   · rw[e]
     refine⟨fun x hx=> .inl ?_,fun hl=>hl,fun hw=>hw⟩
     simp only[Ro.gA,List.mem_map]
     exact⟨x,by simpa using hx,rfl⟩
theorem wZ {ops:Array Oper} {o:Oper} {x:Ro} {g:Option (Nat×Bool)} {n ctr:Nat} {tm:TS} {hp:HS} (hx:aV P o=some x)
 (hgd:(o.guard=none∧g=none)∨ ∃j want d,o.guard=some (j,want)∧(ops[j]?).bind (·.dst)=some d∧g=some (d,want)):
 (dg ⟨o.dst,g,x⟩ tm ctr).dst=o.dst∧(∀t,t∈names ops o→t∈ (dg ⟨o.dst,g,x⟩ tm ctr).nm)∧(∀k,k∈iD (St.get ⟨n,tm,hp⟩) o→k∈ (dg ⟨o.dst,g,x⟩ tm ctr).rd)∧
   (∀k,k∈sA (St.get ⟨n,tm,hp⟩) ctr o→k∈ (dg ⟨o.dst,g,x⟩ tm ctr).wr):=by
 obtain⟨h1,h2,h3⟩:=xS hx
 have hrd: ∀k,k∈iD (St.get ⟨n,tm,hp⟩) o→k∈ (dg ⟨o.dst,g,x⟩ tm ctr).rd:=by
  intro k hk
  simp only[iD]at hk
  split at hk
  · rename_i hl
    simp only[dg,h2 hl,if_true,List.mem_flatMap]
    simp only[List.mem_flatMap]at hk
    obtain⟨y,hy,hky⟩:=hk
    rw[←bh]at hky
    rcases h1 y (by simpa using hy)with hm|⟨f,rfl⟩
    · exact⟨cT y,hm,hky⟩
    · simp only[cT,cL.get,Ad]at hky
      simp at hky
  · simp at hk
 refine⟨rfl,fun t ht=>?_,hrd,fun k hk=>?_⟩
 · simp only[names,List.mem_append,List.mem_filterMap]at ht
   simp only[dg,List.mem_append,List.mem_filterMap]
   rcases ht with⟨y,hy,hyt⟩|ht
   · left
     cases y with
     |tmp t'=>
      simp only[Option.some.injEq]at hyt
      subst hyt
      rcases h1 (.tmp t') (by simpa using hy)with hm|⟨f,hf⟩
      · exact⟨.t t',hm,rfl⟩
      · simp at hf
     |_=>simp at hyt
   · right
     rcases hgd with⟨hg,rfl⟩|⟨j,want,d,hg,hd,rfl⟩
     · simp[hg]at ht
     · simp only[hg,hd]at ht
       simpa using ht
 · simp only[sA,List.mem_append]at hk
   simp only[dg,List.mem_append]
   rcases hk with hk|hk
   · exact .inl hk
   · split at hk
     · rename_i hw
       right
       rw[if_pos (h3 hw)]
       exact hrd k hk
     · simp at hk
theorem Hh.step {ops:Array Oper} {o:Oper} {n ctr:Nat} {x:Ro} {g:Option (Nat×Bool)} {tm:TS} {hp:HS} {K:gn→TS→HS→Nat→Prop}
 (hx:aV P o=some x) (hgd:(o.guard=none∧g=none)∨ ∃j want d,o.guard=some (j,want)∧(ops[j]?).bind (·.dst)=some d∧g=some (d,want)) (h:Hh P n ⟨o.dst,g,x⟩ tm hp ctr K):
 ∃aW v hp',(∀t,find aW t=find tm t)∧eL P ops o n aW hp ctr v hp'∧K (dg ⟨o.dst,g,x⟩ aW ctr) (cN aW o.dst v) hp' (ctr+4):=by
 unfold Hh at h
 split at h
 · exact h.elim
 · rename_i hd
   simp only at hd
   have wanted: ∀ {aW:TS},(∀t,find aW t=find tm t)→aP ops o aW=some true→M1 P ⟨o.dst,g,x⟩ aW hp ctr (K (dg ⟨o.dst,g,x⟩ aW ctr))→
    ∃aW v hp',(∀t,find aW t=find tm t)∧eL P ops o n aW hp ctr v hp'∧K (dg ⟨o.dst,g,x⟩ aW ctr) (cN aW o.dst v) hp' (ctr+4):=by
    intro aW he hg hX
    obtain⟨v,hp',h1,h2⟩:=M1.step (n:=n) hx hX
    exact⟨aW,v,hp',he,⟨hd,by rw[hg];exact h1⟩,h2⟩
   have fW: ∀ {aW:TS},(∀t,find aW t=find tm t)→aP ops o aW=some false→K (dg ⟨o.dst,g,x⟩ aW ctr) (cN aW o.dst (.dn [])) hp (ctr+4)→
    ∃aW v hp',(∀t,find aW t=find tm t)∧eL P ops o n aW hp ctr v hp'∧K (dg ⟨o.dst,g,x⟩ aW ctr) (cN aW o.dst v) hp' (ctr+4):=by
    intro aW he hg hK
    exact⟨aW, .dn [],hp,he,⟨hd,by rw[hg];exact⟨rfl,rfl⟩⟩,hK⟩
   rcases hgd with⟨yD,rfl⟩|⟨j,want,d,yD,hj,rfl⟩
   · simp only at h
     exact wanted (fun _=>rfl) (by simp[aP,yD]) h
   · have ec: ∀ {aW:TS} {b:Bool},find aW d=some (bV b)→aP ops o aW=some (b==want):=by
      intro aW b hf
      simp only[aP,yD,hj,hf]
     simp only at h
     split at h
     · rename_i b hf
       have lit: ∀ {c:Bool},b=c→ ∀t,find ((d,bV c)::tm) t=find tm t:=by
        intro c hb t
        subst hb
        simp only[aj]
        split
        · rename_i e;subst e;exact hf.symm
        · rfl
       split at h
       · rcases iM h with⟨hb,h⟩|⟨hb,h⟩
         · exact wanted (lit hb) (by rw[ec (b:=true) (by simp[aj])];rfl) h
         · exact fW (lit hb) (by rw[ec (b:=false) (by simp[aj])];rfl) h
       · rcases iM h with⟨hb,h⟩|⟨hb,h⟩
         · exact fW (lit hb) (by rw[ec (b:=true) (by simp[aj])];rfl) h
         · exact wanted (lit hb) (by rw[ec (b:=false) (by simp[aj])];rfl) h
     · rename_i hf
       exact fW (fun _=>rfl) (by simp only[aP,yD,hj,hf]) h
     · exact h.elim
theorem pH.trace {ops:Array Oper} {n base:Nat} {K:List gn→TS→HS→Nat→Prop}: ∀ {l:List Oper} {rs:List fe} {k:Nat} {Ea:List gn} {tm:TS} {hp:HS},(∀j,ops[k+j]? =l[j]?)→aM P ops l=some rs→
 Ea.length=k→pH P n rs Ea tm hp (base+4 * k) K→
 ∃ (tmT:Nat→TS) (hpT:Nat→HS) (v:Nat→V) (fs:List gn),K fs (tmT (k+l.length)) (hpT (k+l.length)) (base+4 * (k+l.length))∧(∀i,i < k→fs[i]? =Ea[i]?)∧(∀t,find (tmT k) t=find tm t)∧hpT k=hp∧
  ∀j o,l[j]? =some o→eL P ops o n (tmT (k+j)) (hpT (k+j)) (base+4 * (k+j)) (v (k+j)) (hpT (k+j+1))∧(∀t,find (tmT (k+j+1)) t=find (cN (tmT (k+j)) o.dst (v (k+j))) t)∧
   ∃f,fs[k+j]? =some f∧f.dst=o.dst∧(∀t,t∈names ops o→t∈f.nm)∧(∀q,q∈iD (St.get ⟨n,tmT (k+j),hpT (k+j)⟩) o→q∈f.rd)∧(∀q,q∈sA (St.get ⟨n,tmT (k+j),hpT (k+j)⟩) (base+4 * (k+j)) o→q∈f.wr)
 | [],rs,k,Ea,tm,hp,hl,dV,hk,h=>by
   simp only[aM,Option.some.injEq]at dV
   subst dV
   exact⟨fun _=>tm,fun _=>hp,fun _=> .undef,Ea,by simpa[pH]using h,fun _ _=>rfl,fun _=>rfl,rfl,fun j o hj=>by simp at hj⟩
 |o::l,rs,k,Ea,tm,hp,hl,dV,hk,h=>by
  simp only[aM]at dV
  split at dV
  · rename_i x l' hx hl'
    have hi:ops[k]? =some o:=by simpa using hl 0
    have iE: ∃g,rs=⟨o.dst,g,x⟩::l'∧((o.guard=none∧g=none)∨ ∃j want d,o.guard=some (j,want)∧(ops[j]?).bind (·.dst)=some d∧g=some (d,want)):=by
     split at dV
     · rename_i hg
       simp only[Option.some.injEq]at dV
       exact⟨_,dV.symm, .inl ⟨hg,rfl⟩⟩
     · rename_i j want hg
       split at dV
       · rename_i d hd
         simp only[Option.some.injEq]at dV
         exact⟨_,dV.symm, .inr ⟨j,want,d,hg,hd,rfl⟩⟩
       · simp at dV
    obtain⟨g,N7,hgd⟩:=iE
    clear dV
    subst N7
    · skip
      simp only[pH]at h
      obtain⟨aW,v0,hp',he,hst,hK⟩:=Hh.step (ops:=ops) hx hgd h
      have Gd:=wZ (ops:=ops) (n:=n) (ctr:=base+4 * k) (tm:=aW) (hp:=hp) hx hgd
      rw[show base+4 * k+4=base+4 * (k+1) by omega]at hK
      obtain⟨tmT,hpT,v,fs,q1,q2,q3,q4,q5⟩:=pH.trace (k:=k+1) (fun j=>by have:=hl (j+1);rw[show k+1+j=k+(j+1) by omega,this];simp) hl' (by simp[hk]) hK
      have Am:fs[k]? =some (dg ⟨o.dst,g,x⟩ aW (base+4 * k)):=by
       rw[q2 k (by omega),List.getElem?_append_right (by omega),hk];simp
      refine⟨fun i=>if i=k then aW else tmT i,fun i=>if i=k then hp else hpT i,fun i=>if i=k then v0 else v i,fs,?_,?_,?_,?_,?_⟩
      · have e1:k+(o::l).length=k+1+l.length:=by simp;omega
        have e2:¬k+1+l.length=k:=by omega
        simp only[e1,e2,if_false]
        exact q1
      · intro i hi'
        rw[q2 i (by omega),List.getElem?_append_left (by omega)]
      · intro t;simp only[if_true];exact he t
      · simp
      · intro j oj hj
        cases j with
        |zero=>
         simp only[List.getElem?_cons_zero,Option.some.injEq]at hj
         subst hj
         have e2:¬k+1=k:=by omega
         simp only[Nat.add_zero,if_true,e2,if_false,q4]
         exact⟨hst,fun t=>q3 t,_,Am,Gd⟩
        |succ j=>
         have:=q5 j oj (by simpa using hj)
         have e1:¬k+(j+1)=k:=by omega
         have e2:¬k+(j+1)+1=k:=by omega
         simp only[e1,e2,if_false]
         rw[show k+(j+1)=k+1+j by omega]
         exact this
  · simp at dV
theorem iL: ∀ {Es:List (List Nat)} {k:Nat},sI k Es=true→ ∀i es,Es[i]? =some es→ ∀e,e∈es→e < k+i
 | [],k,h,i,es,hi,e,he=>by simp at hi
 |x::r,k,h,i,es,hi,e,he=>by
  simp only[sI,Bool.and_eq_true]at h
  cases i with
  |zero=>
   simp only[List.getElem?_cons_zero,Option.some.injEq]at hi
   subst hi
   have:=List.all_eq_true.1 h.1 e he
   simpa using this
  |succ i=>
   have:=iL h.2 i es (by simpa using hi) e he
   omega
theorem Wp.Bg {c:Code} {Q:Exit→St→Nat→Prop} {ctr:Nat} {aW:TS} {hp':HS} {c':Nat} (hw:iA st.tmps st.heap ctr aW hp' c') (h:Wp P c Q ⟨st.n,aW,hp'⟩ c'):Wp P c Q st ctr:=by
 intro M A ρ a w hr
 obtain⟨A2,ρ2,rR,he,hg⟩:=hw M A ρ st.n a w hr
 exact wp_mono (h M A2 ρ2 a w rR) (fun e a' w' hp=>hp.trans (cz.refl _ _) he hg)
theorem Wp.post {c:Code} {Q Q':Exit→St→Nat→Prop} {ctr:Nat} (h:Wp P c Q st ctr)
 (hq: ∀e st' c',Q e st' c'→Q' e st' c'∨ ∃tm2 hp2 c2,iA st'.tmps st'.heap c' tm2 hp2 c2∧Q' e ⟨st'.n,tm2,hp2⟩ c2):Wp P c Q' st ctr:=by
 intro M A ρ a w hr
 refine wp_mono (h M A ρ a w hr) ?_
 rintro e a' w' ⟨st',c',A',ρ',h1,h2,h3,h4,h5⟩
 rcases hq e st' c' h1 with h1|⟨tm2,hp2,c2,hw,h1⟩
 · exact⟨st',c',A',ρ',h1,h2,h3,h4,h5⟩
 · obtain⟨A2,ρ2,rR,he,hg⟩:=hw M A' ρ' st'.n a' w' h2
   exact⟨_,c2,A2,ρ2,h1,rR,h3,h4.trans he,h5.trans hg h3.size⟩
theorem X.sound {n:Nat}: ∀ {c:Code} {r:Rc},ae P c=some r→ ∀ {Q:Exit→TS→HS→Nat→Prop} {tm:TS} {hp:HS} {ctr:Nat},X P n r Q tm hp ctr→Wp P c (fun e=>lS n (Q e)) ⟨n,tm,hp⟩ ctr:=by
 intro c
 induction c with
 |skip=>
  intro r hr Q tm hp ctr h
  simp only[ae,Option.some.injEq]at hr
  subst hr
  exact Wp.skip ⟨rfl,h⟩
 |ret=>
  intro r hr Q tm hp ctr h
  simp only[ae,Option.some.injEq]at hr
  subst hr
  exact Wp.ret ⟨rfl,h⟩
 |exit id=>
  intro r hr Q tm hp ctr h
  simp only[ae,Option.some.injEq]at hr
  subst hr
  exact Wp.exit ⟨rfl,h⟩
 |seq x y FO FN=>
  intro r hr Q tm hp ctr h
  simp only[ae]at hr
  split at hr
  · rename_i rx ry hx hy
    simp only[Option.some.injEq]at hr
    subst hr
    simp only[X]at h
    refine Wp.seq ((FO hx h).mono ?_)
    rintro e st' c' ⟨h1,h2⟩
    subst h1
    cases e with
    |normal=>exact FN hy h2
    |_=>exact⟨rfl,h2⟩
  · simp at hr
 |cond c x y FO FN=>
  intro r hr Q tm hp ctr h
  simp only[ae]at hr
  split at hr
  · rename_i rx ry hx hy
    simp only[Option.some.injEq]at hr
    subst hr
    simp only[X]at h
    split at h
    · rename_i b hb
      have hb':((⟨n,tm,hp⟩:St).get c).fq =some b:=by rw[←bh];exact hb
      refine Wp.cond hb' ?_
      rcases iM h with⟨rfl,h⟩|⟨rfl,h⟩
      · exact FO hx h
      · exact FN hy h
    · exact h.elim
  · simp at hr
 |block id b ih=>
  intro r hr Q tm hp ctr h
  simp only[ae]at hr
  split at hr
  · rename_i rb hb
    simp only[Option.some.injEq]at hr
    subst hr
    simp only[X]at h
    refine Wp.block ((ih hb h).mono ?_)
    rintro e st' c' ⟨h1,h2⟩
    cases e with
    |exit id'=>
     simp only[pU]at h2
     simp only[mu]
     split
     · rename_i e;rw[if_pos e]at h2;exact⟨h1,h2⟩
     · rename_i e;rw[if_neg e]at h2;exact⟨h1,h2⟩
    |_=>exact⟨h1,h2⟩
  · simp at hr
 |loop b ih=>
  intro r hr Q tm hp ctr h
  simp only[ae]at hr
  split at hr
  · rename_i rb hb
    simp only[Option.some.injEq]at hr
    subst hr
    simp only[X]at h
    obtain⟨I,jN,tQ⟩:=h
    obtain⟨rG,lX,c0,Hy,m,hI⟩:=jN.get
    refine Wp.Bg (st:=⟨n,tm,hp⟩) Hy ?_
    refine Wp.loop (fun m=>lS n (I m)) ?_ m _ _ ⟨rfl,hI⟩
    rintro m st' c' ⟨h1,h2⟩
    obtain⟨n',aW,hp'⟩:=st'
    simp only at h1 h2
    subst h1
    refine Wp.post (ih hb (tQ m aW hp' c' h2)) ?_
    rintro e Cu c2 ⟨h3,h4⟩
    cases e with
    |normal=>
     obtain⟨tm3,P7,c3,hw3,m',hm',OB⟩:=bI.get h4
     exact .inr ⟨tm3,P7,c3,hw3,m',hm',h3,OB⟩
    |_=>exact .inl ⟨h3,h4⟩
  · simp at hr
 |region id ops d=>
  intro r hr Q tm hp ctr h
  cases d with
  |true=>
   simp only[ae]at hr
   split at hr
   · rename_i l hl
     split at hr
     · rename_i hc
       simp only[Bool.and_eq_true]at hc
       simp only[Option.some.injEq]at hr
       subst hr
       simp only[X]at h
       intro M A ρ a w bL
       obtain⟨tmT,hpT,v,fs,⟨q0,q1⟩,_,q3,q4,q5⟩:=pH.trace (P:=P) (ops:=ops) (n:=n) (base:=ctr) (k:=0) (fun j=>by simp) hl rfl (by simpa using h)
       simp only[Nat.zero_add]at q1 q5
       have Ag:Rel M A ρ (aZ ctr) ⟨n,tmT 0,hpT 0⟩ a w:=bL.forget rfl (fun t u hu=>by rw[←q3 t];exact hu) (fun k b hb=>by rw[q4]at hb;exact hb)
       refine uD hc.1 (fun i o ho=>q5 i o (by simpa using ho)) (fun i o ho e he=>?_) q0 Ag ?_
       · have:=iL hc.2 i (aX o) (by simp[ho]) e he
         omega
       · rintro a' w' ⟨st',c',A',ρ',⟨rfl,rfl⟩,h2⟩
         exact⟨_,_,A',ρ',⟨rfl,by simpa using q1⟩,h2⟩
     · simp at hr
   · simp at hr
  |false=>
   simp only[ae]at hr
   split at hr
   · rename_i l hl
     simp only[Option.some.injEq]at hr
     subst hr
     simp only[X]at h
     intro M A ρ a w bL
     refine wp_region ?_
     have:=gP.sound (P:=P) (ops:=ops) (k:=0) (l:=ops.toList) (Q:=fun e a' w'=>Post M A ρ w (lS n (Q e)) a' w') (fun j=>by simp) hl h bL (fun _ _ hp=>hp)
     rw[List.range_eq_range']
     simpa using this
   · simp at hr
 |_=>intro r hr;simp[ae]at hr
end Go.aU
end
section
namespace Go.aU
open Go
inductive Pn where
 |e
 |o (p:Pn)
 |i (p:Pn)
 deriving DecidableEq
def FF:Nat→Nat→Pn
 |0,_=> .e
 |f+1,n=>match n with
  |0=> .e
  |m+1=>match m % 2 with
   |0=> .o (FF f (m / 2))
   |_=> .i (FF f (m / 2))
def key (n:Nat):Pn:=FF n n
def Pn.dec:Pn→Nat
 | .e=>0
 | .o p=>2 * p.dec+1
 | .i p=>2 * p.dec+2
theorem oW: ∀ (f n:Nat),n≤f→(FF f n).dec=n
 |0,n,h=>by
  have:n=0:=by omega
  subst this
  rfl
 |f+1,0,_=>rfl
 |f+1,m+1,h=>by
  simp only[FF]
  have ih:=oW f (m / 2) (by omega)
  split
  · rename_i h0
    simp only[Pn.dec,ih]
    omega
  · rename_i h0
    simp only[Pn.dec,ih]
    have:m % 2≠0:=h0
    omega
theorem key_inj {a b:Nat} (h:key a=key b):a=b:=by
 have h1:=oW a a (Nat.le_refl _)
 have h2:=oW b b (Nat.le_refl _)
 unfold key at h
 rw[h,h2]at h1
 exact h1.symm
inductive Tr where
 |nil
 |node (v:Option V) (l r:Tr)
def Tr.get:Tr→Pn→Option V
 | .nil,_=>none
 | .node v l r,p=>match p with
   | .e=>v
   | .o q=>l.get q
   | .i q=>r.get q
def Tr.set:Pn→Tr→V→Tr
 | .e,t,x=>match t with
   | .nil=> .node (some x) .nil .nil
   | .node _ l r=> .node (some x) l r
 | .o p,t,x=>match t with
   | .nil=> .node none (Tr.set p .nil x) .nil
   | .node v l r=> .node v (Tr.set p l x) r
 | .i p,t,x=>match t with
   | .nil=> .node none .nil (Tr.set p .nil x)
   | .node v l r=> .node v l (Tr.set p r x)
def Tr.put {α:Type}:Pn→Tr→V→(Tr→α)→α
 | .e,t,x,k=>match t with
   | .nil=>k (.node (some x) .nil .nil)
   | .node _ l r=>k (.node (some x) l r)
 | .o p,t,x,k=>match t with
   | .nil=>Tr.put p .nil x fun l=>k (.node none l .nil)
   | .node v l r=>Tr.put p l x fun l=>k (.node v l r)
 | .i p,t,x,k=>match t with
   | .nil=>Tr.put p .nil x fun r=>k (.node none .nil r)
   | .node v l r=>Tr.put p r x fun r=>k (.node v l r)
theorem Tr.put_eq {α:Type}: ∀ (p:Pn) (t:Tr) (x:V) (k:Tr→α),Tr.put p t x k=k (Tr.set p t x)
 | .e,t,x,k=>by cases t<;>rfl
 | .o p,t,x,k=>by cases t<;>simp only[Tr.put,Tr.set,Tr.put_eq p]
 | .i p,t,x,k=>by cases t<;>simp only[Tr.put,Tr.set,Tr.put_eq p]
theorem Tr.sH (q:Pn):Tr.nil.get q=none:=by cases q<;>rfl
theorem Tr.yJ: ∀ (p:Pn) (t:Tr) (x:V) (q:Pn),(Tr.set p t x).get q=if q=p then some x else t.get q
 | .e,t,x,q=>by cases t<;>cases q<;>simp[Tr.set,Tr.get]
 | .o p,t,x,q=>by cases t<;>cases q<;>simp[Tr.set,Tr.get,Tr.yJ p,Tr.sH]
 | .i p,t,x,q=>by cases t<;>cases q<;>simp[Tr.set,Tr.get,Tr.yJ p,Tr.sH]
def dU (tr:Tr) (L:TS):Prop:= ∀t,find L t=tr.get (key t)
def jI {α:Type} (tm:Tr) (dst:Option Nat) (v:V) (k:Tr→α):α:=
 match dst with
 |some d=>Tr.put (key d) tm v k
 |none=>k tm
def s9 (tm:Tr) (dst:Option Nat) (v:V):Tr:=
 match dst with
 |some d=>Tr.set (key d) tm v
 |none=>tm
theorem gb {α:Type} (tm:Tr) (dst:Option Nat) (v:V) (k:Tr→α):jI tm dst v k=k (s9 tm dst v):=by
 cases dst<;>simp[jI,s9,Tr.put_eq]
theorem dU.put {tr:Tr} {L:TS} (h:dU tr L) (dst:Option Nat) (v:V):dU (s9 tr dst v) (cN L dst v):=by
 intro t
 cases dst with
 |none=>exact h t
 |some d=>
  simp only[s9,cN,Tr.yJ,aj]
  by_cases e:d=t
  · subst e;simp
  · have:¬key t=key d:=fun h'=>e (key_inj h').symm
    simp[e,this,h t]
def gT (tm:Tr):cL→V
 | .t n=>(tm.get (key n)).getD .undef
 | .c v=>v
theorem kf {tr:Tr} {L:TS} (h:dU tr L):gT tr=fun x=>x.get L:=by
 funext x
 cases x with
 |t n=>simp only[gT,cL.get,h n]
 |c v=>rfl
def mH {α:Sort _} (n:Nat) (k:Nat→α):α:=
 match n with
 |0=>k 0
 |m+1=>k (Nat.succ m)
theorem df {α:Sort _} (n:Nat) (k:Nat→α):mH n k=k n:=by cases n<;>rfl
def Eb {α:Sort _} (n:Int) (k:Int→α):α:=
 match n with
 | .ofNat m=>mH m fun m=>k (.ofNat m)
 | .negSucc m=>mH m fun m=>k (.negSucc m)
theorem BR {α:Sort _} (n:Int) (k:Int→α):Eb n k=k n:=by cases n<;>simp[Eb,df]
def Ec {α:Sort _} (b:Bool) (k:Bool→α):α:=
 match b with
 |true=>k true
 |false=>k false
theorem oc {α:Sort _} (b:Bool) (k:Bool→α):Ec b k=k b:=by cases b<;>rfl
def fI {α:Type} (b:Bool) (x y:α):α:=
 match b with
 |true=>x
 |false=>y
theorem bn {b:Bool} {x:Bool} (h:fI b x false=true):b=true∧x=true:=by cases b<;>simp_all[fI]
def nth {α:Type}:List α→Nat→Option α
 | [],_=>none
 |x::r,n=>match n with
  |0=>some x
  |m+1=>nth r m
theorem kG {α:Type}: ∀ (l:List α) (n:Nat),nth l n=l[n]?
 | [],n=>by simp[nth]
 |x::r,0=>by simp[nth]
 |x::r,n+1=>by simp[nth,kG r n]
theorem uP {a b:Nat} (h:Nat.blt a b=true):a < b:=Nat.le_of_ble_eq_true h
theorem NV {a b:Nat} (h:a < b):Nat.blt a b=true:=Nat.ble_eq_true_of_le h
theorem Dd (a b:Nat):Nat.blt a b=decide (a < b):=by
 by_cases h:a < b
 · rw[NV h,decide_eq_true h]
 · rw[decide_eq_false h]
   cases h':Nat.blt a b with
   |false=>rfl
   |true=>exact absurd (uP h') h
def lZ (k:IntKind) (n:Int):Int:=
 match k with
 | .i64=>match n with
   | .ofNat m=>fI (Nat.blt m 9223372036854775808) (.ofNat m) (IntKind.wrap .i64 (.ofNat m))
   | .negSucc m=>fI (Nat.blt m 9223372036854775808) (.negSucc m) (IntKind.wrap .i64 (.negSucc m))
 | .u64=>match n with
   | .ofNat m=> .ofNat (m % 18446744073709551616)
   | .negSucc m=>IntKind.wrap .u64 (.negSucc m)
 | .u32=>match n with
   | .ofNat m=> .ofNat (m % 4294967296)
   | .negSucc m=>IntKind.wrap .u32 (.negSucc m)
 |k=>k.wrap n
theorem aa {n:Int} (h0: -9223372036854775808≤n) (h1:n < 9223372036854775808):IntKind.i64.wrap n=n:=by
 simp[IntKind.wrap,IntKind.bits,IntKind.signed]
 omega
theorem zD (k:IntKind) (b:Bool) (n:Int) (h:b=true→k.wrap n=n):fI b n (k.wrap n)=k.wrap n:=by
 cases b with
 |false=>rfl
 |true=>exact(h rfl).symm
theorem lY (k:IntKind) (n:Int):lZ k n=k.wrap n:=by
 unfold lZ
 split
 · split
   · rename_i m
     refine zD .i64 _ _ fun h=>aa ?_ ?_
     · have:=uP h;simp only[Int.ofNat_eq_natCast];omega
     · have:=uP h;simp only[Int.ofNat_eq_natCast];omega
   · rename_i m
     refine zD .i64 _ _ fun h=>aa ?_ ?_
     · have:=uP h;omega
     · have:=uP h;omega
 · split
   · rename_i m
     simp only[IntKind.wrap,IntKind.bits,IntKind.signed,Bool.false_and,Int.ofNat_eq_natCast]
     simp
   · rfl
 · split
   · rename_i m
     simp only[IntKind.wrap,IntKind.bits,IntKind.signed,Bool.false_and,Int.ofNat_eq_natCast]
     simp
   · rfl
 · rfl
def DT (a b:Int):Bool:=
 match a,b with
 | .ofNat x, .ofNat y=>Nat.blt x y
 | .ofNat _, .negSucc _=>false
 | .negSucc _, .ofNat _=>true
 | .negSucc x, .negSucc y=>Nat.blt y x
theorem Bz (a b:Int):DT a b=decide (a < b):=by
 cases a with
 |ofNat x=>
  cases b with
  |ofNat y=>simp only[DT,Dd];exact decide_eq_decide.2 (by simp only[Int.ofNat_eq_natCast];omega)
  |negSucc y=>simp only[DT];exact(decide_eq_false (by simp only[Int.ofNat_eq_natCast];omega)).symm
 |negSucc x=>
  cases b with
  |ofNat y=>simp only[DT];exact(decide_eq_true (by simp only[Int.ofNat_eq_natCast];omega)).symm
  |negSucc y=>simp only[DT,Dd];exact decide_eq_decide.2 (by omega)
def OV (a b:Int):Bool:=
 match a,b with
 | .ofNat x, .ofNat y=>Nat.beq x y
 | .negSucc x, .negSucc y=>Nat.beq x y
 |_,_=>false
theorem GW (a b:Int):OV a b=(a==b):=by
 rw[Bool.eq_iff_iff,beq_iff_eq]
 cases a<;>cases b<;>simp[OV]
 omega
def BA:IntKind→Nat
 | .i8=>0| .i16=>1| .i32=>2| .i64=>3| .u8=>4| .u16=>5| .u32=>6| .u64=>7
theorem CH {k k':IntKind} (h:Nat.beq (BA k) (BA k')=true):k=k':=by
 cases k<;>cases k'<;>first|rfl|simp[BA]at h
def NH (n:Nat):Int:= .ofNat (2 ^ n)
theorem Ig (n:Nat):NH n=(2:Int) ^ n:=by simp[NH]
def Ns (a:Int) (n:Nat):Int:=
 match a with
 | .ofNat m=> .ofNat (m / 2 ^ n)
 |a=>a.fdiv (2 ^ n)
theorem HY (a:Int) (n:Nat):Ns a n=a.fdiv (2 ^ n):=by
 cases a with
 |ofNat m=>
  simp only[Ns]
  rw[Int.fdiv_eq_ediv_of_nonneg _ (by exact_mod_cast Nat.zero_le _)]
  simp
 |negSucc m=>rfl
def orI (k:IntKind) (a b:Int):Int:=
 match a,b with
 | .ofNat x, .ofNat y=>fI (Nat.blt x (2 ^ k.bits)&&Nat.blt y (2 ^ k.bits)) (lZ k (.ofNat (x|||y))) (k.wrap (BitVec.ofInt k.bits (.ofNat x)|||BitVec.ofInt k.bits (.ofNat y)).toNat)
 |a,b=>k.wrap (BitVec.ofInt k.bits a|||BitVec.ofInt k.bits b).toNat
theorem jt {w x:Nat} (h:x < 2 ^ w):(BitVec.ofInt w (Int.ofNat x)).toNat=x:=by
 rw[BitVec.toNat_ofInt]
 show((x:Int) % ((2 ^ w:Nat):Int)).toNat=x
 rw[←Int.natCast_emod,Int.toNat_natCast,Nat.mod_eq_of_lt h]
theorem NN (k:IntKind) (a b:Int):orI k a b=k.wrap (BitVec.ofInt k.bits a|||BitVec.ofInt k.bits b).toNat:=by
 cases a<;>cases b<;>simp only[orI]
 rename_i x y
 cases h:(Nat.blt x (2 ^ k.bits)&&Nat.blt y (2 ^ k.bits))with
 |false=>rfl
 |true=>
  simp only[Bool.and_eq_true,Nat.blt,Nat.ble_eq]at h
  simp only[fI,lY,BitVec.toNat_or]
  rw[jt (by omega),jt (by omega)]
  rfl
def PA (k:IntKind) (a b:Int):Int:=
 match a,b with
 | .ofNat x, .ofNat y=>fI (Nat.blt x (2 ^ k.bits)&&Nat.blt y (2 ^ k.bits)) (lZ k (.ofNat (x&&& y))) (k.wrap (BitVec.ofInt k.bits (.ofNat x)&&& BitVec.ofInt k.bits (.ofNat y)).toNat)
 |a,b=>k.wrap (BitVec.ofInt k.bits a&&& BitVec.ofInt k.bits b).toNat
theorem Jp (k:IntKind) (a b:Int):PA k a b=k.wrap (BitVec.ofInt k.bits a&&& BitVec.ofInt k.bits b).toNat:=by
 cases a<;>cases b<;>simp only[PA]
 rename_i x y
 cases h:(Nat.blt x (2 ^ k.bits)&&Nat.blt y (2 ^ k.bits))with
 |false=>rfl
 |true=>
  simp only[Bool.and_eq_true,Nat.blt,Nat.ble_eq]at h
  simp only[fI,lY,BitVec.toNat_and]
  rw[jt (by omega),jt (by omega)]
  rfl
end Go.aU
end
section
namespace Go.aU
open Go
def ya {α:Type} (bad:α) (g:cL→V):List (Nat×cL)→(List (Nat×W)→α)→α
 | [],k=>k []
 |(i,x)::r,k=>match g x with
  | .w u=>ya bad g r fun l=>k ((i,u)::l)
  |_=>bad
theorem wI {tm:TS}: ∀ {ps:List (Nat×cL)} {k:List (Nat×W)→Bool},ya false (fun x=>x.get tm) ps k=true→ ∃l,qj tm ps=some l∧k l=true
 | [],k,h=>⟨[],rfl,h⟩
 |(i,x)::r,k,h=>by
  simp only[ya]at h
  split at h
  · rename_i u hu
    obtain⟨l,h1,h2⟩:=wI h
    exact⟨_,by simp only[qj,hu,h1],h2⟩
  · simp at h
def CY {α:Type} (bad:α) (g:cL→V):List C→List (Nat×Nat×cL)→(List C→α)→α
 |cells,[],k=>k cells
 |cells,(off,size,x)::rest,k=>
  match g x with
  | .w u=>fI (Nat.beq (cellsOf u).length size&&Nat.ble (off+size) cells.length) (fQ (aQ cells off (cellsOf u)) fun cs=>CY bad g cs rest k) bad
  |_=>bad
theorem AC {tm:TS}: ∀ {ps:List (Nat×Nat×cL)} {cells:List C} {k:List C→Bool},CY false (fun x=>x.get tm) cells ps k=true→ ∃l,ux tm cells ps=some l∧k l=true
 | [],cells,k,h=>⟨cells,rfl,h⟩
 |(off,size,x)::r,cells,k,h=>by
  simp only[CY]at h
  split at h
  · rename_i u hu
    obtain⟨hc,h⟩:=bn h
    rw[bP]at h
    simp only[Bool.and_eq_true,Nat.beq_eq,Nat.ble_eq]at hc
    obtain⟨l,h1,h2⟩:=AC h
    exact⟨l,by simp only[ux,hu,if_pos hc,h1],h2⟩
  · simp at h
def Db {α:Type} (bad:α) (g:cL→V):List cL→(List (Nat×Nat×Nat×Nat)→α)→α
 | [],k=>k []
 |x::r,k=>match g x with
  | .w (.one (.ptr id sz i j))=>Db bad g r fun l=>k ((id,sz,i,j)::l)
  |_=>bad
theorem AO {tm:TS}: ∀ {ps:List cL} {k:List (Nat×Nat×Nat×Nat)→Bool},Db false (fun x=>x.get tm) ps k=true→ ∃l,xf tm ps=some l∧k l=true
 | [],k,h=>⟨[],rfl,h⟩
 |x::r,k,h=>by
  simp only[Db]at h
  split at h
  · rename_i id sz i j hu
    obtain⟨l,h1,h2⟩:=AO h
    exact⟨_,by simp only[xf,hu,h1],h2⟩
  · simp at h
def Ng {α:Type} (bad:α) (g:cL→V):List cL→(List W→α)→α
 | [],k=>k []
 |x::r,k=>match g x with
  | .w u=>Ng bad g r fun l=>k (u::l)
  |_=>bad
theorem sP {tm:TS}: ∀ {ps:List cL} {k:List W→Bool},Ng false (fun x=>x.get tm) ps k=true→ ∃l,Ck tm ps=some l∧k l=true
 | [],k,h=>⟨[],rfl,h⟩
 |x::r,k,h=>by
  simp only[Ng]at h
  split at h
  · rename_i u hu
    obtain⟨l,h1,h2⟩:=sP h
    exact⟨_,by simp only[Ck,hu,h1],h2⟩
  · simp at h
def zN {α:Type} (bad:α) (n:Option Nat) (cs:List C) (j:Nat) (K:V→α):α:=
 match n with
 |some n=>fI (Nat.ble (j+n) cs.length) (fQ ((cs.drop j).take n) fun l=>K (.w (.agg l))) bad
 |none=>match nth cs j with
  |some c=>vU c fun c=>K (.w (.one c))
  |none=>bad
theorem oM {n:Option Nat} {cs:List C} {j:Nat} {K:V→Bool} (h:zN false n cs j K=true):oK n cs j fun v=>K v=true:=by
 unfold zN at h
 unfold oK
 split at h
 · obtain⟨hc,h⟩:=bn h
   simp only[Nat.ble_eq]at hc
   simp only[if_pos hc,bP]at h⊢
   exact h
 · split at h
   · rename_i c hc
     rw[kG]at hc
     simp only[hc,jA]at h⊢
     exact h
   · simp at h
def yP {α:Type} (bad:α) (hp:HS) (c:C) (k:List C→Nat→α):α:=
 match c with
 | .ptr id sz i j=>match find hp id with
   |some (.row sz' xs)=>match nth xs i with
    |some e=>fI (Nat.beq sz' sz) (k e j) bad
    |none=>bad
   |_=>bad
 | .pM e j=>k (e.map .t) j
 |_=>bad
theorem xe {hp:HS} {c:C} {k:List C→Nat→Bool} (h:yP false hp c k=true): ∃cs j,deref hp c=some (cs,j)∧k cs j=true:=by
 unfold yP at h
 split at h
 · split at h
   · rename_i hf
     split at h
     · rename_i e he
       obtain⟨hc,h⟩:=bn h
       rw[kG]at he
       simp only[Nat.beq_eq]at hc
       exact⟨_,_,by simp[deref,hf,hc,he],h⟩
     · simp at h
   · simp at h
 · exact⟨_,_,rfl,h⟩
 · simp at h
def Sc {α:Type} (bad:α) (c:C) (k:Nat→α):α:=
 match c.tK with
 |some n=>mH n k
 |none=>bad
def O6 {α:Type} (bad:α) (op:BinOp) (k:IntKind) (a b:Int) (K:V→α):α:=
 match op with
 | .add=>Eb (lZ k (a+b)) fun n=>K (iV k n)
 | .sub=>Eb (lZ k (a - b)) fun n=>K (iV k n)
 | .mul=>Eb (lZ k (a * b)) fun n=>K (iV k n)
 | .eql=>Ec (OV a b) fun c=>K (bV c)
 | .neq=>Ec (!(OV a b)) fun c=>K (bV c)
 | .lss=>Ec (DT a b) fun c=>K (bV c)
 | .leq=>Ec (!(DT b a)) fun c=>K (bV c)
 | .gtr=>Ec (DT b a) fun c=>K (bV c)
 | .geq=>Ec (!(DT a b)) fun c=>K (bV c)
 | .quo=>fI (!(OV b 0)) (Eb (lZ k (a.tdiv b)) fun n=>K (iV k n)) bad
 | .rem=>fI (!(OV b 0)) (Eb (a.tmod b) fun n=>K (iV k n)) bad
 | .shl=>fI (!(DT b 0)) (Eb (lZ k (a * NH (min b.toNat k.bits))) fun n=>K (iV k n)) bad
 | .shr=>fI (!(DT b 0)) (Eb (Ns a (min b.toNat k.bits)) fun n=>K (iV k n)) bad
 | .and=>Eb (PA k a b) fun n=>K (iV k n)
 | .or=>Eb (orI k a b) fun n=>K (iV k n)
 |_=>bad
def ER {α:Type} (bad:α) (r:Ro) (g:cL→V) (hp:HS) (nid:Nat) (K:V→HS→α):α:=
 match r with
 | .hY x=>qW (g x) fun v=>K v hp
 | .pick c x y=>match(g c).fq with
   |some b=>fI b (qW (g x) fun v=>K v hp) (qW (g y) fun v=>K v hp)
   |none=>bad
 | .alloc z=>K (.w (.one (.ptr nid z.length 0 0))) ((nid, .row z.length [z])::hp)
 | .box x=>match g x with
   | .w u=>fQ (cellsOf u) fun cs=>K (.w (.one (.ptr nid cs.length 0 0))) ((nid, .row cs.length [cs])::hp)
   |_=>bad
 | .build z ps=>CY bad g z ps fun cs=>K (.w (.agg cs)) hp
 | .aT z len ps=>ya bad g ps fun l=>match nA z.length (List.replicate len z) l with
    |some xs=>fQ xs fun xs=>K (.w (.one (.own nid z.length 0 len))) ((nid, .row z.length xs)::hp)
    |none=>bad
 | .load n x=>match g x with
   | .w (.one c)=>yP bad hp c fun cs j=>zN bad n cs j fun v=>K v hp
   |_=>bad
 | .store n x y=>match g x,g y with
   | .w (.one (.ptr id sz i j)), .w u=>match find hp id with
     |some (.row sz' xs)=>match nth xs i with
      |some el=>fI (Nat.beq sz' sz&&Nat.beq (cellsOf u).length n&&Nat.ble (j+n) el.length)
        (fQ (aQ el j (cellsOf u)) fun Bb=>fQ (xs.set i Bb) fun xs'=>fQ (iC hp id (.row sz xs')) fun h=>K .undef h) bad
      |none=>bad
     |_=>bad
   |_,_=>bad
 | .uy off x=>match g x with
   | .w (.one (.ptr id sz i j))=>mH (j+off) fun q=>K (.w (.one (.ptr id sz i q))) hp
   | .w (.one (.pM e j))=>mH (j+off) fun q=>K (.w (.one (.pM e q))) hp
   |_=>bad
 | .field off n x=>match g x with
   | .w (.agg cs)=>zN bad n cs off fun v=>K v hp
   |_=>bad
 | .dB size x i=>match g x,(g i).eS with
   | .w (.one (.own id sz i0 len)),some (_, .ofNat n)=>fI (Nat.beq sz size&&Nat.blt n len) (mH (i0+n) fun q=>K (.w (.one (.ptr id sz q 0))) hp) bad
   | .w (.one (.t (.ao sz xs))),some (_, .ofNat n)=>match nth xs n with
     |some e=>fI (Nat.beq sz size) (K (.w (.one (.pM e 0))) hp) bad
     |none=>bad
   |_,_=>bad
 | .tO len size x i=>match g x,(g i).eS with
   | .w (.one c),some (_, .ofNat n)=>match c.shift (n * size)with
     |some d=>fI (Nat.blt n len) (K (.w (.one d)) hp) bad
     |none=>bad
   |_,_=>bad
 | .slice size x lo hi=>match g x with
   | .w (.one c)=>match c.tK,c.Np with
     |some len,some sz=>match fc (lo.map g) 0,fc (hi.map g) len with
       |some l,some h=>fI (Nat.beq sz size&&Nat.ble l h&&Nat.ble h len) (match yQ c l h with
        |some d=>vU d fun d=>K (.w (.one d)) hp
        |none=>bad) bad
       |_,_=>bad
     |_,_=>bad
   |_=>bad
 | .make z bytes l c=>match(g l).eS,(g c).eS with
   |some (_, .ofNat l),some (_, .ofNat c)=>fI (Nat.ble l c&&Nat.ble c 4611686018427387904&&Nat.ble (c * bytes) 281474976710656)
     (fQ (List.replicate l z) fun xs=>K (.w (.one (.own nid z.length 0 l))) ((nid, .row z.length xs)::hp)) bad
   |_,_=>bad
 | .extract x k=>match g x with
   | .dn ws=>match nth ws k with
     |some u=>qW (.w u) fun v=>K v hp
     |none=>bad
   |_=>bad
 | .jc f cK=>Db bad g cK fun l=>K (.w (.one (.jc f l))) hp
 | .len x=>match g x with
   | .w (.one c)=>Sc bad c fun n=>K (iV .i64 (.ofNat n)) hp
   |_=>bad
 | .append size bytes s x=>match g s,g x with
   | .w (.one s), .w (.one x)=>match qF hp x with
     |some (_,[])=>match s.tK with
      |some _=>vU s fun s=>K (.w (.one s)) hp
      |none=>bad
     |some (sz,y::ys)=>match s with
      | .own id sz' 0 len=>match find hp id with
        |some (.row cV xs)=>
         fI (Nat.beq sz size&&Nat.beq sz' size&&Nat.beq cV size&&Nat.beq len xs.length&&Nat.ble ((len+(ys.length+1)) * bytes) bR&&Nat.ble (len+(ys.length+1)) maxLen)
          (fQ (del hp id) fun hp=>fQ (xs++y::ys) fun zs=>mH (len+(ys.length+1)) fun q=>K (.w (.one (.own nid size 0 q))) ((nid, .row size zs)::hp)) bad
        |_=>bad
      | .t (.val (.slice none 0 0))=>fI (Nat.beq sz size&&Nat.ble ((ys.length+1) * bytes) bR&&Nat.ble (ys.length+1) maxLen)
         (fQ (y::ys) fun zs=>mH (ys.length+1) fun q=>K (.w (.one (.own nid size 0 q))) ((nid, .row size zs)::hp)) bad
      |_=>bad
     |none=>bad
   |_,_=>bad
 | .bin op x y=>match g x,g y with
   | .w (.one (.t (.val (.int k a)))), .w (.one (.t (.val (.int k' b))))=>fI (Nat.beq (BA k) (BA k')) (O6 bad op k a b fun v=>K v hp) bad
   | .w (.one (.t (.val (.string a)))), .w (.one (.t (.val (.string b))))=>match op with
     | .add=>fI (Nat.ble (a.data.toList.length+b.data.toList.length) 9223372036854775807) (fQ (a.data.toList++b.data.toList) fun l=>K (.w (.one (.t (.val (.string ⟨⟨l⟩⟩))))) hp) bad
     | .eql=>Ec (a.data.toList==b.data.toList) fun c=>K (bV c) hp
     | .neq=>Ec (!(a.data.toList==b.data.toList)) fun c=>K (bV c) hp
     |_=>bad
   |_,_=>bad
 | .sk op x y=>match(g x).fq,(g y).fq with
   |some a,some b=>match op with
    | .eql=>Ec (a==b) fun c=>K (bV c) hp
    | .neq=>Ec (!(a==b)) fun c=>K (bV c) hp
    |_=>bad
   |_,_=>bad
 | .Ba neg ks x y=>match g x,g y with
   | .w (.agg cs), .w (.agg ds)=>match po ks cs ds with
     |some b=>Ec b fun b=>match neg with
      |true=>K (bV (!b)) hp
      |false=>K (bV b) hp
     |none=>bad
   |_,_=>bad
 | .qb x y=>match(g x).eS,(g y).eS with
   |some (k,a),some (_,b)=>K (iV k (fI (DT b a) b a)) hp
   |_,_=>bad
 | .qd x y=>match(g x).eS,(g y).eS with
   |some (k,a),some (_,b)=>K (iV k (fI (DT a b) b a)) hp
   |_,_=>bad
 | .nU x=>match g x with
   | .w (.one (.t (.val (.string s))))=>mH s.data.toList.length fun n=>K (iV .i64 (.ofNat n)) hp
   |_=>bad
 | .lH x i=>match g x,(g i).eS with
   | .w (.one (.t (.val (.string s)))),some (_, .ofNat n)=>match nth s.data.toList n with
     |some b=>mH b.toNat fun q=>K (iV .u8 (.ofNat q)) hp
     |none=>bad
   |_,_=>bad
 | .not x=>match(g x).fq with
   |some b=>Ec (!b) fun c=>K (bV c) hp
   |none=>bad
 | .neg x=>match(g x).eS with
   |some (k,n)=>Eb (lZ k (0 - n)) fun n=>K (iV k n) hp
   |none=>bad
 | .conv k x=>match(g x).eS with
   |some (_,n)=>Eb (lZ k n) fun n=>K (iV k n) hp
   |none=>bad
 |_=>bad
set_option maxHeartbeats 1000000
theorem Jo {op:BinOp} {x y:cL} {k:IntKind} {a b:Int} {tm:TS} {hp:HS} {nid:Nat} {K:V→HS→Bool} (hx:x.get tm=iV k a) (hy:y.get tm=iV k b)
 (h:O6 false op k a b (fun v=>K v hp)=true):XR (.bin op x y) tm hp nid fun v hp'=>K v hp'=true:=by
 simp only[XR,hx,hy,if_true]
 cases op<;>simp only[O6,BR,oc,lY,GW,Bz,Ig,HY,Jp,NN]at h
 case add=>exact h
 case sub=>exact h
 case mul=>exact h
 case eql=>exact h
 case neq=>exact h
 case lss=>exact h
 case leq=>
  have e:(!decide (b < a))=decide (a≤b):=by rw[Bool.eq_iff_iff];simp
  rw[e]at h
  exact h
 case gtr=>exact h
 case geq=>
  have e:(!decide (a < b))=decide (a≥b):=by rw[Bool.eq_iff_iff];simp
  rw[e]at h
  exact h
 case quo=>
  obtain⟨h1,h2⟩:=bn h
  exact⟨by simpa using h1,h2⟩
 case rem=>
  obtain⟨h1,h2⟩:=bn h
  exact⟨by simpa using h1,h2⟩
 case shl=>
  obtain⟨h1,h2⟩:=bn h
  exact⟨by simpa using h1,h2⟩
 case shr=>
  obtain⟨h1,h2⟩:=bn h
  exact⟨by simpa using h1,h2⟩
 case and=>exact h
 case or=>exact h
 all_goals simp at h
theorem O8 (s:ByteArray) (n:Nat):s.data.toList[n]? =s[n]? :=by
 by_cases h:n < s.size
 · have h2:n < s.data.size:=h
   rw[getElem?_pos s n h]
   simp only[Array.getElem?_toList]
   rw[getElem?_pos s.data n h2]
   rfl
 · have h2:¬n < s.data.size:=h
   rw[getElem?_neg s n h]
   simp only[Array.getElem?_toList]
   rw[getElem?_neg s.data n h2]
theorem ahD {r:Ro} {tm:TS} {hp:HS} {nid:Nat} {K:V→HS→Bool} (h:ER false r (fun x=>x.get tm) hp nid K=true):XR r tm hp nid fun v hp'=>K v hp'=true:=by
 cases r with
 |hY x=>simpa only[ER,XR,cl]using h
 |pick c x y=>
  simp only[ER,XR,cl]at h⊢
  split at h
  · rename_i b hb
    simp only[hb]
    cases b
    · exact h
    · exact h
  · simp at h
 |alloc z=>exact h
 |box x=>
  simp only[ER,XR,bP]at h⊢
  split at h
  · rename_i u hu;simp only[hu];exact h
  · simp at h
 |build z ps=>
  simp only[ER,XR,bP]at h⊢
  obtain⟨l,h1,h2⟩:=AC h
  simp only[h1]
  exact h2
 |aT z len ps=>
  simp only[ER,XR,bP]at h⊢
  obtain⟨l,h1,h2⟩:=wI h
  simp only[h1]
  split at h2
  · rename_i xs hxs;simp only[hxs];exact h2
  · simp at h2
 |load n x=>
  simp only[ER,XR]at h⊢
  split at h
  · rename_i c hc
    simp only[hc]
    obtain⟨cs,j,h1,h2⟩:=xe h
    cases c with
    |ptr id sz i j'=>
     simp only[deref]at h1
     split at h1
     · rename_i sz' xs hf
       simp only[hf]
       split at h1
       · rename_i hs
         rw[if_pos hs]
         simp only[Option.map_eq_some_iff,Prod.mk.injEq]at h1
         obtain⟨e,he,rfl,rfl⟩:=h1
         simp only[oD,he]
         exact oM h2
       · simp at h1
     · simp at h1
    |_=>simp only[h1];exact oM h2
  · simp at h
 |store n x y=>
  simp only[ER,XR,bP]at h⊢
  split at h
  · rename_i id sz i j u hx hy
    simp only[hx,hy]
    split at h
    · rename_i sz' xs hf
      simp only[hf]
      split at h
      · rename_i el hel
        rw[kG]at hel
        simp only[oD,hel]
        obtain⟨hc,h⟩:=bn h
        simp only[Bool.and_eq_true,Nat.beq_eq,Nat.ble_eq]at hc
        rw[if_pos ⟨hc.1.1,hc.1.2,hc.2⟩]
        exact h
      · simp at h
    · simp at h
  · simp at h
 |uy off x=>
  simp only[ER,XR,df]at h⊢
  split at h
  · rename_i hx;simp only[hx];exact h
  · rename_i hx;simp only[hx];exact h
  · simp at h
 |field off n x=>
  simp only[ER,XR]at h⊢
  split at h
  · rename_i hx;simp only[hx];exact oM h
  · simp at h
 |dB size x i=>
  simp only[ER,XR,df]at h⊢
  split at h
  · rename_i id sz i0 len q n hx hi
    simp only[hx,hi]
    obtain⟨hc,h⟩:=bn h
    simp only[Bool.and_eq_true,Nat.beq_eq,Nat.blt,Nat.ble_eq]at hc
    rw[if_pos hc.1]
    refine⟨⟨Int.natCast_nonneg n,?_⟩,h⟩
    show(n:Int) < (len:Int)
    omega
  · rename_i sz xs q n hx hi
    simp only[hx,hi]
    split at h
    · rename_i e he
      rw[kG]at he
      obtain⟨hc,h⟩:=bn h
      simp only[Nat.beq_eq]at hc
      rw[if_pos hc]
      exact⟨Int.natCast_nonneg n,e,he,h⟩
    · simp at h
  · simp at h
 |tO len size x i=>
  simp only[ER,XR]at h⊢
  split at h
  · rename_i c q n hx hi
    simp only[hx,hi]
    split at h
    · rename_i d hd
      obtain⟨hc,h⟩:=bn h
      have e:(Int.ofNat n).toNat=n:=rfl
      simp only[e,hd]
      simp only[Nat.blt,Nat.ble_eq]at hc
      refine⟨⟨Int.natCast_nonneg n,?_⟩,h⟩
      show(n:Int) < (len:Int)
      omega
    · simp at h
  · simp at h
 |slice size x lo hi=>
  simp only[ER,XR,jA]at h⊢
  split at h
  · rename_i c hc
    simp only[hc]
    split at h
    · rename_i len sz hl hs
      simp only[hl,hs]
      split at h
      · rename_i l hh h1 h2
        obtain⟨hc,h⟩:=bn h
        simp only[Bool.and_eq_true,Nat.beq_eq,Nat.ble_eq]at hc
        rw[if_pos hc.1.1]
        refine Dc h1 (Dc h2 ⟨⟨hc.1.2,hc.2⟩,?_⟩)
        split at h
        · rename_i d hd;simp only[uH,hd];exact h
        · simp at h
      · simp at h
    · simp at h
  · simp at h
 |make z bytes l c=>
  simp only[ER,XR,bP]at h⊢
  split at h
  · rename_i q l' q' c' hl hc
    simp only[hl,hc]
    obtain⟨hh,h⟩:=bn h
    obtain⟨arA,hh3⟩:=Bool.and_eq_true _ _▸hh
    obtain⟨hh1,hh2⟩:=Bool.and_eq_true _ _▸arA
    have g1:=Nat.le_of_ble_eq_true hh1
    have g2:=Nat.le_of_ble_eq_true hh2
    have g3:=Nat.le_of_ble_eq_true hh3
    refine⟨⟨Int.natCast_nonneg l',Int.ofNat_le.2 g1,?_,?_⟩,h⟩
    · show(c':Int)≤_
      omega
    · show(c':Int) * (bytes:Int)≤_
      rw[←Int.natCast_mul]
      generalize c' * bytes=q at g3
      omega
  · simp at h
 |extract x k=>
  simp only[ER,XR,cl]at h⊢
  split at h
  · rename_i ws hx
    simp only[hx]
    split at h
    · rename_i u hu
      rw[kG]at hu
      simp only[hu]
      exact h
    · simp at h
  · simp at h
 |jc f cK=>
  simp only[ER,XR]at h⊢
  obtain⟨l,h1,h2⟩:=AO h
  simp only[h1]
  exact h2
 |len x=>
  simp only[ER,XR,Sc,df]at h⊢
  split at h
  · rename_i c hc
    simp only[hc]
    split at h
    · rename_i n hn;simp only[hn];exact h
    · simp at h
  · simp at h
 |append size bytes s x=>
  simp only[ER,XR,bP,df,jA]at h⊢
  split at h
  · rename_i s' x' hs hx
    simp only[hs,hx]
    split at h
    · rename_i sz he
      simp only[he]
      split at h
      · rename_i ln hln;simp only[hln];exact h
      · simp at h
    · rename_i sz y ys he
      simp only[he]
      split at h
      · rename_i id sz' len
        split at h
        · rename_i cV xs hf
          simp only[hf]
          obtain⟨hc,h⟩:=bn h
          simp only[Bool.and_eq_true,Nat.beq_eq,Nat.ble_eq]at hc
          obtain⟨⟨⟨⟨⟨h1,h2⟩,h3⟩,h4⟩,h5⟩,h6⟩:=hc
          subst h4
          rw[if_pos ⟨h1,h2,h3⟩]
          exact⟨⟨rfl,h5,h6⟩,h⟩
        · simp at h
      · obtain⟨hc,h⟩:=bn h
        simp only[Bool.and_eq_true,Nat.beq_eq,Nat.ble_eq]at hc
        obtain⟨⟨h1,h2⟩,h3⟩:=hc
        rw[if_pos h1]
        exact⟨⟨h2,h3⟩,h⟩
      · simp at h
    · simp at h
  · simp at h
 |bin op x y=>
  simp only[ER]at h
  split at h
  · rename_i k a k' b hx hy
    obtain⟨hc,h'⟩:=bn h
    have:=CH hc
    subst this
    exact Jo hx hy h'
  · rename_i a b hx hy
    simp only[XR,hx,hy]
    split at h
    · obtain⟨h1,h2⟩:=bn h
      rw[bP]at h2
      have e:(⟨⟨a.data.toList++b.data.toList⟩⟩:ByteArray)=a++b:=by
       apply ByteArray.ext
       rw[ByteArray.data_append]
       apply Array.ext'
       simp
      rw[e]at h2
      exact⟨by have h3:=Nat.le_of_ble_eq_true h1;rw[Array.length_toList,Array.length_toList]at h3;exact h3,h2⟩
    · simpa only[oc,ByteArray.toList_eq]using h
    · simpa only[oc,ByteArray.toList_eq]using h
    · simp at h
  · simp at h
 |G6 x=>simp[ER]at h
 |Ba neg ks x y=>
  simp only[ER,XR]at h⊢
  split at h
  · rename_i cs ds hx hy
    simp only[hx,hy]
    split at h
    · rename_i b hb
      simp only[hb]
      rw[oc]at h
      cases neg<;>exact h
    · simp at h
  · simp at h
 |sk op x y=>
  simp only[ER,XR]at h⊢
  split at h
  · rename_i a b hx hy
    simp only[hx,hy]
    split at h
    · simpa only[oc]using h
    · simpa only[oc]using h
    · simp at h
  · simp at h
 |qb x y=>
  simp only[ER,XR,Bz]at h⊢
  split at h
  · rename_i k a k' b hx hy
    simp only[hx,hy]
    have e:fI (decide (b < a)) b a=if b < a then b else a:=by by_cases hb:b < a<;>simp[fI,hb]
    rw[e]at h
    exact h
  · simp at h
 |qd x y=>
  simp only[ER,XR,Bz]at h⊢
  split at h
  · rename_i k a k' b hx hy
    simp only[hx,hy]
    have e:fI (decide (a < b)) b a=if b > a then b else a:=by by_cases hb:a < b<;>simp[fI,hb]
    rw[e]at h
    exact h
  · simp at h
 |nU x=>
  simp only[ER,XR,df]at h⊢
  split at h
  · rename_i s hx;simp only[hx];exact h
  · simp at h
 |lH x i=>
  simp only[ER,XR,df]at h⊢
  split at h
  · rename_i s q n hx hi
    simp only[hx,hi]
    split at h
    · rename_i b hb
      rw[kG]at hb
      refine⟨Int.natCast_nonneg n,b,?_,h⟩
      have e:(Int.ofNat n).toNat=n:=rfl
      rw[e, ←O8]
      exact hb
    · simp at h
  · simp at h
 |not x=>
  simp only[ER,XR,oc]at h⊢
  split at h
  · rename_i b hb;simp only[hb];exact h
  · simp at h
 |neg x=>
  simp only[ER,XR,BR,lY]at h⊢
  split at h
  · rename_i k n hx;simp only[hx];exact h
  · simp at h
 |conv k x=>
  simp only[ER,XR,BR,lY]at h⊢
  split at h
  · rename_i q n hx;simp only[hx];exact h
  · simp at h
 |call f xs=>simp[ER]at h
 |fp x xs=>simp[ER]at h
 |raw op ty=>simp[ER]at h
end Go.aU
end
section
namespace Go.aU
open Go
variable {P:Program} {M A:Nat→Prop} {ρ:Env} {F:Nat→Prop} {st:St} {a:Act} {w:World}
abbrev bare (op:Op) (ty:TypeId):Oper:=⟨none,op,ty, "", #[],none⟩
theorem q8 (ev:Operand→Value) (o:Oper):execOp ev (bare o.op o.type)=execOp ev o:=by cases o;rfl
theorem vZ (get:Operand→V) (o:Oper):aY P get (bare o.op o.type)=aY P get o:=by cases o;rfl
theorem q9 (get:Operand→V) (hp:HS) (nid:Nat) (o:Oper):ak P get hp nid (bare o.op o.type)=ak P get hp nid o:=by cases o;rfl
theorem xO {w:World} {b:Nat} {en en':Array MapEntry} {c c':Nat} (hb:w.heap[b]? =some (.map en c)) (k:Nat):({w with heap:=w.heap.setIfInBounds b (.map en' c')}:World).shape? k=w.shape? k:=by
 simp only[World.shape?]
 by_cases hk:b=k
 · subst hk
   have hlt:b < w.heap.size:=by
    rcases Nat.lt_or_ge b w.heap.size with h|h
    · exact h
    · simp[Array.getElem?_eq_none h]at hb
   have e:(w.heap.setIfInBounds b (.map en' c'))[b]? =some (.map en' c'):=by simp[hlt]
   rw[e,hb]
 · rw[Array.getElem?_setIfInBounds_ne hk]
theorem Rel.qf (h:Rel M A ρ F st a w) {id clock clock':Nat} {es es':List (Value×C×Nat)} {b:Nat} {en en':Array MapEntry}
 (hf:find st.heap id=some (.mp es clock)) (hρ:ρ id=some (.eM b)) (hb:w.heap[b]? =some (.map en clock)) (hs:en'.size=es'.length)
 (hc: ∀ (i:Nat) (k:Value) (c:C) (n:Nat),es'[i]? =some (k,c,n)→ ∃e,en'[i]? =some e∧e.key=k∧e.born=n∧RC w A ρ c e.val∧bC e.val=true):
 Rel M A ρ F {st with heap:=iC st.heap id (.mp es' clock')} a {w with heap:=w.heap.setIfInBounds b (.map en' clock')}∧cz M w {w with heap:=w.heap.setIfInBounds b (.map en' clock')}:=by
 obtain⟨hlt,hM,hA⟩:=(h.heap id _ hf).lt hρ
 have Ai: ∀k,k≠b→(w.heap.setIfInBounds b (.map en' clock'))[k]? =w.heap[k]? :=fun k hk=>Array.getElem?_setIfInBounds_ne (fun e=>hk e.symm)
 have hk:dD A A w {w with heap:=w.heap.setIfInBounds b (.map en' clock')}:=⟨by simp,fun k _ hn=>⟨Ai k (fun e=>hn (e▸hA)),hn⟩⟩
 have hsh: ∀k,k < w.heap.size→({w with heap:=w.heap.setIfInBounds b (.map en' clock')}:World).shape? k=w.shape? k:=fun k _=>xO hb k
 have dl:cz M w {w with heap:=w.heap.setIfInBounds b (.map en' clock')}:=⟨rfl,rfl,rfl,by simp,fun k _ ho=>Ai k (fun e=>ho (e▸hM)),hsh⟩
 refine⟨⟨h.size,h.defers,fun t v hv=>(h.tmps t v hv).keeps hk hsh (cC.refl _),?_,?_,h.fresh,?_,?_,h.dm.CZ dl (fun _ _ h=>h)⟩,dl⟩
 · intro k blk Am
   simp only[bp]at Am
   split at Am
   · rename_i ek
     subst ek
     simp only[hf,Option.map_some,Option.some.injEq]at Am
     subst Am
     refine⟨b,en',hρ,hM,hA,by simp[hlt],hs,fun i k c n hi=>?_⟩
     obtain⟨e,h1,h2,h3,h4,h5⟩:=hc i k c n hi
     exact⟨e,h1,h2,h3,h4.keeps hk hsh (cC.refl _),h5⟩
   · rename_i ek
     refine(h.heap k blk Am).keeps hk hsh (cC.refl _) (fun _ h=>h) (fun b' hb'=>Ai b' (fun e=>ek ?_))
     subst e
     exact h.inj k id blk _ b' Am hf hb' hρ
 · intro k k' blk eX b' h1 h2 r1 r2
   have g: ∀q bl,find (iC st.heap id (.mp es' clock')) q=some bl→ ∃zj,find st.heap q=some zj:=by
    intro q bl hq
    simp only[bp]at hq
    split at hq
    · rename_i e;subst e;exact⟨_,hf⟩
    · exact⟨_,hq⟩
   obtain⟨bl1,g1⟩:=g k blk h1
   obtain⟨QH,g2⟩:=g k' eX h2
   exact h.inj k k' bl1 QH b' g1 g2 r1 r2
 · intro q hq;simpa using h.bound q hq
 · intro q hq;exact h.may q (by simpa using hq)
theorem Rel.Fz (h:Rel M A ρ F st a w) {nid:Nat} (hn:F nid):
 Rel M (fun b=>A b∨b=w.heap.size) (cP ρ nid (.eM w.heap.size)) (Sub F nid) {st with heap:=(nid, .mp [] 0)::st.heap} a (w.alloc (.map #[] 0))∧cC ρ (cP ρ nid (.eM w.heap.size)):=by
 have hρ:=h.fresh nid hn
 have ca:cC ρ (cP ρ nid (.eM w.heap.size)):=cC.iC hρ
 have hk:=lU (A:=A) (w:=w) (.map #[] 0)
 have hs:=jo (w:=w) (.map #[] 0)
 have hnew:(w.alloc (.map #[] 0)).heap[w.heap.size]? =some (.map #[] 0):=heap_alloc_new w _
 refine⟨⟨h.size,h.defers,fun t v hv=>(h.tmps t v hv).keeps hk hs ca,?_,?_,?_,?_,?_,h.dm.CZ (cz.alloc _ _ _) (fun b hb h=>h.elim id (fun e=>by omega))⟩,ca⟩
 · intro id blk hf
   simp only[aj]at hf
   split at hf
   · rename_i e'
     subst e'
     simp only[Option.some.injEq]at hf
     subst hf
     exact⟨w.heap.size, #[],by simp[cP],h.may _ (Nat.le_refl _), .inr rfl,hnew,rfl,fun i k c n hi=>by simp at hi⟩
   · have hb:=h.heap id blk hf
     exact hb.keeps hk hs ca (fun b hb=> .inl hb) (fun b wV=>RowKit.Below.heap_alloc w _ b (hb.lt wV).1)
 · intro id id' blk eX b hf j8 hr cO
   simp only[aj]at hf j8
   simp only[cP]at hr cO
   by_cases e1:nid=id<;>by_cases e2:nid=id'
   · omega
   · simp only[e2,if_false]at j8
     have:¬id'=nid:=fun e=>e2 e.symm
     simp only[this,if_false]at cO
     simp only[e1.symm,if_true,Option.some.injEq,Loc.eM.injEq]at hr
     have:=((h.heap id' eX j8).lt cO).1
     omega
   · simp only[e1,if_false]at hf
     have:¬id=nid:=fun e=>e1 e.symm
     simp only[this,if_false]at hr
     simp only[e2.symm,if_true,Option.some.injEq,Loc.eM.injEq]at cO
     have:=((h.heap id blk hf).lt hr).1
     omega
   · simp only[e1,e2,if_false]at hf j8
     have n1:¬id=nid:=fun e=>e1 e.symm
     have n2:¬id'=nid:=fun e=>e2 e.symm
     simp only[n1,n2,if_false]at hr cO
     exact h.inj id id' blk eX b hf j8 hr cO
 · intro id hi
   have:¬id=nid:=fun e=>hi.2 ⟨by omega,by omega⟩
   simp only[cP,this,if_false]
   exact h.fresh id hi.1
 · intro b hb
   simp only[World.alloc,Array.size_push]
   rcases hb with hb|hb
   · have:=h.bound b hb;omega
   · omega
 · intro b hb
   refine h.may b ?_
   simp only[World.alloc,Array.size_push]at hb
   omega
theorem Rel.Il (h:Rel M A ρ F st a w) (o:Obj):Rel M A ρ F st a (w.alloc o)∧cz M w (w.alloc o):=by
 have hk:dD A A w (w.alloc o):=⟨by simp,fun b hlt hn=>⟨RowKit.Below.heap_alloc w o b hlt,hn⟩⟩
 have hs:=jo (w:=w) o
 refine⟨⟨h.size,h.defers,fun t v hv=>(h.tmps t v hv).keeps hk hs (cC.refl _),fun id blk hf=>?_,h.inj,h.fresh,fun b hb=>?_,fun b hb=>?_,h.dm.CZ (cz.alloc _ _ _) (fun _ _ h=>h)⟩,cz.alloc M w o⟩
 · have hb:=h.heap id blk hf
   exact hb.keeps hk hs (cC.refl _) (fun _ h=>h) (fun b wV=>RowKit.Below.heap_alloc w _ b (hb.lt wV).1)
 · have:=h.bound b hb
   simp only[World.alloc,Array.size_push];omega
 · simp only[World.alloc,Array.size_push]at hb
   exact h.may b (by omega)
theorem Rel.Q9 (h:Rel M A ρ F st a w) {id sz:Nat} {xs:List (List C)} (hf:find st.heap id=some (.row sz xs)) (n:Nat):Rel M A ρ F {st with heap:=iC st.heap id (.row sz (xs.take n))} a w:=by
 refine⟨h.size,h.defers,h.tmps,fun k blk hk=>?_,fun k k' blk eX b h1 h2 r1 r2=>?_,h.fresh,h.bound,h.may,h.dm⟩
 · simp only[bp]at hk
   split at hk
   · rename_i ek
     subst ek
     simp only[hf,Option.map_some,Option.some.injEq]at hk
     subst hk
     obtain⟨h1,h2⟩:=h.heap k _ hf
     refine⟨fun e he=>h1 e (List.mem_of_mem_take he),?_⟩
     rcases h2 with⟨b,c,e,k1,k2,k3,k4,k5,k6⟩|⟨k1,k2⟩
     · refine .inl ⟨b,c,e,k1,k2,k3,k4,?_,fun i el j q hi hj=>?_⟩
       · have:(xs.take n).length * sz≤xs.length * sz:=Nat.mul_le_mul_right _ (by simp;omega)
         omega
       · have hi':xs[i]? =some el:=by
          rw[List.getElem?_take]at hi
          split at hi
          · exact hi
          · simp at hi
         exact k6 i el j q hi' hj
     · exact .inr ⟨k1,by simp[k2]⟩
   · exact h.heap k blk hk
 · have g: ∀q bl,find (iC st.heap id (.row sz (xs.take n))) q=some bl→ ∃zj,find st.heap q=some zj:=by
    intro q bl hq
    simp only[bp]at hq
    split at hq
    · rename_i e;subst e;exact⟨_,hf⟩
    · exact⟨_,hq⟩
   obtain⟨bl1,g1⟩:=g k blk h1
   obtain⟨QH,g2⟩:=g k' eX h2
   exact h.inj k k' bl1 QH b g1 g2 r1 r2
end Go.aU
end
section
namespace Go.aU
open Go
variable {P:Program} {M A:Nat→Prop} {ρ:Env} {F:Nat→Prop} {st:St} {a:Act} {w:World}
def eP:List C→Option (List T)
 | []=>some []
 | .t x::r=>(eP r).map (x:: ·)
 |_::_=>none
def recv (v:V):Option (Bool×List T):=
 match v with
 | .w (.one (.t t))=>some (false,[t])
 | .w (.agg cs)=>(eP cs).map fun ts=>(true,ts)
 |_=>none
def EX {α:Type} (P:Program) (bad:α) (op:Op) (ty:TypeId) (g:cL→V) (hp:HS) (ctr:Nat) (K:V→HS→α):α:=
 let other:=match ak P (fun x=>g (cT x)) hp ctr (bare op ty)with
  |some (v,hp')=>qW v fun v=>K v hp'
  |none=>match aY P (fun x=>g (cT x)) (bare op ty)with
   |some v=>qW v fun v=>K v hp
   |none=>bad
 match op with
 | .makeMap _ none=>K (.w (.one (.map ctr))) ((ctr, .mp [] 0)::hp)
 | .mapUpdate t m k x=>match g (cT m),(g (cT k)).val?,g (cT x)with
   | .w (.one (.map id)),some kv, .w (.one c)=>match P.underlying t,find hp id with
     |some (.map kt _),some (.mp es clock)=>match h8 P false kt kv es with
      |some (some i)=>match nth es i with
       |some (old,_,born)=>fI (Instr.sameBits 10000 old kv) (fQ (es.set i (kv,c,born)) fun es'=>fQ (iC hp id (.mp es' clock)) fun h=>K .undef h) bad
       |none=>bad
      |some none=>fQ (es++[(kv,c,clock)]) fun es'=>mH (clock+1) fun q=>fQ (iC hp id (.mp es' q)) fun h=>K .undef h
      |none=>bad
     |_,_=>bad
   |_,_,_=>bad
 | .lookup t m k ok=>match g (cT m),(g (cT k)).val? with
   | .w (.one (.map id)),some kv=>match P.underlying t,find hp id with
     |some (.map kt et),some (.mp es _)=>match h8 P es.isEmpty kt kv es with
      |some (some i)=>match nth es i with
       |some (_,c,_)=>vU c fun c=>K (match ok with|true=> .dn [.one c,bT true]|false=> .w (.one c)) hp
       |none=>bad
      |some none=>match jS P et with
       |some z=>vU (.t (.val z)) fun c=>K (match ok with|true=> .dn [.one c,bT false]|false=> .w (.one c)) hp
       |none=>bad
      |none=>bad
     |_,_=>bad
   |_,_=>bad
 | .call ⟨.builtin .len,args,gx⟩=>match args.toList,gx.toList with
   | [x],[t]=>match g (cT x)with
     | .w (.one (.map id))=>match P.underlying t,find hp id with
       |some (.map _ _),some (.mp es _)=>mH es.length fun n=>K (iV .i64 (.ofNat n)) hp
       |_,_=>bad
     |_=>other
   |_,_=>other
 | .call ⟨.builtin .delete,args,gx⟩=>match args.toList,gx.toList with
   | [m,k],[t,_]=>match g (cT m),(g (cT k)).val? with
     | .w (.one (.map id)),some kv=>match P.underlying t,find hp id with
       |some (.map kt _),some (.mp es clock)=>match h8 P es.isEmpty kt kv es with
        |some (some i)=>fQ (es.eraseIdx i) fun es'=>fQ (iC hp id (.mp es' clock)) fun h=>K (.dn []) h
        |some none=>K (.dn []) hp
        |none=>bad
       |_,_=>bad
     |_,_=>bad
   |_,_=>bad
 | .range t x=>match g (cT x)with
   | .w (.one (.map id))=>match P.underlying t,find hp id with
     |some (.map _ _),some (.mp _ _)=>K (.w (.one (.it id))) hp
     |_,_=>bad
   |_=>bad
 | .next x false=>match g (cT x)with
   | .w (.one (.it id))=>match find hp id with
     |some (.mp [] _)=>K (.dn [bT false]) hp
     |_=>bad
   |_=>bad
 | .makeFunc (.func f) first cK=>match first.toList,cK.toList with
   | [x],[]=>match recv (g (cT x))with
     |some (b,ts)=>K (.w (.one (.yY f b ts))) hp
     |none=>bad
   |_,_=>other
 | .call ⟨.builtin .append,args,gx⟩=>match args.toList,gx.toList with
   | [s,x],[t,t']=>match P.underlying t' with
     |some (.int _)=>match g (cT s),(g (cT x)).eS,P.underlying t with
      | .w (.one (.t (.val (.slice none 0 0)))),some (.i64, .ofNat (n+1)),some (.slice e)=>match pq P e,jR P e with
        |some (size,bytes),some z=>fI (Nat.beq z.length size&&Nat.ble ((n+1) * bytes) 70368744177664&&Nat.ble (n+1) 70368744177664)
          (fQ (List.replicate (n+1) z) fun zs=>K (.w (.one (.own ctr size 0 (n+1)))) ((ctr, .row size zs)::hp)) bad
        |_,_=>bad
      |_,_,_=>bad
     |_=>other
   |_,_=>other
 | .binOp bo t x y _=>match g (cT x),g (cT y),P.underlying t with
   | .w (.one (.ptr _ _ _ _)), .w (.one (.t (.val (.pointer none)))),some (.pointer _)=>match bo with
     | .eql=>K (bV false) hp
     | .neq=>K (bV true) hp
     |_=>bad
   |_,_,_=>other
 |_=>other
def B4 (P:Program) (n:Nat) (o:Oper) (tm:Tr) (hp:HS) (ctr:Nat) (v:V) (hp':HS):Prop:=
 ∀ (M A:Nat→Prop) (ρ:Env) (a:Act) (w:World) (L:TS),dU tm L→Rel M A ρ (aZ ctr) ⟨n,L,hp⟩ a w→mU M A ρ (aZ (ctr+4)) a w ((execOp a.eval o).run P w) ⟨n,L,hp'⟩ v
theorem bX {ctr:Nat}: ∀id,aZ (ctr+4) id→aZ ctr id:=fun id h=>by simp only[aZ]at *;omega
theorem get_eq {tm:Tr} {L:TS} (hL:dU tm L) (n:Nat) (hp:HS):(fun x=>gT tm (cT x))=St.get ⟨n,L,hp⟩:=by
 funext x
 rw[kf hL]
 exact bh ⟨n,L,hp⟩ x
theorem RV.at {tm:Tr} {L:TS} {n:Nat} {hp:HS} (hL:dU tm L) (hr:Rel M A ρ F ⟨n,L,hp⟩ a w) (x:Operand):RV w A ρ (gT tm (cT x)) (a.eval x):=by
 have:=hr.get x
 rw[←congrFun (get_eq hL n hp) x]at this
 exact this
theorem AE {n:Nat} {o:Oper} {tm:Tr} {hp hp':HS} {ctr:Nat} {v:V} (h:ak P (fun x=>gT tm (cT x)) hp ctr (bare o.op o.type)=some (v,hp')):B4 P n o tm hp ctr v hp':=by
 intro M A ρ a w L hL hr
 rw[q9,get_eq hL n hp]at h
 obtain⟨x,w',A',ρ',h1,h2,h3⟩:=kN (st:=⟨n,L,hp⟩) h hr (Nat.le_refl ctr)
 exact⟨x,w',A',ρ',h1,h2.sub fU,h3⟩
theorem vY {n:Nat} {o:Oper} {tm:Tr} {hp:HS} {ctr:Nat} {v:V} (h:aY P (fun x=>gT tm (cT x)) (bare o.op o.type)=some v):B4 P n o tm hp ctr v hp:=by
 intro M A ρ a w L hL hr
 rw[vZ,get_eq hL n hp]at h
 exact gk (st:=⟨n,L,hp⟩) h hr bX
theorem ow: ∀ {cs:List C} {ts:List T},eP cs=some ts→cs=ts.map .t
 | [],ts,h=>by simp only[eP,Option.some.injEq]at h;subst h;rfl
 | .t x::r,ts,h=>by
   simp only[eP,Option.map_eq_some_iff]at h
   obtain⟨l,hl,rfl⟩:=h
   simp[ow hl]
 | .own .. ::_,ts,h=>by simp[eP]at h
 | .ptr .. ::_,ts,h=>by simp[eP]at h
 | .pM .. ::_,ts,h=>by simp[eP]at h
 | .jc .. ::_,ts,h=>by simp[eP]at h
 | .map _::_,ts,h=>by simp[eP]at h
 | .it _::_,ts,h=>by simp[eP]at h
 | .yY .. ::_,ts,h=>by simp[eP]at h
 | .any::_,ts,h=>by simp[eP]at h
theorem DF {v:V} {b:Bool} {ts:List T} {x:Value} (h:recv v=some (b,ts)) (hr:RV w A ρ v x):RF w A b ts x:=by
 unfold recv at h
 split at h
 · simp only[Option.some.injEq,Prod.mk.injEq]at h
   obtain⟨rfl,rfl⟩:=h
   exact⟨_,rfl,hr.1,hr.2⟩
 · simp only[Option.map_eq_some_iff,Prod.mk.injEq]at h
   obtain⟨l,hl,rfl,rfl⟩:=h
   have:=ow hl
   subst this
   obtain⟨vs,rfl,h1,h2⟩:=hr
   exact⟨vs,rfl,by simpa using h1,fun k t y ht hy=>h2 k (.t t) y (by simp[ht]) hy⟩
 · simp at h
theorem jW {t t' ty e:TypeId} {ik:IntKind} {i:TypeInfo} {z:Value} (ht:P.underlying t=some (.slice e)) (ht':P.underlying t'=some (.int ik)) (hi:P.info? e=some i) (hz:i.zero=some z)
 (n:Nat) (h0:0 < n) (hsz:0 < i.size) (hn:n≤70368744177664) (h48:n * i.bytes≤70368744177664) (w:World):
 (Builtin.append_ #[t,t'] ty #[.slice none 0 0, .int .i64 (n:Int)]).run P w=
   .ok (.slice (some ⟨w.heap.size,0,none⟩) n (grownCap w n 0 e)) (w.drew.alloc (.cells (Builtin.zeroCells z.cells n++Builtin.zeroCells z.cells (grownCap w n 0 e - n)) e)):=by
 have HA:n≠0:=by omega
 have hs0:i.size≠0:=by omega
 have asH:¬ (9223372036854775807 < (n:Int)):=by omega
 have asI:¬ (281474976710656 < Builtin.nextslicecap n 0 * i.bytes):=by rw[nextslicecap_zero h0];omega
 have hw:IntKind.i64.wrap (n:Int)=(n:Int):=wrap_i64 (by omega) (by omega)
 have hneg:¬ ((n:Int) < 0):=by omega
 have arT:¬ (281474976710656 < (n:Int) * (i.bytes:Int)):=by rw[←Int.natCast_mul];generalize n * i.bytes=q at h48;omega
 simp[Builtin.append_,run_underlying ht,run_underlying ht',sizeOf,typeInfo,zeroValue,hi,hz,asInt,asIntOf,hw,hneg,arT,HA,hs0,asH,asI,Question.forced,run_firstCells_none,newRow,grownCap]
 intro h
 rcases Nat.mul_eq_zero.1 h with h|h
 · exact absurd h HA
 · exact absurd h hs0
set_option maxHeartbeats 1000000
theorem Hs {n:Nat} {o:Oper} {tm:Tr} {hp:HS} {ctr:Nat} {K:V→HS→Bool} (h:EX P false o.op o.type (gT tm) hp ctr K=true): ∃v hp',B4 P n o tm hp ctr v hp'∧K v hp'=true:=by
 obtain⟨op,hop⟩: ∃op,op=o.op:=⟨_,rfl⟩
 have other:(match ak P (fun x=>gT tm (cT x)) hp ctr (bare o.op o.type)with
  |some (v,hp')=>qW v fun v=>K v hp'
  |none=>match aY P (fun x=>gT tm (cT x)) (bare o.op o.type)with
   |some v=>qW v fun v=>K v hp
   |none=>false)=true→ ∃v hp',B4 P n o tm hp ctr v hp'∧K v hp'=true:=by
  intro h
  split at h
  · rename_i v hp' he
    rw[cl]at h
    exact⟨v,hp',AE he,h⟩
  · split at h
    · rename_i v he
      rw[cl]at h
      exact⟨v,hp,vY he,h⟩
    · simp at h
 have j9: ∀ (ev:Operand→Value),execOp ev o=execOp ev (bare op o.type):=fun ev=>by rw[hop,q8]
 rw[←hop]at h other
 unfold EX at h
 simp only at h
 split at h
 ·
  rename_i t
  refine⟨_,_,?_,h⟩
  intro M A ρ a w L hL hr
  obtain⟨r1,r2⟩:=Rel.Fz (st:=⟨n,L,hp⟩) hr (Nat.le_refl ctr)
  refine⟨.map (some w.heap.size),w.alloc (.map #[] 0),_,_, .inl ?_,r1.sub fU,⟨⟨w.heap.size,by simp[cP],rfl⟩,rfl⟩,cz.alloc M w _,r2,bq.new A w⟩
  rw[j9]
  simp[execOp,Instr.makeMap]
 ·
  rename_i t m k x
  split at h
  · rename_i id kv c hm hk hx
    split at h
    · rename_i kt et es clock hu hf
      split at h
      · rename_i i nt
        split at h
        · rename_i old c0 born yw
          obtain⟨N5,h⟩:=bn h
          rw[bP,bP]at h
          rw[kG]at yw
          refine⟨_,_,?_,h⟩
          intro M A ρ a w L hL hr
          have vm:=RV.at hL hr m
          rw[hm]at vm
          have vk:=V.bg hk (RV.at hL hr k)
          have vx:=RV.at hL hr x
          rw[hx]at vx
          obtain⟨b,en,q1,q2,q3,q4,q5⟩:=fa hr hf vm
          obtain⟨c1,o2,c2,c3,c4⟩:=cH nt (eb (id:=id) (clock:=clock) q4 q5) w
          cases o2 with
          |none=>simp at c3
          |some p=>
           obtain⟨j,v⟩:=p
           simp only[Option.map_some,Option.some.injEq]at c3
           subst c3
           obtain⟨e0,e1,e2,e3,_⟩:=q5 j old c0 born yw
           have hi:j < en.size:=(Array.getElem?_eq_some_iff.1 e1).1
           have he0:en[j]=e0:=by simpa[hi]using e1
           obtain⟨r1,r2⟩:=Rel.qf (st:=⟨n,L,hp⟩) (clock':=clock) (es':=es.set j (kv,c,born)) (en':=en.modify j fun e=>{e with key:=kv,val:=a.eval x}) hr hf q1 q3 (by simp[q4]) (fun i k' c' n' hi'=>by
            by_cases hij:j=i
            · subst hij
              rw[List.getElem?_set_self (by rw[←q4];exact hi)]at hi'
              simp only[Option.some.injEq,Prod.mk.injEq]at hi'
              obtain⟨rfl,rfl,rfl⟩:=hi'
              refine⟨{e0 with key:=kv,val:=a.eval x},by simp[Array.getElem?_modify,e1],rfl,e3,vx.1,vx.2⟩
            · rw[List.getElem?_set_ne hij]at hi'
              obtain⟨e,g1,g2,g3,g4,g5⟩:=q5 i k' c' n' hi'
              exact⟨e,by simp[Array.getElem?_modify,hij,g1],g2,g3,g4,g5⟩)
           refine⟨undef,_,A,ρ, .inr ⟨?_,rfl⟩,r1.sub bX,trivial,r2,cC.refl _,bq.refl _ _⟩
           have hks:(Instr.keyThatStays (((en[j]?).map (·.key)).getD kv) kv).run P w= .ok kv w:=by
            simp[Instr.keyThatStays,e1,e2,N5]
           rw[j9]
           simp only[execOp,Instr.mapUpdate,Sem.run_bind,run_underlying hu,Result.andThen_ok,q2,ld q3,vk,c1,c2,hks,zK _ q3,Sem.run_pure]
        · simp at h
      · rename_i nt
        rw[bP,df,bP]at h
        refine⟨_,_,?_,h⟩
        intro M A ρ a w L hL hr
        have vm:=RV.at hL hr m
        rw[hm]at vm
        have vk:=V.bg hk (RV.at hL hr k)
        have vx:=RV.at hL hr x
        rw[hx]at vx
        obtain⟨b,en,q1,q2,q3,q4,q5⟩:=fa hr hf vm
        obtain⟨c1,o2,c2,c3,c4⟩:=cH nt (eb (id:=id) (clock:=clock) q4 q5) w
        cases o2 with
        |some p=>simp at c3
        |none=>
         obtain⟨r1,r2⟩:=Rel.qf (st:=⟨n,L,hp⟩) (clock':=clock+1) (es':=es++[(kv,c,clock)]) (en':=en.push {key:=kv,val:=a.eval x,born:=clock}) hr hf q1 q3 (by simp[q4]) (fun i k' c' n' hi'=>by
          by_cases hlt:i < es.length
          · rw[List.getElem?_append_left hlt]at hi'
            obtain⟨e,g1,g2,g3,g4,g5⟩:=q5 i k' c' n' hi'
            exact⟨e,by rw[Array.getElem?_push,if_neg (by omega)];exact g1,g2,g3,g4,g5⟩
          · rw[List.getElem?_append_right (by omega)]at hi'
            have hz:i - es.length=0:=by
             have:=(List.getElem?_eq_some_iff.1 hi').1
             simp at this
             omega
            rw[hz]at hi'
            simp only[List.getElem?_cons_zero,Option.some.injEq,Prod.mk.injEq]at hi'
            obtain⟨rfl,rfl,rfl⟩:=hi'
            exact⟨⟨kv,a.eval x,clock⟩,by rw[Array.getElem?_push,if_pos (by omega)],rfl,rfl,vx.1,vx.2⟩)
         refine⟨undef,_,A,ρ, .inr ⟨?_,rfl⟩,r1.sub bX,trivial,r2,cC.refl _,bq.refl _ _⟩
         rw[j9]
         simp only[execOp,Instr.mapUpdate,Sem.run_bind,run_underlying hu,Result.andThen_ok,q2,ld q3,vk,c1,c2,zK _ q3,Sem.run_pure]
      · simp at h
    · simp at h
  · simp at h
 ·
  rename_i t m k ok
  split at h
  · rename_i id kv hm hk
    split at h
    · rename_i kt et es clock hu hf
      split at h
      · rename_i i nt
        split at h
        · rename_i k0 c born yw
          rw[jA]at h
          rw[kG]at yw
          refine⟨_,_,?_,h⟩
          intro M A ρ a w L hL hr
          have vm:=RV.at hL hr m
          rw[hm]at vm
          have vk:=V.bg hk (RV.at hL hr k)
          obtain⟨b,en,q1,q2,q3,q4,q5⟩:=fa hr hf vm
          obtain⟨c1,o2,c2,c3,c4⟩:=cH nt (eb (id:=id) (clock:=clock) q4 q5) w
          cases o2 with
          |none=>simp at c3
          |some p=>
           obtain⟨j,v⟩:=p
           simp only[Option.map_some,Option.some.injEq]at c3
           subst c3
           obtain⟨e0,e1,e2,e3,e4,e5⟩:=q5 j k0 c born yw
           obtain⟨e',g1,rfl⟩:=c4 j v rfl
           rw[e1]at g1
           simp only[Option.some.injEq]at g1
           subst g1
           have hrun:(execOp a.eval o).run P w= .ok (.value (if ok then .tuple #[e0.val, .bool true]else e0.val)) w:=by
            rw[j9]
            simp only[execOp,Instr.lookup,Sem.run_bind,run_underlying hu,Result.andThen_ok,q2,ld q3,Sem.run_pure,vk,dz q4,c1,c2]
           refine⟨_,w,A,ρ, .inl hrun,hr.sub bX,?_,cz.refl _ _,cC.refl _,bq.refl _ _⟩
           cases ok with
           |true=>exact Du e4 e5
           |false=>exact⟨e4,e5⟩
        · simp at h
      · rename_i nt
        split at h
        · rename_i z hz
          rw[jA]at h
          refine⟨_,_,?_,h⟩
          intro M A ρ a w L hL hr
          have vm:=RV.at hL hr m
          rw[hm]at vm
          have vk:=V.bg hk (RV.at hL hr k)
          obtain⟨b,en,q1,q2,q3,q4,q5⟩:=fa hr hf vm
          obtain⟨c1,o2,c2,c3,c4⟩:=cH nt (eb (id:=id) (clock:=clock) q4 q5) w
          cases o2 with
          |some p=>simp at c3
          |none=>
           obtain⟨Sf,tP⟩:=pS hz w
           have hrun:(execOp a.eval o).run P w= .ok (.value (if ok then .tuple #[z, .bool false]else z)) w:=by
            rw[j9]
            simp only[execOp,Instr.lookup,Sem.run_bind,run_underlying hu,Result.andThen_ok,q2,ld q3,Sem.run_pure,vk,dz q4,c1,c2,Sf]
           refine⟨_,w,A,ρ, .inl hrun,hr.sub bX,?_,cz.refl _ _,cC.refl _,bq.refl _ _⟩
           cases ok with
           |true=>exact Du (RT.val tP) tP
           |false=>exact⟨RT.val tP,tP⟩
        · simp at h
      · simp at h
    · simp at h
  · simp at h
 ·
  rename_i args gx
  split at h
  · rename_i x t hargs ic
    split at h
    · rename_i id hx
      split at h
      · rename_i kt et es clock hu hf
        rw[df]at h
        refine⟨_,_,?_,h⟩
        intro M A ρ a w L hL hr
        have vm:=RV.at hL hr x
        rw[hx]at vm
        obtain⟨b,en,q1,q2,q3,q4,q5⟩:=fa hr hf vm
        have ea:args= #[x]:=by rw[←Array.toArray_toList (xs:=args),hargs]
        have et:gx= #[t]:=by rw[←Array.toArray_toList (xs:=gx),ic]
        subst ea
        subst et
        have hrun:(execOp a.eval o).run P w= .ok (.value (goInt en.size)) w:=by
         rw[j9]
         simp[execOp,resolve,invoke,builtin,Builtin.len_,run_underlying hu,q2,ld q3]
        refine⟨_,w,A,ρ, .inl hrun,hr.sub bX,?_,cz.refl _ _,cC.refl _,bq.refl _ _⟩
        rw[q4]
        exact RV.ofValue w A ρ (goInt es.length)
      · simp at h
    · exact other h
  · exact other h
 ·
  rename_i args gx
  split at h
  · rename_i m k t t' hargs ic
    split at h
    · rename_i id kv hm hk
      split at h
      · rename_i kt et es clock hu hf
        have ea:args= #[m,k]:=by rw[←Array.toArray_toList (xs:=args),hargs]
        have et:gx= #[t,t']:=by rw[←Array.toArray_toList (xs:=gx),ic]
        subst ea
        subst et
        split at h
        · rename_i i nt
          rw[bP,bP]at h
          refine⟨_,_,?_,h⟩
          intro M A ρ a w L hL hr
          have vm:=RV.at hL hr m
          rw[hm]at vm
          have vk:=V.bg hk (RV.at hL hr k)
          obtain⟨b,en,q1,q2,q3,q4,q5⟩:=fa hr hf vm
          obtain⟨c1,o2,c2,c3,c4⟩:=cH nt (eb (id:=id) (clock:=clock) q4 q5) w
          cases o2 with
          |none=>simp at c3
          |some p=>
           obtain⟨j,v⟩:=p
           simp only[Option.map_some,Option.some.injEq]at c3
           subst c3
           obtain⟨e',g1,_⟩:=c4 j v rfl
           have hj:j < en.size:=(Array.getElem?_eq_some_iff.1 g1).1
           obtain⟨r1,r2⟩:=Rel.qf (st:=⟨n,L,hp⟩) (clock':=clock) (es':=es.eraseIdx j) (en':=en.eraseIdxIfInBounds j) hr hf q1 q3
            (by rw[Array.eraseIdxIfInBounds,dif_pos hj,Array.size_eraseIdx,List.length_eraseIdx,if_pos (by omega),q4]) (fun i k' c' n' hi'=>by
            rw[List.getElem?_eraseIdx]at hi'
            have he:(en.eraseIdxIfInBounds j)[i]? =if i < j then en[i]? else en[i+1]? :=by
             rw[Array.eraseIdxIfInBounds,dif_pos hj,Array.getElem?_eraseIdx]
            rw[he]
            split at hi'
            · rename_i hlt;rw[if_pos hlt];exact q5 i k' c' n' hi'
            · rename_i hlt;rw[if_neg hlt];exact q5 (i+1) k' c' n' hi')
           have hrun:(execOp a.eval o).run P w= .ok (.value (.tuple #[])) {w with heap:=w.heap.setIfInBounds b (.map (en.eraseIdxIfInBounds j) clock)}:=by
            rw[j9]
            simp only[execOp,resolve,invoke,builtin,Builtin.delete_]
            simp[run_underlying hu,q2,ld q3,vk,dz q4,c1,c2,zK _ q3]
           exact⟨_,_,A,ρ, .inl hrun,r1.sub bX,⟨#[],rfl,rfl,by simp⟩,r2,cC.refl _,bq.refl _ _⟩
        · rename_i nt
          refine⟨_,_,?_,h⟩
          intro M A ρ a w L hL hr
          have vm:=RV.at hL hr m
          rw[hm]at vm
          have vk:=V.bg hk (RV.at hL hr k)
          obtain⟨b,en,q1,q2,q3,q4,q5⟩:=fa hr hf vm
          obtain⟨c1,o2,c2,c3,c4⟩:=cH nt (eb (id:=id) (clock:=clock) q4 q5) w
          cases o2 with
          |some p=>simp at c3
          |none=>
           have Gi:b < w.heap.size:=by
            rcases Nat.lt_or_ge b w.heap.size with hl|hg
            · exact hl
            · simp[Array.getElem?_eq_none hg]at q3
           have FY:({w with heap:=w.heap.setIfInBounds b (.map en clock)}:World)=w:=by
            have:w.heap.setIfInBounds b (.map en clock)=w.heap:=by
             apply Array.ext_getElem?
             intro i
             by_cases hi:b=i
             · subst hi;simp[Gi,q3];simpa[Gi]using q3.symm
             · rw[Array.getElem?_setIfInBounds_ne hi]
            rw[this]
           have hrun:(execOp a.eval o).run P w= .ok (.value (.tuple #[])) w:=by
            rw[j9]
            simp only[execOp,resolve,invoke,builtin,Builtin.delete_]
            simp[run_underlying hu,q2,ld q3,vk,dz q4,c1,c2,zK _ q3,FY]
           exact⟨_,_,A,ρ, .inl hrun,hr.sub bX,⟨#[],rfl,rfl,by simp⟩,cz.refl _ _,cC.refl _,bq.refl _ _⟩
        · simp at h
      · simp at h
    · simp at h
  · simp at h
 ·
  rename_i t x
  split at h
  · rename_i id hx
    split at h
    · rename_i kt et es clock hu hf
      refine⟨_,_,?_,h⟩
      intro M A ρ a w L hL hr
      have vm:=RV.at hL hr x
      rw[hx]at vm
      obtain⟨b,en,q1,q2,q3,q4,q5⟩:=fa hr hf vm
      obtain⟨r1,r2⟩:=Rel.Il hr (.mapIter (some b) clock #[] clock)
      have hrun:(execOp a.eval o).run P w= .ok (.value (.pointer (some ⟨w.heap.size,0,none⟩))) (w.alloc (.mapIter (some b) clock #[] clock)):=by
       rw[j9]
       simp[execOp,Instr.range,run_underlying hu,q2,ld q3]
      refine⟨_,_,A,ρ, .inl hrun,r1.sub bX,⟨⟨b,w.heap.size,clock,clock,q1,rfl,by simp,fun hA=>?_,heap_alloc_new w _⟩,rfl⟩,r2,cC.refl _,bq.refl _ _⟩
      have:=hr.bound _ hA
      omega
    · simp at h
  · simp at h
 ·
  rename_i x
  split at h
  · rename_i id hx
    split at h
    · rename_i clock hf
      refine⟨_,_,?_,h⟩
      intro M A ρ a w L hL hr
      have vi:=RV.at hL hr x
      rw[hx]at vi
      obtain⟨b,r,since,last,k1,k2,k3,k4,k5⟩:=vi.1
      obtain⟨b',en,g1,g2,g3,g4,g5,g6⟩:=hr.heap id _ hf
      rw[k1]at g1
      simp only[Option.some.injEq,Loc.eM.injEq]at g1
      subst g1
      have jN:en= #[]:=by
       apply Array.eq_empty_of_size_eq_zero
       simpa using g5
      subst jN
      have BH:(getObj r).run P w= .ok (.mapIter (some b) since #[] last) w:=by simp[getObj,Sem.run,k5]
      have hrun:(execOp a.eval o).run P w= .ok (.value (.tuple #[.bool false])) w:=by
       rw[j9]
       simp only[execOp,Instr.next,k2]
       simp[BH,ld g4,Question.forced]
      exact⟨_,_,A,ρ, .inl hrun,hr.sub bX,⟨_,rfl,rfl,fun k u y hu hy=>by
       match k with
       |0=>simp at hu hy;subst hu;subst hy;exact RW.bT false
       |k+1=>simp at hu⟩,cz.refl _ _,cC.refl _,bq.refl _ _⟩
    · simp at h
  · simp at h
 ·
  rename_i f first cK
  split at h
  · rename_i x tW Tl
    split at h
    · rename_i b ts Hz
      refine⟨_,_,?_,h⟩
      intro M A ρ a w L hL hr
      have vx:=RV.at hL hr x
      have ea:first= #[x]:=by rw[←Array.toArray_toList (xs:=first),tW]
      have et:cK= #[]:=by rw[←Array.toArray_toList (xs:=cK),Tl]
      subst ea
      subst et
      have hrun:(execOp a.eval o).run P w= .ok (.value (.func (.func f) #[a.eval x] #[])) w:=by
       rw[j9]
       simp[execOp,Instr.makeFunc]
      exact⟨_,_,A,ρ, .inl hrun,hr.sub bX,⟨⟨_,rfl,DF Hz vx⟩,rfl⟩,cz.refl _ _,cC.refl _,bq.refl _ _⟩
    · simp at h
  · exact other h
 ·
  rename_i args gx
  split at h
  · rename_i s x t t' hargs ic
    split at h
    · rename_i ik yp
      split at h
      · rename_i m e hs hx hu
        split at h
        · rename_i size bytes z hT hz
          obtain⟨hc,h⟩:=bn h
          rw[bP]at h
          refine⟨_,_,?_,h⟩
          intro M A ρ a w L hL hr
          have vs:=RV.at hL hr s
          rw[hs]at vs
          have vx:=V.gG hx (RV.at hL hr x)
          have Sx:a.eval s= .slice none 0 0:=V.bg (v:= .slice none 0 0) rfl vs
          have ea:args= #[s,x]:=by rw[←Array.toArray_toList (xs:=args),hargs]
          have et:gx= #[t,t']:=by rw[←Array.toArray_toList (xs:=gx),ic]
          subst ea
          subst et
          obtain⟨inf,zv,z1,z2,z3,z4,z5,z6⟩:=kO hT
          obtain⟨aoK,zv',y1,y2,y3,y4,y5⟩:=eo hz w A ρ
          rw[z1]at y1
          simp only[Option.some.injEq]at y1
          subst y1
          rw[z2]at y2
          simp only[Option.some.injEq]at y2
          subst y2
          obtain⟨arQ,Tm⟩:=Bool.and_eq_true _ _▸hc
          obtain⟨D7,Gh⟩:=Bool.and_eq_true _ _▸arQ
          have g2:=Nat.le_of_ble_eq_true Gh
          have g3:=Nat.le_of_ble_eq_true Tm
          have hsize:z.length=size:=by rw[←y4];exact z3
          have hrun:=jW (P:=P) (ty:=o.type) hu yp z1 z2 (m+1) (by omega) (by omega) g3 (by rw[z4];exact g2) w
          have hge:=grownCap_ge w (m+1) 0 e
          obtain⟨e1,e2,e3⟩:=lA y5 (m+1)
          have hlen:(List.replicate (m+1) z).length=m+1:=by simp
          obtain⟨A',ρ',r1,r2,r3,r4,r5⟩:=iZ (st:=⟨n,L,hp⟩) (e:=e) (z:=zv.cells) (cap:=grownCap w (m+1) 0 e) (zs:=List.replicate (m+1) z) (vs:=(Builtin.zeroCells zv.cells (m+1)).toList) (size:=size) hr (Nat.le_refl ctr) z5
           (fun el hel=>by rw[List.eq_of_mem_replicate hel];exact hsize)
           (by rw[Array.length_toList,size_zeroCells,z5,hlen]) (by rw[hlen];exact hge)
           (fun i el j k hi hj=>by
             obtain⟨y,hy,qT,rR⟩:=e3 i el j k hi hj
             refine⟨y,?_,qT,rR⟩
             rw[Array.getElem?_toList, ←hsize]
             have ez:Builtin.zeroCells zv.cells (m+1)=(Array.range ((m+1) * z.length)).map fun k=>zv.cells[k % zv.cells.size]! :=by
              unfold Builtin.zeroCells
              have:zv.cells.size=z.length:=by rw[y3,y4]
              rw[this]
             rw[ez]
             exact hy)
          rw[hlen]at r1 r2 r3
          simp only[Array.toArray_toList]at r1 r2 r3
          refine⟨_,_,A',ρ', .inl ?_,r1.sub fU,r2,r3,r4,r5⟩
          rw[j9]
          have Sl:a.eval x= .int .i64 ((m+1:Nat):Int):=vx
          have Oz:(execOp a.eval (bare (Op.call ⟨.builtin .append, #[s,x], #[t,t']⟩) o.type)).run P w=((Builtin.append_ #[t,t'] o.type #[a.eval s,a.eval x]).run P w).andThen fun v w'=> .ok (.value v) w':=by
           simp[execOp,resolve,invoke,builtin]
          rw[Oz,Sx,Sl,hrun]
          rfl
        · simp at h
      · simp at h
    · exact other h
  · exact other h
 ·
  rename_i bo t x y t'
  split at h
  · rename_i id sz i j e hx hy hu
    have Rl: ∀ (b:Addr) (w:World),(Op.equal t (.pointer (some b)) (.pointer none)).run P w= .ok false w:=by
     intro b w
     show(Op.equalIn 10000 t (.pointer (some b)) (.pointer none)).run P w=_
     unfold Op.equalIn
     simp[run_underlying hu]
    have fin: ∀ (c:Bool),(∀ (b:Addr) (w:World),(binOp bo t (.pointer (some b)) (.pointer none)).run P w= .ok (.bool c) w)→B4 P n o tm hp ctr (bV c) hp:=by
     intro c hc M A ρ a w L hL hr
     have vx:=RV.at hL hr x
     rw[hx]at vx
     have vy:=RV.at hL hr y
     rw[hy]at vy
     obtain⟨b,_,hb⟩:=vx.1
     have hyv:a.eval y= .pointer none:=V.bg (v:= .pointer none) rfl vy
     have hg:(eqGuard bo t x y (.pointer (some ⟨b,i * sz+j,none⟩)) (.pointer none)).run P w= .ok () w:=by
      unfold eqGuard
      cases bo<;>simp
     have hrun:(execOp a.eval o).run P w= .ok (.value (.bool c)) w:=by
      rw[j9]
      simp only[execOp,hb,hyv,Sem.run_bind,hg,Result.andThen_ok,hc,Sem.run_pure]
     exact⟨_,w,A,ρ, .inl hrun,hr.sub bX,RV.ofValue w A ρ (.bool c),cz.refl _ _,cC.refl _,bq.refl _ _⟩
    split at h
    · exact⟨_,_,fin false (fun b w=>by simp[binOp,Rl]),h⟩
    · exact⟨_,_,fin true (fun b w=>by simp[binOp,Rl]),h⟩
    · simp at h
  · exact other h
 · exact other h
end Go.aU
end
section
namespace Go.aU
open Go
variable {P:Program} {M A:Nat→Prop} {ρ:Env} {F:Nat→Prop} {st:St} {a:Act} {w:World}
def Cz (bits:List Nat) (lo:Nat) (fs:List gn):Bool:=
 (List.range fs.length).all fun j=>match fs[j]? with
   |some g=>(List.range j).all fun i=>match fs[i]? with
    |some f=>(bits.getD (lo+j) 0).testBit (lo+i)||f.apart g
    |none=>true
   |none=>true
theorem td {bits:List Nat} {lo:Nat} {fs:List gn} (h:Cz bits lo fs=true) {i j:Nat} {f g:gn} (hij:i < j) (hf:fs[i]? =some f) (hg:fs[j]? =some g):
 (bits.getD (lo+j) 0).testBit (lo+i)=true∨f.apart g=true:=by
 unfold Cz at h
 have hj:j < fs.length:=(List.getElem?_eq_some_iff.1 hg).1
 have:=List.all_eq_true.1 h j (List.mem_range.2 hj)
 simp only[hg]at this
 have:=List.all_eq_true.1 this i (List.mem_range.2 hij)
 simp only[hf,Bool.or_eq_true]at this
 exact this
theorem DB {ops:Array Oper} {n base lo m:Nat} {tmT:Nat→TS} {hpT:Nat→HS} {v:Nat→V} {fs:List gn} {Q:Exit→Act→World→Prop}
 (hlm:lo+m≤ops.size)
 (hstep: ∀i o,i < m→ops[lo+i]? =some o→eL P ops o n (tmT i) (hpT i) (base+4 * i) (v i) (hpT (i+1))∧(∀t,find (tmT (i+1)) t=find (cN (tmT i) o.dst (v i)) t)∧
   ∃f,fs[i]? =some f∧f.dst=o.dst∧(∀t,t∈names ops o→t∈f.nm)∧(∀k,k∈iD (St.get ⟨n,tmT i,hpT i⟩) o→k∈f.rd)∧(∀k,k∈sA (St.get ⟨n,tmT i,hpT i⟩) (base+4 * i) o→k∈f.wr))
 (hE: ∀i o,ops[i]? =some o→ ∀e,e∈aX o→e < i)
 (hok:Cz (jO (ops.toList.map aX) []) lo fs=true)
 (BF: ∀k,lo+m≤k→k < ops.size→ ∀i,i < m→((jO (ops.toList.map aX) []).getD k 0).testBit (lo+i)=true)
 (bL:Rel M A ρ (aZ base) ⟨n,tmT 0,hpT 0⟩ a w)
 (F5: ∀ (fuel:Nat) (listed:Array Bool) (a':Act) (w':World),listed.size=ops.size→(∀i,i < ops.size→listed.getD i false=decide (i < lo+m))→ops.size - (lo+m)≤fuel→
   Dl M A ρ w (fun st c=>st=⟨n,tmT m,hpT m⟩∧c=base+4 * m) a' w'→wpAny P .any ops Q fuel listed a' w'):
 ∀ (fuel:Nat) (listed:Array Bool),listed.size=ops.size→(∀i,i < ops.size→listed.getD i false=decide (i < lo))→ops.size - lo≤fuel→wpAny P .any ops Q fuel listed a w:=by
 let N:=m
 let dst:Nat→Option Nat:=fun i=>(ops[lo+i]?).bind (·.dst)
 let wr:Nat→List Nat:=fun i=>((ops[lo+i]?).map fun o=>sA (St.get ⟨n,tmT i,hpT i⟩) (base+4 * i) o).getD []
 have hop: ∀i,i < N→ ∃o,ops[lo+i]? =some o:=fun i hi=>by
  have:lo+i < ops.size:=by simp only[N]at hi;omega
  exact⟨ops[lo+i],by simp[this]⟩
 have tY: ∀i o,ops[lo+i]? =some o→dst i=o.dst:=fun i o h=>by simp only[dst,h,Option.bind_some]
 have Iy: ∀i o,ops[lo+i]? =some o→wr i=sA (St.get ⟨n,tmT i,hpT i⟩) (base+4 * i) o:=by
  intro i o h
  simp only[wr,h,Option.map_some,Option.getD_some]
 have tT: ∀i,i < N→ ∀k,¬k∈wr i→find (hpT (i+1)) k=find (hpT i) k:=by
  intro i hi k hk
  obtain⟨o,ho⟩:=hop i hi
  obtain⟨h1,_⟩:=hstep i o hi ho
  obtain⟨_,_,h3⟩:=h1.loc (tm2:=tmT i) (hp2:=hpT i) (fun _ _=>rfl) (fun _ _=>rfl) (fun _ _=>rfl)
  rw[Iy i o ho]at hk
  exact(h3.2 k hk).1
 have FT: ∀i,i < N→ ∀t,find (tmT (i+1)) t=find (cN (tmT i) (dst i) (v i)) t:=by
  intro i hi t
  obtain⟨o,ho⟩:=hop i hi
  rw[(hstep i o hi ho).2.1 t,tY i o ho]
 have Tv: ∀ (i:Nat) (es:List Nat),(ops.toList.map aX)[i]? =some es→ ∀e,e∈es→e < i:=by
  intro i es h e he
  simp only[List.getElem?_map,Array.getElem?_toList,Option.map_eq_some_iff]at h
  obtain⟨o,ho,rfl⟩:=h
  exact hE i o ho e he
 let Lg:Array Bool→Nat→Bool:=fun listed i=>listed.getD i false
 let cM:Array Bool→Nat→Bool:=fun listed i=>listed.getD (lo+i) false
 let Fr:(Nat→Bool)→Nat→Prop:=fun L k=>base+4 * N≤k∨ ∃j,j < N∧L j=false∧base+4 * j≤k∧k < base+4 * j+4
 have gK: ∀ {L:Nat→Bool} {i:Nat},i < ops.size→(∀k o,ops[k]? =some o→L k=true→ ∀e,e∈aX o→L e=true)→(∀o,ops[i]? =some o→ ∀e,e∈aX o→L e=true)→
  ∀j,((jO (ops.toList.map aX) []).getD i 0).testBit j=true→L j=true:=by
  intro L i hi ee HG j hb
  refine(oe Tv i (by simpa using hi) (fun k es _ D8 iF e he=>?_) (fun es iF e he=>?_) j hb).1
  · simp only[List.getElem?_map,Array.getElem?_toList,Option.map_eq_some_iff]at iF
    obtain⟨o,ho,rfl⟩:=iF
    exact ee k o ho D8 e he
  · simp only[List.getElem?_map,Array.getElem?_toList,Option.map_eq_some_iff]at iF
    obtain⟨o,ho,rfl⟩:=iF
    exact HG o ho e he
 have finish: ∀ (fuel:Nat) (listed:Array Bool) (a':Act) (w':World) (A':Nat→Prop) (ρ':Env),listed.size=ops.size→(∀i,i < lo→Lg listed i=true)→(∀i,lo+m≤i→i < ops.size→Lg listed i=false)→ops.size - (lo+m)≤fuel→(∀i,i < N→cM listed i=true)→
  Rel M A' ρ' (Fr (cM listed)) ⟨n,mL dst v (tmT 0) (cM listed) N,mO wr hpT (hpT 0) (cM listed) N⟩ a' w'→cz M w w'→cC ρ ρ'→bq A A' w→wpAny P .any ops Q fuel listed a' w':=by
  intro fuel listed a' w' A' ρ' hsz BL Gj EG ef hr dl ca hg
  refine F5 fuel listed a' w' hsz (fun i hi=>?_) EG ⟨⟨n,tmT m,hpT m⟩,base+4 * m,A',ρ',⟨rfl,rfl⟩,?_,dl,ca,hg⟩
  · by_cases h1:i < lo
    · rw[show listed.getD i false=true from BL i h1];simp;omega
    · by_cases h2:i < lo+m
      · have:=ef (i - lo) (by simp only[N];omega)
        simp only[cM]at this
        rw[show lo+(i - lo)=i by omega]at this
        rw[this];simp[h2]
      · rw[show listed.getD i false=false from Gj i (by omega) hi];simp;omega
  have h1:Rel M A' ρ' (Fr (cM listed)) ⟨n,tmT m,hpT m⟩ a' w':=hr.forget rfl (fun t u hu=>by
   rw[show find (⟨n,mL dst v (tmT 0) (cM listed) N,mO wr hpT (hpT 0) (cM listed) N⟩:St).tmps t=find (tmT N) t from ox dst v (tmT 0) tmT N rfl FT (cM listed) t N (Nat.le_refl _) ef];exact hu) (fun k b hb=>by
   rw[show find (⟨n,mL dst v (tmT 0) (cM listed) N,mO wr hpT (hpT 0) (cM listed) N⟩:St).heap k=find (hpT N) k from o7 wr hpT (hpT 0) N rfl tT (cM listed) k N (Nat.le_refl _) ef];exact hb)
  exact h1.sub (fun k hk=> .inl hk)
 have main: ∀ (c fuel:Nat) (listed:Array Bool) (a':Act) (w':World) (A':Nat→Prop) (ρ':Env),listed.size=ops.size→(∀i,i < lo→Lg listed i=true)→(∀i,lo+m≤i→i < ops.size→Lg listed i=false)→mo (cM listed) N=c→c+(ops.size - (lo+m))≤fuel→
  (∀k o,ops[k]? =some o→Lg listed k=true→ ∀e,e∈aX o→Lg listed e=true)→
  Rel M A' ρ' (Fr (cM listed)) ⟨n,mL dst v (tmT 0) (cM listed) N,mO wr hpT (hpT 0) (cM listed) N⟩ a' w'→cz M w w'→cC ρ ρ'→bq A A' w→
  wpAny P .any ops Q fuel listed a' w':=by
  intro c
  induction c with
  |zero=>
   intro fuel listed a' w' A' ρ' hsz BL Gj BI EG ee hr dl ca hg
   exact finish fuel listed a' w' A' ρ' hsz BL Gj (by omega) (qG BI) hr dl ca hg
  |succ c ih=>
   intro fuel listed a' w' A' ρ' hsz BL Gj BI EG ee hr dl ca hg
   obtain⟨fuel,rfl⟩: ∃f,fuel=f+1:=⟨fuel - 1,by omega⟩
   have hex: ∃i,i < N∧cM listed i=false:=by
    by_cases h: ∃i,i < N∧cM listed i=false
    · exact h
    · exfalso
      have: ∀i,i < N→cM listed i=true:=fun i hi=>by cases h':cM listed i with|true=>rfl|false=>exact absurd ⟨i,hi,h'⟩ h
      have h0: ∀k,k≤N→mo (cM listed) k=0:=by
       intro k
       induction k with
       |zero=>intro _;rfl
       |succ k ihk=>intro hk;simp only[mo,ihk (by omega),this k (by omega)];rfl
      rw[h0 N (Nat.le_refl _)]at BI
      omega
   refine⟨fun Aj=>?_,fun ig hi=>?_⟩
   · exfalso
     obtain⟨i,hi,hL,BE⟩:=kM hex
     obtain⟨o,ho⟩:=hop i hi
     have:lo+i∈Region.ready .any ops listed:=by
      rw[mem_ready]
      refine⟨?_,o,ho,fun e he hb=>?_⟩
      · simp only[cM,Array.getD_eq_getD_getElem?]at hL⊢
        have jl:lo+i < listed.size:=by have:=(Array.getElem?_eq_some_iff.1 ho).1;omega
        simpa[jl]using hL
      · have hm:e.on∈aX o:=by simp only[aX,List.mem_map,List.mem_filter];exact⟨e,⟨by simpa using he,hb⟩,rfl⟩
        have hlt:=hE (lo+i) o ho _ hm
        by_cases h1:e.on < lo
        · exact BL _ h1
        · have:=BE (e.on - lo) (by omega)
          simp only[cM]at this
          rw[show lo+(e.on - lo)=e.on by omega]at this
          exact this
     rw[Aj]at this
     simp at this
   · rw[mem_ready]at hi
     obtain⟨h0,o,P8,tX⟩:=hi
     have Oq:ig < ops.size:=(Array.getElem?_eq_some_iff.1 P8).1
     have IZ:Lg listed ig=false:=by
      simp only[Lg,Array.getD_eq_getD_getElem?]at h0⊢
      have jl:ig < listed.size:=by omega
      simpa[jl]using h0
     have HG: ∀e,e∈aX o→Lg listed e=true:=by
      intro e he
      simp only[aX,List.mem_map,List.mem_filter]at he
      obtain⟨ed,⟨h1,h2⟩,rfl⟩:=he
      exact tX ed (by simpa using h1) h2
     have hge:lo≤ig:=by
      rcases Nat.lt_or_ge ig lo with h|h
      · rw[BL ig h]at IZ;simp at IZ
      · exact h
     have hlt:ig < lo+m:=by
      rcases Nat.lt_or_ge ig (lo+m)with h|h
      · exact h
      · exfalso
        obtain⟨i,hi,hL⟩:=hex
        have hb:=BF ig h Oq i hi
        have:=gK Oq ee (fun o' vp=>by rw[P8]at vp;simp only[Option.some.injEq]at vp;subst vp;exact HG) _ hb
        simp only[cM]at hL
        rw[show Lg listed (lo+i)=false from hL]at this
        simp at this
     obtain⟨i,rfl⟩: ∃i,ig=lo+i:=⟨ig - lo,by omega⟩
     have yB:i < N:=by simp only[N];omega
     have ho:ops[lo+i]? =some o:=P8
     have D9:cM listed i=false:=IZ
     obtain⟨hst,apB,f,hf,fd,fn,fr,fw⟩:=hstep i o yB ho
     have order: ∀j oj g,j≠i→j < N→ops[lo+j]? =some oj→fs[j]? =some g→(f.apart g=true∨g.apart f=true)∨(j < i∧cM listed j=true)∨(i < j∧cM listed j=false):=by
      intro j oj g fk hjN n8 iE
      have hjS:lo+j < ops.size:=(Array.getElem?_eq_some_iff.1 n8).1
      rcases Nat.lt_or_gt_of_ne fk with hlt|hgt
      · rcases td hok hlt iE hf with hb|hb
        · exact .inr (.inl ⟨hlt,gK Oq ee (fun o' vp=>by rw[ho]at vp;simp only[Option.some.injEq]at vp;subst vp;exact HG) (lo+j) hb⟩)
        · exact .inl (.inr hb)
      · rcases td hok hgt hf iE with hb|hb
        · refine .inr (.inr ⟨hgt,?_⟩)
          cases hLj:cM listed j with
          |false=>rfl
          |true=>
           have:=gK hjS ee (fun o' vp=>ee (lo+j) o' vp hLj) (lo+i) hb
           rw[IZ]at this
           simp at this
        · exact .inl (.inl hb)
     have uk: ∀j,j < N→ ∃oj g,ops[lo+j]? =some oj∧fs[j]? =some g∧g.dst=dst j∧ ∀k,k∈wr j→k∈g.wr:=by
      intro j hj
      obtain⟨oj,n8⟩:=hop j hj
      obtain⟨_,_,g,g1,g2,_,_,g5⟩:=hstep j oj hj n8
      exact⟨oj,g,n8,g1,by rw[g2,tY j oj n8],fun k hk=>g5 k (by rw[Iy j oj n8]at hk;exact hk)⟩
     have apart_spec: ∀ {f g:gn},(f.apart g=true∨g.apart f=true)→(∀t,f.dst=some t→g.dst=some t→False)∧(∀t,g.dst=some t→t∈f.nm→False)∧(∀k,k∈g.wr→k∈f.rd→False)∧(∀k,k∈g.wr→k∈f.wr→False):=by
      intro f g h
      rcases h with h|h<;>simp only[gn.apart,Bool.and_eq_true]at h<;>obtain⟨⟨⟨⟨⟨h1,h2⟩,h3⟩,h4⟩,h5⟩,h6⟩:=h
      · exact⟨fun t a b=>cw (x:=t) h3 (by simp[a]) (by simp[b]),fun t a b=>cw (x:=t) h2 (by simp[a]) b,fun k a b=>cw h5 a b,fun k a b=>cw h6 b a⟩
      · exact⟨fun t a b=>cw (x:=t) h3 (by simp[b]) (by simp[a]),fun t a b=>cw (x:=t) h1 (by simp[a]) b,fun k a b=>cw h4 a b,fun k a b=>cw h6 a b⟩
     have B2: ∀t,t∈names ops o→find (mL dst v (tmT 0) (cM listed) N) t=find (tmT i) t:=by
      intro t ht
      rw[lD dst v (tmT 0) (cM listed) (fun j=>decide (j < i)) t N ?_,sW dst v (tmT 0) i t N (Nat.le_of_lt yB),ox dst v (tmT 0) tmT N rfl FT _ t i (Nat.le_of_lt yB) (fun j hj=>by simpa using hj)]
      intro j hj yF
      by_cases fk:j=i
      · subst fk;rw[D9];simp
      · obtain⟨oj,g,n8,iE,gd,gw⟩:=uk j hj
        rcases order j oj g fk hj n8 iE with hap|⟨h1,h2⟩|⟨h1,h2⟩
        · exact((apart_spec hap).2.1 t (by rw[gd,yF]) (fn t ht)).elim
        · rw[h2];simp[h1]
        · rw[h2];simp;omega
     have uV: ∀k,(k∈f.rd∨k∈f.wr)→find (mO wr hpT (hpT 0) (cM listed) N) k=find (hpT i) k:=by
      intro k hk
      rw[lV wr hpT (hpT 0) (cM listed) (fun j=>decide (j < i)) k N ?_,tS wr hpT (hpT 0) i k N (Nat.le_of_lt yB),o7 wr hpT (hpT 0) N rfl tT _ k i (Nat.le_of_lt yB) (fun j hj=>by simpa using hj)]
      intro j hj yF
      by_cases fk:j=i
      · subst fk;rw[D9];simp
      · obtain⟨oj,g,n8,iE,gd,gw⟩:=uk j hj
        rcases order j oj g fk hj n8 iE with hap|⟨h1,h2⟩|⟨h1,h2⟩
        · rcases hk with hk|hk
          · exact((apart_spec hap).2.2.1 k (gw k yF) hk).elim
          · exact((apart_spec hap).2.2.2 k (gw k yF) hk).elim
        · rw[h2];simp[h1]
        · rw[h2];simp;omega
     have Gc: ∀k,k∈four (base+4 * i)→k∈f.wr:=fun k hk=>fw k (by simp only[sA,List.mem_append];exact .inl hk)
     obtain⟨lW,N4,IV⟩:=hst.loc (tm2:=mL dst v (tmT 0) (cM listed) N) (hp2:=mO wr hpT (hpT 0) (cM listed) N) B2 (fun k hk=>uV k (.inl (fr k hk))) (fun k hk=>uV k (.inr (Gc k hk)))
     rw[←Iy i o ho]at IV
     refine eL.sound ho N4 hr (fun k h1 h2=> .inr ⟨i,yB,D9,h1,h2⟩) ?_
     intro a2 w2 A2 ρ2 r1 r2 r3 r4
     have FX: ∀j,cM (listed.setIfInBounds (lo+i) true) j=if j=i then true else cM listed j:=by
      intro j
      by_cases fk:j=i
      · subst fk
        have:lo+j < listed.size:=by omega
        simp[cM,Array.getD_eq_getD_getElem?,this]
      · simp only[cM,fk,if_false]
        exact getD_set_ne false (fun e=>fk (by omega))
     have FW: ∀k,k≠lo+i→Lg (listed.setIfInBounds (lo+i) true) k=Lg listed k:=fun k hk=>getD_set_ne false (fun e=>hk e.symm)
     have uc:cM (listed.setIfInBounds (lo+i) true) i=true:=by rw[FX];simp
     have kY: ∀j,j≠i→cM (listed.setIfInBounds (lo+i) true) j=cM listed j:=fun j hj=>by rw[FX,if_neg hj]
     have later: ∀j,i < j→j < N→(∀oj g,ops[lo+j]? =some oj→fs[j]? =some g→(f.apart g=true∨g.apart f=true)→False)→cM (listed.setIfInBounds (lo+i) true) j=false:=by
      intro j h1 h2 h3
      obtain⟨oj,g,n8,iE,gd,gw⟩:=uk j h2
      rw[kY j (by omega)]
      rcases order j oj g (by omega) h2 n8 iE with hap|⟨h4,_⟩|⟨_,h5⟩
      · exact(h3 oj g n8 iE hap).elim
      · omega
      · exact h5
     refine ih fuel (listed.setIfInBounds (lo+i) true) a2 w2 A2 ρ2 (by simpa using hsz) (fun k hk=>by rw[FW k (by omega)];exact BL k hk) (fun k hk hk'=>by rw[FW k (by omega)];exact Gj k hk hk') ?_ (by omega) ?_ ?_ (dl.trans r2) (ca.trans r3) (hg.trans r4 dl.size)
     · have:=uJ (L:=cM listed) (L':=cM (listed.setIfInBounds (lo+i) true)) D9 uc kY (k:=N) yB
       omega
     · intro k ok' rS D8 e he
       by_cases nt:k=lo+i
       · subst nt
         rw[ho]at rS
         simp only[Option.some.injEq]at rS
         subst rS
         exact getD_set_true (HG e he)
       · rw[FW k nt]at D8
         exact getD_set_true (ee k ok' rS D8 e he)
     · refine(Rel.forget (st':=⟨n,mL dst v (tmT 0) (cM (listed.setIfInBounds (lo+i) true)) N,mO wr hpT (hpT 0) (cM (listed.setIfInBounds (lo+i) true)) N⟩) r1 rfl (fun t u hu=>?_) (fun k b hb=>?_)).sub (fun k hk=>?_)
       · simp only[fM]
         split
         · rename_i hd
           have nn:=xI dst v (tmT 0) (cM (listed.setIfInBounds (lo+i) true)) t i (by rw[tY i o ho];exact hd) uc N yB (fun j h1 h2 h3=>later j h1 h2 (fun oj g n8 iE hap=>by
            obtain⟨_,g',_,yC,gd,_⟩:=uk j h2
            rw[iE]at yC
            simp only[Option.some.injEq]at yC
            subst yC
            exact(apart_spec hap).1 t (by rw[fd];exact hd) (by rw[gd];exact h3)))
           rw[←nn];exact hu
         · rename_i hd
           rw[lD dst v (tmT 0) (cM listed) (cM (listed.setIfInBounds (lo+i) true)) t N (fun j hj yF=>by
            by_cases fk:j=i
            · subst fk;rw[tY j o ho]at yF;exact absurd yF hd
            · exact(kY j fk).symm)]
           exact hu
       · by_cases hk:k∈wr i
         · have hkw:k∈f.wr:=fw k (by rw[←Iy i o ho];exact hk)
           have nn:=yt wr hpT (hpT 0) (cM (listed.setIfInBounds (lo+i) true)) k i hk uc N yB (fun j h1 h2 h3=>later j h1 h2 (fun oj g n8 iE hap=>by
            obtain⟨_,g',_,yC,_,gw⟩:=uk j h2
            rw[iE]at yC
            simp only[Option.some.injEq]at yC
            subst yC
            exact(apart_spec hap).2.2.2 k (gw k h3) hkw))
           rw[IV.1 k hk, ←nn];exact hb
         · rw[(IV.2 k hk).2,lV wr hpT (hpT 0) (cM listed) (cM (listed.setIfInBounds (lo+i) true)) k N (fun j hj yF=>by
            by_cases fk:j=i
            · subst fk;exact absurd yF hk
            · exact(kY j fk).symm)]
           exact hb
       · refine⟨?_,?_⟩
         · rcases hk with hk|⟨j,h1,h2,h3⟩
           · exact .inl hk
           · by_cases fk:j=i
             · subst fk;rw[uc]at h2;simp at h2
             · rw[kY j fk]at h2;exact .inr ⟨j,h1,h2,h3⟩
         · rintro⟨q1,q2⟩
           rcases hk with hk|⟨j,h1,h2,h3,h4⟩
           · omega
           · by_cases fk:j=i
             · subst fk;rw[uc]at h2;simp at h2
             · omega
 intro fuel listed hsz hl EG
 have hLf: ∀i,i < N→cM listed i=false:=by
  intro i hi
  simp only[cM]
  rw[hl (lo+i) (by simp only[N]at hi;omega)]
  simp
 have Tj: ∀k,k≤N→mo (cM listed) k=k:=by
  intro k
  induction k with
  |zero=>intro _;rfl
  |succ k ih=>intro hk;simp only[mo,ih (by omega),hLf k (by omega)];simp
 refine main m fuel listed a w A ρ hsz (fun i hi=>?_) (fun i hi hi'=>?_) (Tj N (Nat.le_refl _)) (by omega) (fun k o ho D8 e he=>?_) ?_ (cz.refl _ _) (cC.refl _) (bq.refl _ _)
 · show listed.getD i false=true
   rw[hl i (by omega)];simp[hi]
 · show listed.getD i false=false
   rw[hl i hi'];simp;omega
 · have hk:k < ops.size:=(Array.getElem?_eq_some_iff.1 ho).1
   have h1:k < lo:=by
    have:listed.getD k false=true:=D8
    rw[hl k hk]at this
    simpa using this
   have h2:=hE k o ho e he
   show listed.getD e false=true
   rw[hl e (by omega)];simp;omega
 · have eT: ∀k,k≤N→mL dst v (tmT 0) (cM listed) k=tmT 0:=by
    intro k
    induction k with
    |zero=>intro _;rfl
    |succ k ih=>intro hk;simp only[mL,hLf k (by omega),Bool.false_eq_true,if_false,ih (by omega)]
   have eH: ∀k,k≤N→mO wr hpT (hpT 0) (cM listed) k=hpT 0:=by
    intro k
    induction k with
    |zero=>intro _;rfl
    |succ k ih=>intro hk;simp only[mO,hLf k (by omega),Bool.false_eq_true,if_false,ih (by omega)]
   rw[eT N (Nat.le_refl _),eH N (Nat.le_refl _)]
   refine bL.sub (fun k hk=>?_)
   simp only[aZ]
   rcases hk with hk|⟨j,_,_,h3,_⟩<;>omega
end Go.aU
end
section
namespace Go.aU
open Go
abbrev rD (α:Type):=FuncId→List W→HS→Nat→(V→HS→Nat→α)→α
abbrev rE (α:Type):=FuncId→List W→HS→Nat→(V→HS→α)→α
section
variable {α:Type} (bad:α) (call:rD α) (cY:rE α)
def GJ (v:V) (us:List W) (k:FuncId→List W→α):α:=
 match v with
 | .w (.one (.jc f cK))=>k f (us++cK.map fun p=> .one (.ptr p.1 p.2.1 p.2.2.1 p.2.2.2))
 | .w (.one (.yY f true ts))=>k f (.agg (ts.map .t)::us)
 | .w (.one (.yY f false [t]))=>k f (.one (.t t)::us)
 | .w (.one (.t (.val (.func (.func f) first cK))))=>fI (first.isEmpty&&cK.isEmpty) (k f us) bad
 |_=>bad
def EGo (P:Program) (o:fe) (tm:Tr) (hp:HS) (ctr:Nat) (K:Tr→HS→Nat→α):α:=
 match o.op with
 | .call f args=>Ng bad (gT tm) args fun us=>call f us hp ctr fun v hp' bz=>qW v fun v=>jI tm o.dst v fun tm=>K tm hp' bz
 | .fp x args=>Ng bad (gT tm) args fun us=>GJ bad (gT tm x) us fun f us=>fI (enters P f) (call f us hp ctr fun v hp' bz=>qW v fun v=>jI tm o.dst v fun tm=>K tm hp' bz) bad
 | .raw op ty=>EX P bad op ty (gT tm) hp ctr fun v hp'=>jI tm o.dst v fun tm=>mH (ctr+4) fun c=>K tm hp' c
 | .append size bytes s x=>match gT tm s with
   | .w (.one (.own id sz 0 len))=>match find hp id with
     |some (.row cV xs)=>fQ (iC hp id (.row cV (xs.take len))) fun hp=>ER bad (.append size bytes s x) (gT tm) hp ctr fun v hp'=>jI tm o.dst v fun tm=>mH (ctr+4) fun c=>K tm hp' c
     |_=>bad
   |_=>ER bad (.append size bytes s x) (gT tm) hp ctr fun v hp'=>jI tm o.dst v fun tm=>mH (ctr+4) fun c=>K tm hp' c
 | .slice size x lo hi=>match gT tm x with
   | .w (.one (.t (.val (.slice none 0 0))))=>match fc (lo.map (gT tm)) 0,fc (hi.map (gT tm)) 0 with
     |some 0,some 0=>jI tm o.dst (.w (.one (.t (.val (.slice none 0 0))))) fun tm=>mH (ctr+4) fun c=>K tm hp c
     |_,_=>bad
   |_=>ER bad (.slice size x lo hi) (gT tm) hp ctr fun v hp'=>jI tm o.dst v fun tm=>mH (ctr+4) fun c=>K tm hp' c
 |r=>ER bad r (gT tm) hp ctr fun v hp'=>jI tm o.dst v fun tm=>mH (ctr+4) fun c=>K tm hp' c
def EOp (P:Program) (o:fe) (tm:Tr) (hp:HS) (ctr:Nat) (K:Tr→HS→Nat→α):α:=
 match o.guard with
 |none=>EGo bad call P o tm hp ctr K
 |some (d,want)=>
  match tm.get (key d)with
  |some (.w (.one (.t (.val (.bool b)))))=>fI (b==want) (EGo bad call P o tm hp ctr K) (jI tm o.dst (.dn []) fun tm=>K tm hp ctr)
  |some (.dn [])=>jI tm o.dst (.dn []) fun tm=>K tm hp ctr
  |_=>bad
def JO (P:Program):List fe→Tr→HS→Nat→(Tr→HS→Nat→α)→α
 | [],tm,hp,ctr,K=>K tm hp ctr
 |o::r,tm,hp,ctr,K=>EOp bad call P o tm hp ctr fun tm hp ctr=>JO P r tm hp ctr K
def JP (P:Program) (o:fe) (tm:Tr) (hp:HS) (ctr:Nat) (K:Tr→HS→Nat→α):α:=
 match o.op with
 | .call f args=>Ng bad (gT tm) args fun us=>cY f us hp ctr fun v hp'=>qW v fun v=>jI tm o.dst v fun tm=>mH (ctr+4) fun c=>K tm hp' c
 | .fp x args=>Ng bad (gT tm) args fun us=>GJ bad (gT tm x) us fun f us=>fI (enters P f) (cY f us hp ctr fun v hp'=>qW v fun v=>jI tm o.dst v fun tm=>mH (ctr+4) fun c=>K tm hp' c) bad
 | .raw op ty=>match ak P (fun x=>gT tm (cT x)) hp ctr (bare op ty)with
   |some (v,hp')=>qW v fun v=>jI tm o.dst v fun tm=>mH (ctr+4) fun c=>K tm hp' c
   |none=>bad
 |r=>ER bad r (gT tm) hp ctr fun v hp'=>jI tm o.dst v fun tm=>mH (ctr+4) fun c=>K tm hp' c
def CW (o:fe) (tm:Tr) (ctr:Nat):gn:=
 let rd:=if o.op.dF then o.op.gA.flatMap fun x=>(gT tm x).ids else []
 ⟨o.dst,o.op.gA.filterMap RL++(o.guard.map (·.1)).toList,rd,four ctr++if o.op.wrt then rd else []⟩
def PS (P:Program) (o:fe) (tm:Tr) (hp:HS) (ctr:Nat) (K:Tr→HS→Nat→α):α:=
 match o.guard with
 |none=>JP bad cY P o tm hp ctr K
 |some (d,want)=>
  match tm.get (key d)with
  |some (.w (.one (.t (.val (.bool b)))))=>fI (b==want) (JP bad cY P o tm hp ctr K) (jI tm o.dst (.dn []) fun tm=>mH (ctr+4) fun c=>K tm hp c)
  |some (.dn [])=>jI tm o.dst (.dn []) fun tm=>mH (ctr+4) fun c=>K tm hp c
  |_=>bad
def AV (P:Program):List fe→List gn→Tr→HS→Nat→(List gn→Tr→HS→Nat→α)→α
 | [],fs,tm,hp,ctr,K=>K fs tm hp ctr
 |o::r,fs,tm,hp,ctr,K=>PS bad cY P o tm hp ctr fun aW hp' bz=>AV P r (fs++[CW o tm ctr]) aW hp' bz K
def zZ (bits:List Nat) (N j:Nat):Bool:=
 (List.range j).all (fun i=>(bits.getD j 0).testBit i)&& (List.range (N - (j+1))).all (fun d=>(bits.getD (j+1+d) 0).testBit j)
def bU (bits:List Nat) (N:Nat):Nat→List fe→List fe×List fe
 |_,[]=>([],[])
 |j,o::r=>fI (zZ bits N j) ([],o::r) (o::(bU bits N (j+1) r).1,(bU bits N (j+1) r).2)
def CF (bits:List Nat) (lo m N:Nat):Bool:=
 (List.range (N - (lo+m))).all fun d=>(List.range m).all fun i=>(bits.getD (lo+m+d) 0).testBit (lo+i)
def vg (P:Program) (bits:List Nat) (N:Nat):Nat→Nat→List fe→Tr→HS→Nat→(Tr→HS→Nat→α)→α
 |0,_,_,_,_,_,_=>bad
 |f+1,lo,ops,tm,hp,ctr,K=>
  AV bad cY P (bU bits N lo ops).1 [] tm hp ctr fun fs tm hp ctr=>
   fI (Cz bits lo fs&&CF bits lo (bU bits N lo ops).1.length N)
    (match(bU bits N lo ops).2 with
    | []=>K tm hp ctr
    |o::r=>EOp bad call P o tm hp ctr fun tm hp ctr=>vg P bits N f (lo+(bU bits N lo ops).1.length+1) r tm hp ctr K) bad
def GK (K:Tr→HS→Nat→α) (Q:Exit→Tr→HS→Nat→α):Exit→Tr→HS→Nat→α
 | .normal=>K
 |e=>Q e
def GZ (id:Nat) (Q:Exit→Tr→HS→Nat→α):Exit→Tr→HS→Nat→α
 | .exit id'=>fI (Nat.beq id' id) (Q .normal) (Q (.exit id'))
 |e=>Q e
def AI (body:(Tr→HS→Nat→α)→Tr→HS→Nat→α):Nat→Tr→HS→Nat→α
 |0=>fun _ _ _=>bad
 |n+1=>body (AI body n)
def E (P:Program) (fuel:Nat):Rc→(Exit→Tr→HS→Nat→α)→Tr→HS→Nat→α
 | .skip,Q,tm,hp,ctr=>Q .normal tm hp ctr
 | .ret,Q,tm,hp,ctr=>Q .ret tm hp ctr
 | .exit id,Q,tm,hp,ctr=>Q (.exit id) tm hp ctr
 | .seq a b,Q,tm,hp,ctr=>E P fuel a (GK (E P fuel b Q) Q) tm hp ctr
 | .cond c a b,Q,tm,hp,ctr=>
   match(gT tm c).fq with
   |some v=>fI v (E P fuel a Q tm hp ctr) (E P fuel b Q tm hp ctr)
   |none=>bad
 | .block id b,Q,tm,hp,ctr=>E P fuel b (GZ id Q) tm hp ctr
 | .loop b,Q,tm,hp,ctr=>AI bad (fun self=>E P fuel b (GK self Q)) fuel tm hp ctr
 | .region ops,Q,tm,hp,ctr=>JO bad call P ops tm hp ctr (Q .normal)
 | .draw ops es,Q,tm,hp,ctr=>vg bad call cY P (jO es []) ops.length (ops.length+1) 0 ops tm hp ctr (Q .normal)
end
def fF (n:Nat):Rc→Bool
 | .seq a b=>fF n a&&fF n b
 | .cond _ a b=>fF n a&&fF n b
 | .block _ b=>fF n b
 | .loop b=>fF n b
 | .region ops=>ops.all fun o=>eI n o.dst
 | .draw ops _=>ops.all fun o=>eI n o.dst
 |_=>true
variable {P:Program} {M A:Nat→Prop} {ρ:Env} {F:Nat→Prop} {st:St} {a:Act} {w:World}
def At (M A:Nat→Prop) (ρ:Env) (w:World) (n:Nat) (tm:Tr) (hp:HS) (ctr:Nat) (a':Act) (w':World):Prop:=
 ∃L A' ρ',dU tm L∧Rel M A' ρ' (aZ ctr) ⟨n,L,hp⟩ a' w'∧cz M w w'∧cC ρ ρ'∧bq A A' w
theorem At.trans {A1:Nat→Prop} {ρ1:Env} {w1 w':World} {n:Nat} {tm:Tr} {hp:HS} {ctr:Nat} {a':Act} (h:At M A1 ρ1 w1 n tm hp ctr a' w') (dl:cz M w w1) (ca:cC ρ ρ1) (hg:bq A A1 w):At M A ρ w n tm hp ctr a' w':=by
 obtain⟨L,A',ρ',h1,h2,h3,h4,h5⟩:=h
 exact⟨L,A',ρ',h1,h2,dl.trans h3,ca.trans h4,hg.trans h5 dl.size⟩
theorem At.here {n:Nat} {L:TS} {tm:Tr} {hp:HS} {ctr:Nat} (ht:dU tm L) (h:Rel M A ρ (aZ ctr) ⟨n,L,hp⟩ a w):At M A ρ w n tm hp ctr a w:=
 ⟨L,A,ρ,ht,h,cz.refl _ _,cC.refl _,bq.refl _ _⟩
def QI (P:Program) (n:Nat) (c:Code) (tm:Tr) (hp:HS) (ctr:Nat) (e:Exit) (aW:Tr) (hp':HS) (bz:Nat):Prop:=
 ∀ (M A:Nat→Prop) (ρ:Env) (a:Act) (w:World) (L:TS),dU tm L→Rel M A ρ (aZ ctr) ⟨n,L,hp⟩ a w→
  c.wp P (fun e2 a' w'=>e2=e∧At M A ρ w n aW hp' bz a' w') a w
def my (P:Program) (call:rD Bool):Prop:= ∀f us hp ctr K,call f us hp ctr K=true→ ∃v hp' bz,fu P f us hp ctr v hp' bz∧K v hp' bz=true
def jF (P:Program) (cY:rE Bool):Prop:= ∀f us hp ctr K,cY f us hp ctr K=true→ ∃v hp',dP P hp ctr f us v hp'∧K v hp'=true
def gm (ops:Array Oper) (o:Oper) (g:Option (Nat×Bool)):Prop:=
 (o.guard=none∧g=none)∨ ∃j want d,o.guard=some (j,want)∧(ops[j]?).bind (·.dst)=some d∧g=some (d,want)
def uX (P:Program) (n:Nat) (ops:Array Oper) (i:Nat) (tm:Tr) (hp:HS) (ctr:Nat) (aW:Tr) (hp':HS) (bz:Nat):Prop:=
 ∀ (M A:Nat→Prop) (ρ:Env) (a:Act) (w:World) (L:TS) (Q:Exit→Act→World→Prop) (K':Act→World→Prop),dU tm L→Rel M A ρ (aZ ctr) ⟨n,L,hp⟩ a w→
  (∀a' w',At M A ρ w n aW hp' bz a' w'→K' a' w')→wpOp P ops Q i K' a w
def pI (P:Program) (n:Nat) (ops:Array Oper) (o:Oper) (tm:Tr) (hp:HS) (ctr:Nat) (v:V) (hp':HS):Prop:=
 ∀L,dU tm L→eL P ops o n L hp ctr v hp'
theorem pI.run {n:Nat} {ops:Array Oper} {o:Oper} {i:Nat} {tm:Tr} {hp hp':HS} {ctr:Nat} {v:V} (hi:ops[i]? =some o) (h:pI P n ops o tm hp ctr v hp'):
 uX P n ops i tm hp ctr (s9 tm o.dst v) hp' (ctr+4):=by
 intro M A ρ a w L Q K' hL hr hk
 refine eL.sound hi (h L hL) hr (fun k h1 _=>h1) ?_
 intro a' w' A' ρ' r1 r2 r3 r4
 exact hk a' w' ⟨_,A',ρ',hL.put o.dst v,r1.sub fU,r2,r3,r4⟩
theorem sY {n:Nat} {ops:Array Oper} {o:Oper} {g:Option (Nat×Bool)} {tm:Tr} {hp:HS} {ctr:Nat} (hd:eI n o.dst=true) (hgd:gm ops o g)
 (hg: ∃d want,g=some (d,want)∧((∃b,tm.get (key d)=some (bV b)∧(b==want)=false)∨tm.get (key d)=some (.dn []))):pI P n ops o tm hp ctr (.dn []) hp:=by
 intro L hL
 obtain⟨d,want,rfl,hg⟩:=hg
 rcases hgd with⟨_,h⟩|⟨j,want',d',h1,h2,h3⟩
 · simp at h
 · simp only[Option.some.injEq,Prod.mk.injEq]at h3
   obtain⟨rfl,rfl⟩:=h3
   refine⟨hd,?_⟩
   rcases hg with⟨b,hb,hne⟩|hb
   · rw[←hL d]at hb
     simp only[aP,h1,h2,hb,hne]
     exact⟨trivial,trivial⟩
   · rw[←hL d]at hb
     simp only[aP,h1,h2,hb]
     exact⟨trivial,trivial⟩
theorem guard_true {ops:Array Oper} {o:Oper} {g:Option (Nat×Bool)} {tm:Tr} {L:TS} (hL:dU tm L) (hgd:gm ops o g)
 (hg:g=none∨ ∃d want b,g=some (d,want)∧tm.get (key d)=some (bV b)∧(b==want)=true):aP ops o L=some true:=by
 rcases hgd with⟨h0,rfl⟩|⟨j,want,d,h1,h2,rfl⟩
 · simp[aP,h0]
 · rcases hg with h|⟨d',want',b,h3,h4,h5⟩
   · simp at h
   · simp only[Option.some.injEq,Prod.mk.injEq]at h3
     obtain⟨rfl,rfl⟩:=h3
     rw[←hL d]at h4
     simp only[aP,h1,h2,h4,h5]
theorem Dp {n:Nat} {ops:Array Oper} {o:Oper} {x:Ro} {g:Option (Nat×Bool)} {tm:Tr} {hp:HS} {ctr:Nat} {K:V→HS→Bool} (hx:aV P o=some x) (hd:eI n o.dst=true)
 (hgd:gm ops o g) (hg:g=none∨ ∃d want b,g=some (d,want)∧tm.get (key d)=some (bV b)∧(b==want)=true)
 (hE: ∃L,dU tm L) (h:ER false x (gT tm) hp ctr K=true): ∃v hp',pI P n ops o tm hp ctr v hp'∧K v hp'=true:=by
 obtain⟨L0,tZ⟩:=hE
 rw[kf tZ]at h
 obtain⟨h1,v,hp',h2,h3⟩:=pG (st:=⟨n,L0,hp⟩) hx (ahD h)
 refine⟨v,hp',fun L hL=>⟨hd,?_⟩,h3⟩
 rw[guard_true hL hgd hg]
 have BH: ∀y,St.get ⟨n,L,hp⟩ y=St.get ⟨n,L0,hp⟩ y:=by
  intro y
  cases y with
  |tmp t=>simp only[St.get];rw[hL t,tZ t]
  |_=>rfl
 have c1:bF (St.get ⟨n,L,hp⟩) o=none:=by rw[pC (get':=St.get ⟨n,L0,hp⟩) (fun y _=>BH y)];exact h1
 simp only[c1]
 rw[pi (get':=St.get ⟨n,L0,hp⟩) (fun y _=>BH y)]
 exact h2
def Tr.toL:Tr→(Pn→Pn)→List (Nat×V)
 | .nil,_=>[]
 | .node v l r,f=>(match v with|some x=>[((f .e).dec,x)]|none=>[])++l.toL (fun p=>f (.o p))++r.toL (fun p=>f (.i p))
theorem pA: ∀ {p q:Pn},p.dec=q.dec→p=q
 | .e, .e,_=>rfl
 | .e, .o _,h=>by simp[Pn.dec]at h
 | .e, .i _,h=>by simp[Pn.dec]at h
 | .o _, .e,h=>by simp[Pn.dec]at h
 | .i _, .e,h=>by simp[Pn.dec]at h
 | .o p, .o q,h=>by simp only[Pn.dec]at h;rw[pA (p:=p) (q:=q) (by omega)]
 | .i p, .i q,h=>by simp only[Pn.dec]at h;rw[pA (p:=p) (q:=q) (by omega)]
 | .o p, .i q,h=>by simp only[Pn.dec]at h;omega
 | .i p, .o q,h=>by simp only[Pn.dec]at h;omega
theorem iJ {β:Type}: ∀ {l:List (Nat×β)} {t:Nat},(∀p,p∈l→p.1≠t)→find l t=none
 | [],t,_=>rfl
 |(k,v)::r,t,h=>by
  rw[aj,if_neg (h (k,v) (by simp))]
  exact iJ fun p hp=>h p (by simp[hp])
theorem toL_keys: ∀ (tr:Tr) (f:Pn→Pn) (p:Nat×V),p∈tr.toL f→ ∃q,p.1=(f q).dec
 | .nil,f,p,h=>by simp[Tr.toL]at h
 | .node v l r,f,p,h=>by
   simp only[Tr.toL,List.mem_append]at h
   rcases h with(h|h)|h
   · cases v with
     |none=>simp at h
     |some x=>simp only[List.mem_singleton]at h;subst h;exact⟨.e,rfl⟩
   · obtain⟨q,hq⟩:=toL_keys l _ p h;exact⟨.o q,hq⟩
   · obtain⟨q,hq⟩:=toL_keys r _ p h;exact⟨.i q,hq⟩
theorem uu: ∀ (tr:Tr) (f:Pn→Pn) (hf: ∀p q,f p=f q→p=q) (q:Pn),find (tr.toL f) (f q).dec=tr.get q
 | .nil,f,hf,q=>by rw[Tr.sH];rfl
 | .node v l r,f,hf,q=>by
   have hl:=uu l (fun p=>f (.o p)) (fun p q h=>by have:=hf _ _ h;simpa using this)
   have hr:=uu r (fun p=>f (.i p)) (fun p q h=>by have:=hf _ _ h;simpa using this)
   have nl: ∀q,(∀q',Pn.o q'≠q)→find (l.toL fun p=>f (.o p)) (f q).dec=none:=by
    intro q hq
    refine iJ fun p hp he=>?_
    obtain⟨q',CK⟩:=toL_keys l _ p hp
    rw[CK]at he
    exact hq q' (hf _ _ (pA he))
   have nr: ∀q,(∀q',Pn.i q'≠q)→find (r.toL fun p=>f (.i p)) (f q).dec=none:=by
    intro q hq
    refine iJ fun p hp he=>?_
    obtain⟨q',CK⟩:=toL_keys r _ p hp
    rw[CK]at he
    exact hq q' (hf _ _ (pA he))
   have nv: ∀q,q≠ .e→find (match v with|some x=>[((f .e).dec,x)]|none=>[]) (f q).dec=none:=by
    intro q hq
    refine iJ fun p hp he=>?_
    cases v with
    |none=>simp at hp
    |some x=>
     simp only[List.mem_singleton]at hp
     subst hp
     exact hq (hf _ _ (pA he)).symm
   simp only[Tr.toL,cA]
   cases q with
   |e=>
    rw[nl .e (by simp),nr .e (by simp)]
    cases v with
    |none=>simp[find,Tr.get]
    |some x=>simp[find,Tr.get]
   |o q=>
    rw[nv (.o q) (by simp),nr (.o q) (by simp),hl q]
    simp[Tr.get]
   |i q=>
    rw[nv (.i q) (by simp),nl (.i q) (by simp),hr q]
    simp[Tr.get]
theorem Cp (tr:Tr): ∃L,dU tr L:=by
 refine⟨tr.toL id,fun t=>?_⟩
 have h1:t=(id (key t)).dec:=by
  simp only[id]
  unfold key
  exact(oW t t (Nat.le_refl _)).symm
 have h2:=uu tr id (fun _ _ h=>h) (key t)
 rw[←h1]at h2
 exact h2
variable {call:rD Bool} {cY:rE Bool}
theorem tf {o:Oper} {size:Nat} {x:cL} {lo hi:Option cL} (h:aD P o=some (.slice size x lo hi)):
 ∃t x' lo' hi' e,o.op= .slice t x' lo' hi' none∧P.underlying t=some (.slice e)∧cD P e=some size∧x=cT x'∧lo=lo'.map cT∧hi=hi'.map cT:=by
 obtain⟨dst,op,ty,pos,after,guard⟩:=o
 cases op
 case slice t x' lo' hi' mx=>
  cases mx with
  |some m=>simp[aD]at h
  |none=>
   simp only[aD]at h
   split at h
   · rename_i e hu
     simp only[Option.map_eq_some_iff,Ro.slice.injEq]at h
     obtain⟨s,hs,rfl,rfl,rfl,rfl⟩:=h
     exact⟨t,x',lo',hi',e,rfl,hu,hs,rfl,rfl,rfl⟩
   · simp at h
 all_goals
  exfalso
  simp only[aD]at h
  repeat' split at h
  all_goals first|(simp at h;done)|simp_all
theorem vB {o:Oper} {size:Nat} {x:cL} {lo hi:Option cL} (h:aV P o=some (.slice size x lo hi)):
 ∃t x' lo' hi' e,o.op= .slice t x' lo' hi' none∧P.underlying t=some (.slice e)∧cD P e=some size∧x=cT x'∧lo=lo'.map cT∧hi=hi'.map cT:=by
 unfold aV at h
 split at h
 · rename_i r hr
   replace hr:=di hr
   simp only[Option.some.injEq]at h
   subst h
   exact tf hr
 · simp only[Option.some.injEq]at h
   rcases jX o with⟨t,eK,gx,ho,e⟩|e
   · rw[e]at h;simp at h
   · rw[e]at h;simp at h
theorem AF {get:Operand→V} {o:Oper} {p:FuncId×List W} {hp:HS} {nid:Nat} {r:V×HS} (hc:bF get o=some p) (he:ak P get hp nid o=some r):False:=by
 obtain⟨dst,op,ty,pos,after,guard⟩:=o
 unfold bF at hc
 simp only at hc
 split at hc
 · simp[ak]at he
 · simp at hc
theorem G7 {tm:Tr} {L:TS} {n:Nat} {hp:HS} (hL:dU tm L) (hr:Rel M A ρ F ⟨n,L,hp⟩ a w) {lo:Option Operand} (h:fc ((lo.map cT).map (gT tm)) 0=some 0):lo.map a.eval=none∨ ∃k,lo.map a.eval=some (.int k 0):=by
 cases lo with
 |none=>exact .inl rfl
 |some x=>
  right
  simp only[Option.map_some,fc]at h
  split at h
  · rename_i k m hm
    split at h
    · rename_i h0
      simp only[Option.some.injEq]at h
      have:m=0:=by omega
      subst this
      exact⟨k,by rw[Option.map_some,V.gG hm (RV.at hL hr x)]⟩
    · simp at h
  · simp at h
theorem yg {n:Nat} {o:Oper} {size:Nat} {x:cL} {lo hi:Option cL} {tm:Tr} {hp:HS} {ctr:Nat} (hx:aV P o=some (.slice size x lo hi)) (hy:gT tm x= .w (.one (.t (.val (.slice none 0 0)))))
 (hlo:fc (lo.map (gT tm)) 0=some 0) (hhi:fc (hi.map (gT tm)) 0=some 0):B4 P n o tm hp ctr (.w (.one (.t (.val (.slice none 0 0))))) hp:=by
 obtain⟨t,x',lo',hi',e,ho,hu,hs,rfl,rfl,rfl⟩:=vB hx
 intro M A ρ a w L hL hr
 have vx:=RV.at hL hr x'
 rw[hy]at vx
 have hv:a.eval x'= .slice none 0 0:=V.bg (v:= .slice none 0 0) rfl vx
 have hrun:(execOp a.eval o).run P w= .ok (.value (.slice none 0 0)) w:=by
  rw[←q8,ho]
  rcases G7 hL hr hlo with h1|⟨k1,h1⟩<;>rcases G7 hL hr hhi with h2|⟨k2,h2⟩<;>
   simp[execOp,Instr.sliceAt,Instr.slice,hv,h1,h2,run_underlying hu,Instr.sliceBounds,Instr.sliceBound,asIntOf,run_sizeOf hs]
 exact⟨_,w,A,ρ, .inl hrun,hr.sub bX,RV.ofValue w A ρ (.slice none 0 0),cz.refl _ _,cC.refl _,bq.refl _ _⟩
theorem uL {n:Nat} {ops:Array Oper} {o:Oper} {i:Nat} {f:FuncId} {g:Option (Nat×Bool)} {tm:Tr} {hp hp':HS} {ctr bz:Nat} {us:List W} {v:V}
 (hi:ops[i]? =some o) (jN:enters P f=true) (hd:eI n o.dst=true) (hgd:gm ops o g) (hg:g=none∨ ∃d want b,g=some (d,want)∧tm.get (key d)=some (bV b)∧(b==want)=true)
 (vS: ∀L,dU tm L→bF (St.get ⟨n,L,hp⟩) o=some (f,us)) (hc:fu P f us hp ctr v hp' bz):uX P n ops i tm hp ctr (s9 tm o.dst v) hp' bz:=by
 intro M A ρ a w L Q K' hL hr hk
 have hgt:=guard_true hL hgd hg
 have FQ:=cJ hr hgt
 obtain⟨xs,hxs,hxr⟩:=kT (P:=P) hr (vS L hL) jN
 unfold wpOp
 simp only[hi,FQ,if_true]
 refine .inl ?_
 simp only[Oper.wp,hxs,Oper.upon]
 refine(hc M A ρ a w n L xs hr hxr).mono ?_
 rintro e w' ⟨x,A',ρ',rfl,r1,r2,r3,r4,r5⟩
 refine hk _ _ ⟨_,A',ρ',hL.put o.dst v,?_,r3,r4,r5⟩
 have:=r1.put (dst:=o.dst) r2 (jb hd)
 rw[eB]at this
 exact this
theorem CB {n:Nat} {ops:Array Oper} {o:Oper} {i:Nat} {g:Option (Nat×Bool)} {tm:Tr} {hp hp':HS} {ctr:Nat} {v:V}
 (hi:ops[i]? =some o) (hd:eI n o.dst=true) (hgd:gm ops o g) (hg:g=none∨ ∃d want b,g=some (d,want)∧tm.get (key d)=some (bV b)∧(b==want)=true)
 (h:B4 P n o tm hp ctr v hp'):uX P n ops i tm hp ctr (s9 tm o.dst v) hp' (ctr+4):=by
 intro M A ρ a w L Q K' hL hr hk
 have hgt:=guard_true hL hgd hg
 have FQ:=cJ hr hgt
 obtain⟨x,w',A',ρ',hrun,r1,r2,r3,r4,r5⟩:=h M A ρ a w L hL hr
 unfold wpOp
 simp only[hi,FQ,if_true]
 refine .inl ?_
 have fin: ∀ {y:Value},RV w' A' ρ' v y→Rel M A' ρ' (aZ (ctr+4)) ⟨n,cN L o.dst v,hp'⟩ (a.put o.dst y) w':=by
  intro y hy
  have:=r1.put (dst:=o.dst) hy (jb hd)
  rw[eB]at this
  exact this
 rcases hrun with hrun|⟨hrun,rfl⟩
 · simp only[Oper.wp,hrun,Oper.upon]
   exact hk _ _ ⟨_,A',ρ',hL.put o.dst v,fin r2,r3,r4,r5⟩
 · simp only[Oper.wp,hrun,Oper.upon]
   exact hk _ _ ⟨_,A',ρ',hL.put o.dst v,fin r2,r3,r4,r5⟩
theorem zm {tm:Tr} {L L0:TS} (hL:dU tm L) (tZ:dU tm L0) (l:List cL):Ck L l=Ck L0 l:=by
 have:(fun x=>cL.get L x)=fun x=>cL.get L0 x:=by rw[←kf hL, ←kf tZ]
 induction l with
 |nil=>rfl
 |cons y r ih=>simp only[Ck,ih,congrFun this y]
theorem rm {n:Nat} {o:Oper} {f:FuncId} {args:List cL} {tm:Tr} {L0:TS} {hp:HS} {us:List W} (hx:aV P o=some (.call f args)) (tZ:dU tm L0) (eU:Ck L0 args=some us):
 enters P f=true∧ ∀L,dU tm L→bF (St.get ⟨n,L,hp⟩) o=some (f,us):=by
 obtain⟨eK,gx,ho,rfl,jN⟩:=kD hx
 refine⟨jN,fun L hL=>?_⟩
 have Sj:nM (St.get ⟨n,L,hp⟩) eK.toList=some us:=by rw[←nK, ←eU];exact zm hL tZ _
 unfold bF
 rw[ho]
 simp only[St.get,V.ofValue,Sj]
 rfl
theorem BS {v:V} {us:List W} {k:FuncId→List W→Bool} (h:GJ false v us k=true): ∃f eO,k f eO=true∧
 ∀ {get:Operand→V} {o:Oper} {t:Nat} {args:Array Operand} {gx:Array TypeId},o.op= .call ⟨.value (.tmp t),args,gx⟩→get (.tmp t)=v→nM get args.toList=some us→bF get o=some (f,eO):=by
 unfold GJ at h
 split at h
 · exact⟨_,_,h,fun ho hv eU=>by unfold bF;rw[ho];simp only[hv,eU]⟩
 · exact⟨_,_,h,fun ho hv eU=>by unfold bF;rw[ho];simp only[hv,eU,lN,Option.map_some]⟩
 · exact⟨_,_,h,fun ho hv eU=>by unfold bF;rw[ho];simp only[hv,eU,lN,Option.map_some]⟩
 · obtain⟨hc,h⟩:=bn h
   exact⟨_,_,h,fun ho hv eU=>by unfold bF;rw[ho];simp only[hv,eU,hc,if_true]⟩
 · simp at h
theorem pD {n:Nat} {o:Oper} {x:cL} {args:List cL} {tm:Tr} {L0:TS} {hp:HS} {us:List W} {k:FuncId→List W→Bool} (hx:aV P o=some (.fp x args)) (tZ:dU tm L0) (eU:Ck L0 args=some us)
 (h:GJ false (gT tm x) us k=true): ∃f eO,k f eO=true∧ ∀L,dU tm L→bF (St.get ⟨n,L,hp⟩) o=some (f,eO):=by
 obtain⟨t,eK,gx,ho,rfl,rfl⟩:=jH hx
 obtain⟨f,eO,h1,h2⟩:=BS h
 refine⟨f,eO,h1,fun L hL=>h2 ho ?_ ?_⟩
 · rw[kf hL]
   exact(bh ⟨n,L,hp⟩ (.tmp t)).symm
 · rw[←nK, ←eU];exact zm hL tZ _
theorem xz (gv:my P call) {n:Nat} {ops:Array Oper} {o:Oper} {i:Nat} {x:Ro} {g:Option (Nat×Bool)} {tm:Tr} {hp:HS} {ctr:Nat} {K:Tr→HS→Nat→Bool}
 (hi:ops[i]? =some o) (hx:aV P o=some x) (hd:eI n o.dst=true) (hgd:gm ops o g) (hg:g=none∨ ∃d want b,g=some (d,want)∧tm.get (key d)=some (bV b)∧(b==want)=true)
 (h:EGo false call P ⟨o.dst,g,x⟩ tm hp ctr K=true): ∃aW hp' bz,uX P n ops i tm hp ctr aW hp' bz∧K aW hp' bz=true:=by
 obtain⟨L0,tZ⟩:=Cp tm
 have plain: ∀ {hp:HS},ER false x (gT tm) hp ctr (fun v hp'=>jI tm o.dst v fun tm=>mH (ctr+4) fun c=>K tm hp' c)=true→ ∃aW hp' bz,uX P n ops i tm hp ctr aW hp' bz∧K aW hp' bz=true:=by
  intro hp h
  obtain⟨v,hp',hs,hK⟩:=Dp hx hd hgd hg ⟨L0,tZ⟩ h
  rw[gb,df]at hK
  exact⟨_,_,_,hs.run hi,hK⟩
 unfold EGo at h
 split at h
 · rename_i f args j7
   simp only at j7
   subst j7
   rw[kf tZ]at h
   obtain⟨us,eU,h⟩:=sP h
   obtain⟨v,hp',bz,hc,h⟩:=gv _ _ _ _ _ h
   rw[cl,gb]at h
   obtain⟨jN,vS⟩:=rm (n:=n) (hp:=hp) hx tZ eU
   exact⟨_,_,_,uL hi jN hd hgd hg vS hc,h⟩
 · rename_i y args j7
   simp only at j7
   subst j7
   have h':=h
   rw[kf tZ]at h'
   obtain⟨us,eU,h'⟩:=sP h'
   rw[←kf tZ]at h'
   obtain⟨f,eO,h1,vS⟩:=pD (n:=n) (hp:=hp) hx tZ eU h'
   obtain⟨jN,h1⟩:=bn h1
   obtain⟨v,hp',bz,hc,h1⟩:=gv _ _ _ _ _ h1
   rw[cl,gb]at h1
   exact⟨_,_,_,uL hi jN hd hgd hg vS hc,h1⟩
 · rename_i op ty j7
   simp only at j7
   subst j7
   obtain⟨rfl,rfl⟩:=dK hx
   obtain⟨v,hp',h1,h2⟩:=Hs (n:=n) h
   rw[gb,df]at h2
   exact⟨_,_,_,CB hi hd hgd hg h1,h2⟩
 · rename_i size bytes s y j7
   simp only at j7
   subst j7
   split at h
   · rename_i id sz len hs
     split at h
     · rename_i cV xs hf
       rw[bP]at h
       obtain⟨aW,hp',bz,h1,h2⟩:=plain h
       refine⟨aW,hp',bz,?_,h2⟩
       intro M A ρ a w L Q K' hL hr hk
       exact h1 M A ρ a w L Q K' hL (Rel.Q9 (st:=⟨n,L,hp⟩) hr hf len) hk
     · simp at h
   · exact plain h
 · rename_i size y lo hi' j7
   simp only at j7
   subst j7
   split at h
   · rename_i hy
     split at h
     · rename_i hlo hhi
       rw[gb,df]at h
       refine⟨_,_,_,CB hi hd hgd hg ?_,h⟩
       exact yg hx hy hlo hhi
     · simp at h
   · exact plain h
 · exact plain h
theorem xy (gv:my P call) {n:Nat} {ops:Array Oper} {o:Oper} {i:Nat} {x:Ro} {g:Option (Nat×Bool)} {tm:Tr} {hp:HS} {ctr:Nat} {K:Tr→HS→Nat→Bool}
 (hi:ops[i]? =some o) (hx:aV P o=some x) (hd:eI n o.dst=true) (hgd:gm ops o g)
 (h:EOp false call P ⟨o.dst,g,x⟩ tm hp ctr K=true): ∃aW hp' bz,uX P n ops i tm hp ctr aW hp' bz∧K aW hp' bz=true:=by
 unfold EOp at h
 have skip:(∃d want,g=some (d,want)∧((∃b,tm.get (key d)=some (bV b)∧(b==want)=false)∨tm.get (key d)=some (.dn [])))→(jI tm o.dst (.dn []) fun tm=>K tm hp ctr)=true→
  ∃aW hp' bz,uX P n ops i tm hp ctr aW hp' bz∧K aW hp' bz=true:=by
  intro hg h
  rw[gb]at h
  have hs:pI P n ops o tm hp ctr (.dn []) hp:=sY hd hgd hg
  refine⟨_,_,_,?_,h⟩
  intro M A ρ a w L Q K' hL hr hk
  have hst:=hs L hL
  unfold wpOp
  simp only[hi]
  obtain⟨d,want,rfl,hgg⟩:=hg
  have hgf:aP ops o L=some false:=by
   rcases hgd with⟨_,h0⟩|⟨j,want',d',h1,h2,h3⟩
   · simp at h0
   · simp only[Option.some.injEq,Prod.mk.injEq]at h3
     obtain⟨rfl,rfl⟩:=h3
     rcases hgg with⟨b,hb,hne⟩|hb
     · rw[←hL d]at hb
       simp only[aP,h1,h2,hb,hne]
     · rw[←hL d]at hb
       simp only[aP,h1,h2,hb]
  have:=cJ hr hgf
  simp only[this,Bool.false_eq_true,if_false]
  refine hk _ _ ⟨_,A,ρ,hL.put o.dst (.dn []),?_,cz.refl _ _,cC.refl _,bq.refl _ _⟩
  have:=hr.put (dst:=o.dst) pW (jb hd)
  rw[eB]at this
  exact this
 split at h
 · rename_i S6
   simp only at S6
   exact xz gv hi hx hd hgd (.inl S6) h
 · rename_i d want IP
   simp only at IP
   split at h
   · rename_i b hb
     cases IU:(b==want)with
     |true=>
      rw[IU]at h
      exact xz gv hi hx hd hgd (.inr ⟨d,want,b,IP,hb,IU⟩) h
     |false=>
      rw[IU]at h
      exact skip ⟨d,want,IP, .inl ⟨b,hb,IU⟩⟩ h
   · rename_i hb
     exact skip ⟨d,want,IP, .inr hb⟩ h
   · simp at h
theorem iY {ops:Array Oper} {o:Oper} {x:Ro} {l' rs:List fe}
 (dV:(match o.guard with
   |none=>some (⟨o.dst,none,x⟩::l')
   |some (j,want)=>
    match(ops[j]?).bind (·.dst)with
    |some d=>some (⟨o.dst,some (d,want),x⟩::l')
    |none=>none)=some rs): ∃g,rs=⟨o.dst,g,x⟩::l'∧gm ops o g:=by
 split at dV
 · rename_i hg
   simp only[Option.some.injEq]at dV
   exact⟨_,dV.symm, .inl ⟨hg,rfl⟩⟩
 · rename_i j want hg
   split at dV
   · rename_i d hd
     simp only[Option.some.injEq]at dV
     exact⟨_,dV.symm, .inr ⟨j,want,d,hg,hd,rfl⟩⟩
   · simp at dV
theorem ve (gv:my P call) {n:Nat} {ops:Array Oper}: ∀ {l:List Oper} {rs:List fe} {k:Nat} {tm:Tr} {hp:HS} {ctr:Nat} {K:Tr→HS→Nat→Bool},
 (∀j,ops[k+j]? =l[j]?)→aM P ops l=some rs→(rs.all fun o=>eI n o.dst)=true→JO false call P rs tm hp ctr K=true→
 ∃aW hp' bz,K aW hp' bz=true∧ ∀ (M A:Nat→Prop) (ρ:Env) (a:Act) (w:World) (L:TS) (Q:Exit→Act→World→Prop),dU tm L→Rel M A ρ (aZ ctr) ⟨n,L,hp⟩ a w→
  (∀a' w',At M A ρ w n aW hp' bz a' w'→Q .normal a' w')→wpOps P ops Q (List.range' k l.length) a w
 | [],rs,k,tm,hp,ctr,K,hl,dV,hd,h=>by
   simp only[aM,Option.some.injEq]at dV
   subst dV
   refine⟨tm,hp,ctr,h,fun M A ρ a w L Q hL hr hq=>?_⟩
   exact hq _ _ (At.here hL hr)
 |o::l,rs,k,tm,hp,ctr,K,hl,dV,hd,h=>by
  simp only[aM]at dV
  split at dV
  · rename_i x l' hx hl'
    have hi:ops[k]? =some o:=by simpa using hl 0
    obtain⟨g,rfl,hgd⟩:=iY dV
    simp only[List.all_cons,Bool.and_eq_true]at hd
    simp only[JO]at h
    obtain⟨kr,iw,c1,h1,h2⟩:=xy (n:=n) gv hi hx hd.1 hgd h
    obtain⟨tm2,hp2,c2,h3,h4⟩:=ve gv (k:=k+1) (fun j=>by have:=hl (j+1);rw[show k+1+j=k+(j+1) by omega,this];simp) hl' hd.2 h2
    refine⟨tm2,hp2,c2,h3,fun M A ρ a w L Q hL hr hq=>?_⟩
    rw[List.length_cons,List.range'_succ,wpOps_cons]
    refine h1 M A ρ a w L Q _ hL hr fun a' w' rU=>?_
    obtain⟨L1,A1,ρ1,q1,q2,q3,q4,q5⟩:=rU
    exact h4 M A1 ρ1 a' w' L1 Q q1 q2 fun a2 w2 OA=>hq _ _ (OA.trans q3 q4 q5)
  · simp at dV
theorem GF {tm:Tr} {L:TS} (hL:dU tm L) (o:fe) (ctr:Nat):CW o tm ctr=dg o L ctr:=by
 unfold CW dg
 rw[kf hL]
theorem vf (ix:jF P cY) {n:Nat} {ops:Array Oper} {o:Oper} {x:Ro} {g:Option (Nat×Bool)} {tm:Tr} {hp:HS} {ctr:Nat} {K:Tr→HS→Nat→Bool}
 (hx:aV P o=some x) (hd:eI n o.dst=true) (hgd:gm ops o g) (hg:g=none∨ ∃d want b,g=some (d,want)∧tm.get (key d)=some (bV b)∧(b==want)=true)
 (h:JP false cY P ⟨o.dst,g,x⟩ tm hp ctr K=true): ∃v hp',pI P n ops o tm hp ctr v hp'∧K (s9 tm o.dst v) hp' (ctr+4)=true:=by
 obtain⟨L0,tZ⟩:=Cp tm
 unfold JP at h
 split at h
 · rename_i f args j7
   simp only at j7
   subst j7
   rw[kf tZ]at h
   obtain⟨us,eU,h⟩:=sP h
   obtain⟨v,hp',hc,h⟩:=ix _ _ _ _ _ h
   rw[cl,gb,df]at h
   obtain⟨jN,vS⟩:=rm (n:=n) (hp:=hp) hx tZ eU
   refine⟨v,hp',fun L hL=>⟨hd,?_⟩,h⟩
   rw[guard_true hL hgd hg]
   simp only[vS L hL]
   exact⟨jN,hc⟩
 · rename_i y args j7
   simp only at j7
   subst j7
   have h':=h
   rw[kf tZ]at h'
   obtain⟨us,eU,h'⟩:=sP h'
   rw[←kf tZ]at h'
   obtain⟨f,eO,h1,vS⟩:=pD (n:=n) (hp:=hp) hx tZ eU h'
   obtain⟨jN,h1⟩:=bn h1
   obtain⟨v,hp',hc,h1⟩:=ix _ _ _ _ _ h1
   rw[cl,gb,df]at h1
   refine⟨v,hp',fun L hL=>⟨hd,?_⟩,h1⟩
   rw[guard_true hL hgd hg]
   simp only[vS L hL]
   exact⟨jN,hc⟩
 · rename_i op ty j7
   simp only at j7
   subst j7
   obtain⟨rfl,rfl⟩:=dK hx
   split at h
   · rename_i v hp' he
     rw[cl,gb,df]at h
     refine⟨v,hp',fun L hL=>⟨hd,?_⟩,h⟩
     rw[guard_true hL hgd hg]
     rw[q9,get_eq hL n hp]at he
     have hno:bF (St.get ⟨n,L,hp⟩) o=none:=by
      cases hc:bF (St.get ⟨n,L,hp⟩) o with
      |none=>rfl
      |some p=>
       exfalso
       exact AF hc he
     simp only[hno]
     exact he
   · simp at h
 · obtain⟨v,hp',hs,hK⟩:=Dp (n:=n) hx hd hgd hg ⟨L0,tZ⟩ h
   rw[gb,df]at hK
   exact⟨_,_,hs,hK⟩
theorem Ce (ix:jF P cY) {n:Nat} {ops:Array Oper} {o:Oper} {x:Ro} {g:Option (Nat×Bool)} {tm:Tr} {hp:HS} {ctr:Nat} {K:Tr→HS→Nat→Bool}
 (hx:aV P o=some x) (hd:eI n o.dst=true) (hgd:gm ops o g)
 (h:PS false cY P ⟨o.dst,g,x⟩ tm hp ctr K=true): ∃v hp',pI P n ops o tm hp ctr v hp'∧K (s9 tm o.dst v) hp' (ctr+4)=true:=by
 unfold PS at h
 have skip:(∃d want,g=some (d,want)∧((∃b,tm.get (key d)=some (bV b)∧(b==want)=false)∨tm.get (key d)=some (.dn [])))→(jI tm o.dst (.dn []) fun tm=>mH (ctr+4) fun c=>K tm hp c)=true→
  ∃v hp',pI P n ops o tm hp ctr v hp'∧K (s9 tm o.dst v) hp' (ctr+4)=true:=by
  intro hg h
  rw[gb,df]at h
  exact⟨_,_,sY hd hgd hg,h⟩
 split at h
 · rename_i S6
   simp only at S6
   exact vf ix hx hd hgd (.inl S6) h
 · rename_i d want IP
   simp only at IP
   split at h
   · rename_i b hb
     cases IU:(b==want)with
     |true=>
      rw[IU]at h
      exact vf ix hx hd hgd (.inr ⟨d,want,b,IP,hb,IU⟩) h
     |false=>
      rw[IU]at h
      exact skip ⟨d,want,IP, .inl ⟨b,hb,IU⟩⟩ h
   · rename_i hb
     exact skip ⟨d,want,IP, .inr hb⟩ h
   · simp at h
theorem rC (ix:jF P cY) {ops:Array Oper} {n base:Nat} {K:List gn→Tr→HS→Nat→Bool}: ∀ {l:List Oper} {rs:List fe} {k:Nat} {Ea:List gn} {tm:Tr} {hp:HS},aM P ops l=some rs→
 (rs.all fun o=>eI n o.dst)=true→Ea.length=k→AV false cY P rs Ea tm hp (base+4 * k) K=true→
 ∃ (E0:Nat→Tr) (hpT:Nat→HS) (v:Nat→V) (fs:List gn),K fs (E0 (k+l.length)) (hpT (k+l.length)) (base+4 * (k+l.length))=true∧(∀i,i < k→fs[i]? =Ea[i]?)∧E0 k=tm∧hpT k=hp∧
  ∀j o,l[j]? =some o→pI P n ops o (E0 (k+j)) (hpT (k+j)) (base+4 * (k+j)) (v (k+j)) (hpT (k+j+1))∧E0 (k+j+1)=s9 (E0 (k+j)) o.dst (v (k+j))∧
   ∃f,fs[k+j]? =some f∧f.dst=o.dst∧ ∀L,dU (E0 (k+j)) L→(∀t,t∈names ops o→t∈f.nm)∧(∀q,q∈iD (St.get ⟨n,L,hpT (k+j)⟩) o→q∈f.rd)∧(∀q,q∈sA (St.get ⟨n,L,hpT (k+j)⟩) (base+4 * (k+j)) o→q∈f.wr)
 | [],rs,k,Ea,tm,hp,dV,hd,hk,h=>by
   simp only[aM,Option.some.injEq]at dV
   subst dV
   exact⟨fun _=>tm,fun _=>hp,fun _=> .undef,Ea,by simpa[AV]using h,fun _ _=>rfl,rfl,rfl,fun j o hj=>by simp at hj⟩
 |o::l,rs,k,Ea,tm,hp,dV,hd,hk,h=>by
  simp only[aM]at dV
  split at dV
  · rename_i x l' hx hl'
    obtain⟨g,rfl,hgd⟩:=iY dV
    simp only[List.all_cons,Bool.and_eq_true]at hd
    simp only[AV]at h
    obtain⟨v0,hp',hst,hK⟩:=Ce (n:=n) (ops:=ops) ix hx hd.1 hgd h
    rw[show base+4 * k+4=base+4 * (k+1) by omega]at hK
    obtain⟨E0,hpT,v,fs,q1,q2,q3,q4,q5⟩:=rC ix (k:=k+1) hl' hd.2 (by simp[hk]) hK
    have Am:fs[k]? =some (CW ⟨o.dst,g,x⟩ tm (base+4 * k)):=by
     rw[q2 k (by omega),List.getElem?_append_right (by omega),hk];simp
    refine⟨fun i=>if i=k then tm else E0 i,fun i=>if i=k then hp else hpT i,fun i=>if i=k then v0 else v i,fs,?_,?_,?_,?_,?_⟩
    · have e1:k+(o::l).length=k+1+l.length:=by simp;omega
      have e2:¬k+1+l.length=k:=by omega
      simp only[e1,e2,if_false]
      exact q1
    · intro i hi'
      rw[q2 i (by omega),List.getElem?_append_left (by omega)]
    · simp
    · simp
    · intro j oj hj
      cases j with
      |zero=>
       simp only[List.getElem?_cons_zero,Option.some.injEq]at hj
       subst hj
       have e2:¬k+1=k:=by omega
       simp only[Nat.add_zero,if_true,e2,if_false,q4,q3]
       refine⟨hst,trivial,_,Am,rfl,fun L hL=>?_⟩
       have Gd:=wZ (ops:=ops) (n:=n) (ctr:=base+4 * k) (tm:=L) (hp:=hp) hx hgd
       rw[GF hL]
       exact Gd.2
      |succ j=>
       have:=q5 j oj (by simpa using hj)
       have e1:¬k+(j+1)=k:=by omega
       have e2:¬k+(j+1)+1=k:=by omega
       simp only[e1,e2,if_false]
       rw[show k+(j+1)=k+1+j by omega]
       exact this
  · simp at dV
theorem iT {all:Array Oper}: ∀ {l:List Oper} {rs:List fe},aM P all l=some rs→rs.length=l.length
 | [],rs,h=>by simp only[aM,Option.some.injEq]at h;subst h;rfl
 |o::l,rs,h=>by
  simp only[aM]at h
  split at h
  · rename_i x l' hx hl'
    obtain⟨g,rfl,_⟩:=iY h
    simp[iT hl']
  · simp at h
theorem mZ (bits:List Nat) (N:Nat): ∀ (j:Nat) (rs:List fe),rs=(bU bits N j rs).1++(bU bits N j rs).2∧
 (∀o r,(bU bits N j rs).2=o::r→zZ bits N (j+(bU bits N j rs).1.length)=true)
 |j,[]=>⟨rfl,fun o r h=>by simp[bU]at h⟩
 |j,x::q=>by
  obtain⟨h1,h2⟩:=mZ bits N (j+1) q
  cases hp:zZ bits N j with
  |true=>
   have e:bU bits N j (x::q)=([],x::q):=by simp only[bU,hp,fI]
   rw[e]
   exact⟨rfl,fun o r _=>by simpa using hp⟩
  |false=>
   have e:bU bits N j (x::q)=(x::(bU bits N (j+1) q).1,(bU bits N (j+1) q).2):=by simp only[bU,hp,fI]
   rw[e]
   refine⟨by simp only[List.cons_append, ←h1],fun o r h=>?_⟩
   have:=h2 o r h
   rw[show j+(x::(bU bits N (j+1) q).1).length=j+1+(bU bits N (j+1) q).1.length by simp;omega]
   exact this
theorem jq {all:Array Oper}: ∀ {a b:List fe} {l:List Oper},aM P all l=some (a++b)→ ∃l1 l2,l=l1++l2∧aM P all l1=some a∧aM P all l2=some b∧l1.length=a.length
 | [],b,l,h=>⟨[],l,rfl,rfl,h,rfl⟩
 |x::a,b,[],h=>by simp[aM]at h
 |x::a,b,o::l,h=>by
  simp only[aM]at h
  split at h
  · rename_i y l' hy hl'
    have Ti: ∃g,(⟨o.dst,g,y⟩:fe)=x∧l'=a++b∧ ∀l'',(match o.guard with
     |none=>some ((⟨o.dst,none,y⟩:fe)::l'')
     |some (j,want)=>match(all[j]?).bind (·.dst)with
      |some d=>some ((⟨o.dst,some (d,want),y⟩:fe)::l'')
      |none=>none)=some ((⟨o.dst,g,y⟩:fe)::l''):=by
     split at h
     · rename_i hg
       simp only[List.cons_append,Option.some.injEq,List.cons.injEq]at h
       exact⟨none,h.1,h.2,fun l''=>by simp only[hg]⟩
     · rename_i j want hg
       split at h
       · rename_i d hd
         simp only[List.cons_append,Option.some.injEq,List.cons.injEq]at h
         exact⟨some (d,want),h.1,h.2,fun l''=>by simp only[hg,hd]⟩
       · simp at h
    obtain⟨g,rfl,rfl,hg⟩:=Ti
    obtain⟨l1,l2,rfl,h1,h2,h3⟩:=jq hl'
    exact⟨o::l1,l2,rfl,by simp only[aM,hy,h1];exact hg a,h2,by simp[h3]⟩
  · simp at h
theorem pF {p:Nat→Bool} {n:Nat} (h:(List.range n).all p=true) {i:Nat} (hi:i < n):p i=true:=List.all_eq_true.1 h i (List.mem_range.2 hi)
theorem BB {bits:List Nat} {N j:Nat} (h:zZ bits N j=true):(∀i,i < j→(bits.getD j 0).testBit i=true)∧ ∀k,j < k→k < N→(bits.getD k 0).testBit j=true:=by
 simp only[zZ,Bool.and_eq_true]at h
 refine⟨fun i hi=>pF h.1 hi,fun k h1 h2=>?_⟩
 have:=pF h.2 (i:=k - (j+1)) (by omega)
 rw[show j+1+(k - (j+1))=k by omega]at this
 exact this
theorem zd (gv:my P call) (ix:jF P cY) {n:Nat} {ops:Array Oper} (hE: ∀i o,ops[i]? =some o→ ∀e,e∈aX o→e < i): ∀ {f lo:Nat} {l:List Oper} {rs:List fe} {tm:Tr} {hp:HS} {ctr:Nat} {K:Tr→HS→Nat→Bool},
 (∀j,ops[lo+j]? =l[j]?)→lo+l.length=ops.size→aM P ops l=some rs→(rs.all fun o=>eI n o.dst)=true→vg false call cY P (jO (ops.toList.map aX) []) ops.size f lo rs tm hp ctr K=true→
 ∃aW hp' bz,K aW hp' bz=true∧ ∀ (M A:Nat→Prop) (ρ:Env) (a:Act) (w:World) (L:TS) (Q:Exit→Act→World→Prop),dU tm L→Rel M A ρ (aZ ctr) ⟨n,L,hp⟩ a w→
  (∀a' w',At M A ρ w n aW hp' bz a' w'→Q .normal a' w')→ ∀ (fuel:Nat) (listed:Array Bool),listed.size=ops.size→(∀i,i < ops.size→listed.getD i false=decide (i < lo))→ops.size - lo≤fuel→wpAny P .any ops Q fuel listed a w:=by
 intro f
 induction f with
 |zero=>intro lo l rs tm hp ctr K _ _ _ _ h;simp[vg]at h
 |succ f ih=>
  intro lo l rs tm hp ctr K hl hlen dV hd h
  simp only[vg]at h
  obtain⟨hsp,FZ⟩:=mZ (jO (ops.toList.map aX) []) ops.size lo rs
  revert h
  generalize (bU (jO (ops.toList.map aX) []) ops.size lo rs).1=da at hsp FZ
  generalize (bU (jO (ops.toList.map aX) []) ops.size lo rs).2=rest at hsp FZ
  intro h
  subst hsp
  obtain⟨l1,l2,rfl,qT,rR,yz⟩:=jq dV
  simp only[List.all_append,Bool.and_eq_true]at hd
  obtain⟨E0,hpT,v,fs,q1,_,q3,q4,q5⟩:=rC (P:=P) ix (ops:=ops) (n:=n) (base:=ctr) (k:=0) (l:=l1) qT hd.1 rfl (by simpa using h)
  obtain⟨qc,q1⟩:=bn q1
  simp only[Bool.and_eq_true]at qc
  obtain⟨qs,ql⟩:=qc
  simp only[Nat.zero_add]at q1 q5
  have hlm:lo+l1.length≤ops.size:=by rw[←hlen];simp
  have hop: ∀i,i < l1.length→ops[lo+i]? =l1[i]? :=fun i hi=>by rw[hl i,List.getElem?_append_left hi]
  have BF: ∀k,lo+l1.length≤k→k < ops.size→ ∀i,i < l1.length→((jO (ops.toList.map aX) []).getD k 0).testBit (lo+i)=true:=by
   intro k hk hk' i hi
   unfold CF at ql
   rw[←yz]at ql
   have:=pF (pF ql (i:=k - (lo+l1.length)) (by omega)) hi
   rw[show lo+l1.length+(k - (lo+l1.length))=k by omega]at this
   exact this
  have Ct: ∀ (M A:Nat→Prop) (ρ:Env) (a:Act) (w:World) (L:TS) (Q:Exit→Act→World→Prop),dU tm L→Rel M A ρ (aZ ctr) ⟨n,L,hp⟩ a w→
   (∀ (fuel:Nat) (listed:Array Bool) (a':Act) (w':World),listed.size=ops.size→(∀i,i < ops.size→listed.getD i false=decide (i < lo+l1.length))→ops.size - (lo+l1.length)≤fuel→
     At M A ρ w n (E0 l1.length) (hpT l1.length) (ctr+4 * l1.length) a' w'→wpAny P .any ops Q fuel listed a' w')→
   ∀ (fuel:Nat) (listed:Array Bool),listed.size=ops.size→(∀i,i < ops.size→listed.getD i false=decide (i < lo))→ops.size - lo≤fuel→wpAny P .any ops Q fuel listed a w:=by
   intro M A ρ a w L Q hL bL F5
   rw[←q3]at hL
   let Ls:Nat→TS:=fun i=>Nat.rec L (fun i l=>cN l ((l1[i]?).bind (·.dst)) (v i)) i
   have hLs: ∀i,i≤l1.length→dU (E0 i) (Ls i):=by
    intro i
    induction i with
    |zero=>intro _;exact hL
    |succ i ihi=>
     intro hi
     have ho:l1[i]? =some l1[i]:=by simp[show i < l1.length by omega]
     have:=(q5 i l1[i] ho).2.1
     rw[this]
     have h2:=(ihi (by omega)).put (l1[i].dst) (v i)
     have e:Ls (i+1)=cN (Ls i) l1[i].dst (v i):=by
      show cN (Ls i) ((l1[i]?).bind (·.dst)) (v i)=_
      rw[ho];rfl
     rw[e]
     exact h2
   have Ag:Rel M A ρ (aZ ctr) ⟨n,Ls 0,hpT 0⟩ a w:=by rw[q4];exact bL
   refine DB (v:=v) (tmT:=Ls) (hpT:=hpT) (base:=ctr) (fs:=fs) hlm (fun i o hi ho=>?_) hE qs BF Ag ?_
   · rw[hop i hi]at ho
     obtain⟨s1,s2,f,f1,f2,f3⟩:=q5 i o ho
     refine⟨s1 _ (hLs i (by omega)),fun t=>?_,f,f1,f2,f3 _ (hLs i (by omega))⟩
     show find (cN (Ls i) ((l1[i]?).bind (·.dst)) (v i)) t=_
     rw[ho];rfl
   · rintro fuel listed a' w' hsz n9 EG ⟨st',c',A',ρ',⟨rfl,rfl⟩,h2,h3,h4,h5⟩
     exact F5 fuel listed a' w' hsz n9 EG ⟨_,A',ρ',hLs _ (Nat.le_refl _),h2,h3,h4,h5⟩
  cases rest with
  |nil=>
   simp only at q1
   have pO:l2=[]:=by
    cases l2 with
    |nil=>rfl
    |cons o r=>have:=iT rR;simp at this
   subst pO
   simp only[List.append_nil]at hlen
   refine⟨_,_,_,q1,fun M A ρ a w L Q hL bL hQ fuel listed hsz n9 EG=>Ct M A ρ a w L Q hL bL (fun fuel listed a' w' hsz n9 EG rU=>?_) fuel listed hsz n9 EG⟩
   have hq:=hQ a' w' rU
   have Aj:Region.ready .any ops listed=[]:=by
    apply List.eq_nil_iff_forall_not_mem.2
    intro i hi
    rw[mem_ready]at hi
    obtain⟨h0,o,ho,_⟩:=hi
    have hlt:i < ops.size:=(Array.getElem?_eq_some_iff.1 ho).1
    have:=n9 i hlt
    simp only[Array.getD_eq_getD_getElem?]at this h0
    have jl:i < listed.size:=by omega
    simp[jl]at this h0
    simp[this]at h0
    omega
   cases fuel with
   |zero=>exact⟨Aj,hq⟩
   |succ fuel=>exact⟨fun _=>hq,fun i hi=>by rw[Aj]at hi;simp at hi⟩
  |cons p r=>
   simp only at q1
   cases l2 with
   |nil=>simp[aM]at rR
   |cons o l2=>
    simp only[aM]at rR
    split at rR
    · rename_i x l' hx hl'
      obtain⟨g,hpg,hgd⟩:=iY rR
      simp only[List.cons.injEq]at hpg
      obtain⟨rfl,rfl⟩:=hpg
      simp only[List.all_cons,Bool.and_eq_true]at hd
      have hi:ops[lo+l1.length]? =some o:=by rw[hl l1.length,List.getElem?_append_right (Nat.le_refl _)];simp
      obtain⟨kr,iw,c1,r1,r2⟩:=xy (n:=n) gv hi hx hd.2.1 hgd q1
      rw[←yz]at r2
      obtain⟨tm2,hp2,c2,r3,r4⟩:=ih (lo:=lo+l1.length+1) (l:=l2) (fun j=>by
       rw[show lo+l1.length+1+j=lo+(l1.length+(j+1)) by omega,hl,List.getElem?_append_right (by omega)]
       rw[show l1.length+(j+1) - l1.length=j+1 by omega]
       simp) (by rw[←hlen];simp;omega) hl' hd.2.2 r2
      have SJ:=BB (FZ _ _ rfl)
      rw[←yz]at SJ
      refine⟨tm2,hp2,c2,r3,fun M A ρ a w L Q hL bL hQ fuel listed hsz n9 EG=>Ct M A ρ a w L Q hL bL (fun fuel listed a' w' hsz n9 EG rU=>?_) fuel listed hsz n9 EG⟩
      have hps:lo+l1.length < ops.size:=(Array.getElem?_eq_some_iff.1 hi).1
      obtain⟨fuel,rfl⟩: ∃f,fuel=f+1:=⟨fuel - 1,by omega⟩
      obtain⟨L1,A1,ρ1,t1,t2,t3,t4,t5⟩:=rU
      have IT: ∀k o',ops[k]? =some o'→listed.getD k false=true→ ∀e,e∈aX o'→listed.getD e false=true:=by
       intro k o' vp hk e he
       have hks:k < ops.size:=(Array.getElem?_eq_some_iff.1 vp).1
       rw[n9 k hks]at hk
       have:=hE k o' vp e he
       rw[n9 e (by omega)]
       simp at hk⊢
       omega
      refine⟨fun Aj=>?_,fun i hir=>?_⟩
      · exfalso
        have:lo+l1.length∈Region.ready .any ops listed:=by
         rw[mem_ready]
         refine⟨?_,o,hi,fun e he hb=>?_⟩
         · have:=n9 _ hps
           simp only[Array.getD_eq_getD_getElem?]at this⊢
           have jl:lo+l1.length < listed.size:=by omega
           simp[jl]at this⊢
           exact this
         · have hm:e.on∈aX o:=by simp only[aX,List.mem_map,List.mem_filter];exact⟨e,⟨by simpa using he,hb⟩,rfl⟩
           have:=hE _ o hi _ hm
           rw[n9 e.on (by omega)]
           simp
           omega
        rw[Aj]at this
        simp at this
      · rw[mem_ready]at hir
        obtain⟨h0,oi,hoi,tX⟩:=hir
        have his:i < ops.size:=(Array.getElem?_eq_some_iff.1 hoi).1
        have D9:listed.getD i false=false:=by
         simp only[Array.getD_eq_getD_getElem?]at h0⊢
         have jl:i < listed.size:=by omega
         simpa[jl]using h0
        have hge:lo+l1.length≤i:=by
         rw[n9 i his]at D9
         simp at D9
         omega
        have hip:i=lo+l1.length:=by
         rcases Nat.eq_or_lt_of_le hge with h|h
         · exact h.symm
         · exfalso
           have hb:=SJ.2 i h his
           have Tv: ∀ (i:Nat) (es:List Nat),(ops.toList.map aX)[i]? =some es→ ∀e,e∈es→e < i:=by
            intro i es h e he
            simp only[List.getElem?_map,Array.getElem?_toList,Option.map_eq_some_iff]at h
            obtain⟨o,ho,rfl⟩:=h
            exact hE i o ho e he
           have:=(oe (L:=fun k=>listed.getD k false) Tv i (by simpa using his) (fun k es _ D8 iF e he=>by
            simp only[List.getElem?_map,Array.getElem?_toList,Option.map_eq_some_iff]at iF
            obtain⟨o,ho,rfl⟩:=iF
            exact IT k o ho D8 e he) (fun es iF e he=>by
            simp only[List.getElem?_map,Array.getElem?_toList,Option.map_eq_some_iff]at iF
            obtain⟨o',vp,rfl⟩:=iF
            rw[hoi]at vp
            simp only[Option.some.injEq]at vp
            subst vp
            simp only[aX,List.mem_map,List.mem_filter]at he
            obtain⟨ed,⟨g1,g2⟩,rfl⟩:=he
            exact tX ed (by simpa using g1) g2) _ hb).1
           rw[n9 _ hps]at this
           simp at this
        subst hip
        refine r1 M A1 ρ1 a' w' L1 Q _ t1 t2 fun a2 w2 OA=>?_
        obtain⟨L2,A2,ρ2,u1,u2,u3,u4,u5⟩:=OA
        refine r4 M A2 ρ2 a2 w2 L2 Q u1 u2 (fun a3 w3 arV=>hQ a3 w3 ((arV.trans u3 u4 u5).trans t3 t4 t5)) fuel _ (by simpa using hsz) (fun k hk=>?_) (by omega)
        by_cases hk':k=lo+l1.length
        · subst hk'
          have jl:lo+l1.length < listed.size:=by omega
          simp[Array.getD_eq_getD_getElem?,jl]
        · have:=getD_set_ne (listed:=listed) false (fun e:lo+l1.length=k=>hk' e.symm)
          rw[this,n9 k hk]
          simp only[decide_eq_decide]
          omega
    · simp at rR
theorem Dn (gv:my P call) (ix:jF P cY) {n fuel:Nat}: ∀ {c:Code} {r:Rc},ae P c=some r→fF n r=true→ ∀ {Q:Exit→Tr→HS→Nat→Bool} {tm:Tr} {hp:HS} {ctr:Nat},E false call cY P fuel r Q tm hp ctr=true→
 ∃e aW hp' bz,Q e aW hp' bz=true∧QI P n c tm hp ctr e aW hp' bz:=by
 intro c
 induction c with
 |skip=>
  intro r hr hd Q tm hp ctr h
  simp only[ae,Option.some.injEq]at hr
  subst hr
  exact⟨_,_,_,_,h,fun M A ρ a w L hL bL=>wp_skip ⟨rfl,At.here hL bL⟩⟩
 |ret=>
  intro r hr hd Q tm hp ctr h
  simp only[ae,Option.some.injEq]at hr
  subst hr
  exact⟨_,_,_,_,h,fun M A ρ a w L hL bL=>wp_ret ⟨rfl,At.here hL bL⟩⟩
 |exit id=>
  intro r hr hd Q tm hp ctr h
  simp only[ae,Option.some.injEq]at hr
  subst hr
  exact⟨_,_,_,_,h,fun M A ρ a w L hL bL=>wp_exit ⟨rfl,At.here hL bL⟩⟩
 |seq x y FO FN=>
  intro r hr hd Q tm hp ctr h
  simp only[ae]at hr
  split at hr
  · rename_i rx ry hx hy
    simp only[Option.some.injEq]at hr
    subst hr
    simp only[fF,Bool.and_eq_true]at hd
    simp only[E]at h
    obtain⟨e1,kr,iw,c1,h1,h2⟩:=FO hx hd.1 h
    cases e1 with
    |normal=>
     obtain⟨e2,tm2,hp2,c2,h3,h4⟩:=FN hy hd.2 h1
     refine⟨e2,tm2,hp2,c2,h3,fun M A ρ a w L hL bL=>wp_seq (wp_mono (h2 M A ρ a w L hL bL) ?_)⟩
     rintro e a' w' ⟨rfl,L1,A1,ρ1,q1,q2,q3,q4,q5⟩
     exact wp_mono (h4 M A1 ρ1 a' w' L1 q1 q2) fun e a2 w2 ⟨he,rU⟩=>⟨he,rU.trans q3 q4 q5⟩
    |_=>
     refine⟨_,kr,iw,c1,h1,fun M A ρ a w L hL bL=>wp_seq (wp_mono (h2 M A ρ a w L hL bL) ?_)⟩
     rintro e a' w' ⟨rfl,rU⟩
     exact⟨rfl,rU⟩
  · simp at hr
 |cond c x y FO FN=>
  intro r hr hd Q tm hp ctr h
  simp only[ae]at hr
  split at hr
  · rename_i rx ry hx hy
    simp only[Option.some.injEq]at hr
    subst hr
    simp only[fF,Bool.and_eq_true]at hd
    simp only[E]at h
    split at h
    · rename_i b hb
      have hb': ∀L,dU tm L→((⟨n,L,hp⟩:St).get c).fq =some b:=fun L hL=>by
       rw[←bh]
       rw[kf hL]at hb
       exact hb
      cases b with
      |true=>
       obtain⟨e1,kr,iw,c1,h1,h2⟩:=FO hx hd.1 h
       exact⟨e1,kr,iw,c1,h1,fun M A ρ a w L hL bL=>wp_cond (V.gM (hb' L hL) (bL.get c)) (h2 M A ρ a w L hL bL)⟩
      |false=>
       obtain⟨e1,kr,iw,c1,h1,h2⟩:=FN hy hd.2 h
       exact⟨e1,kr,iw,c1,h1,fun M A ρ a w L hL bL=>wp_cond (V.gM (hb' L hL) (bL.get c)) (h2 M A ρ a w L hL bL)⟩
    · simp at h
  · simp at hr
 |block id b ih=>
  intro r hr hd Q tm hp ctr h
  simp only[ae]at hr
  split at hr
  · rename_i rb hb
    simp only[Option.some.injEq]at hr
    subst hr
    simp only[fF]at hd
    simp only[E]at h
    obtain⟨e1,kr,iw,c1,h1,h2⟩:=ih hb hd h
    cases e1 with
    |exit id'=>
     simp only[GZ]at h1
     cases bG:Nat.beq id' id with
     |true=>
      rw[bG]at h1
      have IM:id'=id:=by simpa using bG
      refine⟨_,kr,iw,c1,h1,fun M A ρ a w L hL bL=>wp_block (wp_mono (h2 M A ρ a w L hL bL) ?_)⟩
      rintro e a' w' ⟨rfl,rU⟩
      simp only[Exit.inBlock,IM,if_true]
      exact⟨trivial,rU⟩
     |false=>
      rw[bG]at h1
      have IM:¬id'=id:=by
       intro h;subst h;simp at bG
      refine⟨_,kr,iw,c1,h1,fun M A ρ a w L hL bL=>wp_block (wp_mono (h2 M A ρ a w L hL bL) ?_)⟩
      rintro e a' w' ⟨rfl,rU⟩
      simp only[Exit.inBlock,IM,if_false]
      exact⟨trivial,rU⟩
    |_=>
     refine⟨_,kr,iw,c1,h1,fun M A ρ a w L hL bL=>wp_block (wp_mono (h2 M A ρ a w L hL bL) ?_)⟩
     rintro e a' w' ⟨rfl,rU⟩
     exact⟨rfl,rU⟩
  · simp at hr
 |loop b ih=>
  intro r hr hd Q tm hp ctr h
  simp only[ae]at hr
  split at hr
  · rename_i rb hb
    simp only[Option.some.injEq]at hr
    subst hr
    simp only[fF]at hd
    simp only[E]at h
    have key: ∀ (k:Nat) (tm:Tr) (hp:HS) (ctr:Nat),AI false (fun self=>E false call cY P fuel rb (GK self Q)) k tm hp ctr=true→
     ∃e aW hp' bz,Q e aW hp' bz=true∧ ∀ (M A:Nat→Prop) (ρ:Env) (a:Act) (w:World) (L:TS) (b':Frame) (kk:List _) (cs:List _),dU tm L→Rel M A ρ (aZ ctr) ⟨n,L,hp⟩ a w→
      ∃a' w',At M A ρ w n aW hp' bz a' w'∧Arrives P (lone (b'.at a (.code b:: .inLoop b::kk)) cs w) b' kk cs e a' w':=by
     intro k
     induction k with
     |zero=>intro tm hp ctr h;simp[AI]at h
     |succ k ihk=>
      intro tm hp ctr h
      simp only[AI]at h
      obtain⟨e1,kr,iw,c1,h1,h2⟩:=ih hb hd h
      cases e1 with
      |normal=>
       obtain⟨e2,tm2,hp2,c2,h3,h4⟩:=ihk kr iw c1 h1
       refine⟨e2,tm2,hp2,c2,h3,fun M A ρ a w L b' kk cs hL bL=>?_⟩
       obtain⟨e,a1,w1,⟨rfl,L1,A1,ρ1,q1,q2,q3,q4,q5⟩,eG⟩:=h2 M A ρ a w L hL bL b' (.inLoop b::kk) cs
       obtain⟨a2,w2,rU,o8⟩:=h4 M A1 ρ1 a1 w1 L1 b' kk cs q1 q2
       exact⟨a2,w2,rU.trans q3 q4 q5, .of_steps (Steps.trans eG (.one step_inLoop)) o8⟩
      |_=>
       refine⟨_,kr,iw,c1,h1,fun M A ρ a w L b' kk cs hL bL=>?_⟩
       obtain⟨e,a1,w1,⟨rfl,rU⟩,eG⟩:=h2 M A ρ a w L hL bL b' (.inLoop b::kk) cs
       exact⟨a1,w1,rU, .pass (x:= .inLoop b) rfl (fun _ _=> .inl (by simp)) eG⟩
    obtain⟨e,aW,hp',bz,h1,h2⟩:=key fuel tm hp ctr h
    refine⟨e,aW,hp',bz,h1,fun M A ρ a w L hL bL b' kk cs=>?_⟩
    obtain⟨a',w',rU,eG⟩:=h2 M A ρ a w L b' kk cs hL bL
    exact⟨e,a',w',⟨rfl,rU⟩, .of_steps (.one step_loop) eG⟩
  · simp at hr
 |region id ops d=>
  intro r hr hd Q tm hp ctr h
  cases d with
  |true=>
   simp only[ae]at hr
   split at hr
   · rename_i l hl
     split at hr
     · rename_i hc
       simp only[Bool.and_eq_true]at hc
       simp only[Option.some.injEq]at hr
       subst hr
       simp only[fF]at hd
       simp only[E]at h
       have hE: ∀i o,ops[i]? =some o→ ∀e,e∈aX o→e < i:=by
        intro i o ho e he
        have:=iL hc.2 i (aX o) (by simp[ho]) e he
        omega
       have yz:=iT hl
       rw[yz]at h
       obtain⟨aW,hp',bz,h1,h2⟩:=zd gv ix (n:=n) hE (lo:=0) (l:=ops.toList) (fun j=>by simp) (by simp) hl hd (by simpa using h)
       refine⟨_,_,_,_,h1,fun M A ρ a w L hL bL=>wp_region_any hc.1 ?_⟩
       refine h2 M A ρ a _ L _ hL bL.drew (fun a' w' rU=>?_) ops.size _ (by simp) (fun i hi=>by simp[hi]) (by omega)
       exact⟨rfl,rU.trans (cz.drew M w) (cC.refl _) (bq.refl _ _)⟩
     · simp at hr
   · simp at hr
  |false=>
   simp only[ae]at hr
   split at hr
   · rename_i l hl
     simp only[Option.some.injEq]at hr
     subst hr
     simp only[fF]at hd
     simp only[E]at h
     obtain⟨aW,hp',bz,h1,h2⟩:=ve gv (n:=n) (ops:=ops) (k:=0) (l:=ops.toList) (fun j=>by simp) hl hd h
     refine⟨_,_,_,_,h1,fun M A ρ a w L hL bL=>wp_region ?_⟩
     have:=h2 M A ρ a w L (fun e2 a' w'=>e2= .normal∧At M A ρ w n aW hp' bz a' w') hL bL (fun _ _ rU=>⟨rfl,rU⟩)
     rw[List.range_eq_range']
     simpa using this
   · simp at hr
 |_=>intro r hr;simp[ae]at hr
end Go.aU
end
section
namespace Go.aU
open Go
inductive Rv where
 |tmp (t:Nat)
 |cell (t:Nat) (n:Option Nat)
def eA (P:Program):List ResultVar→Option (List Rv)
 | []=>some []
 | .tmp t::r=>match eA P r with
   |some l=>some (.tmp t::l)
   |none=>none
 | .cell t ty::r=>match E4 P ty,eA P r with
   |some n,some l=>some (.cell t n::l)
   |_,_=>none
section
variable {α:Type} (bad:α)
def th (tm:Tr) (hp:HS):List Rv→(List W→α)→α
 | [],k=>k []
 | .tmp t::r,k=>match tm.get (key t)with
   |some (.w u)=>th tm hp r fun us=>k (u::us)
   |_=>bad
 | .cell t n::r,k=>match tm.get (key t)with
   |some (.w (.one c))=>yP bad hp c fun cs j=>zN bad n cs j fun v=>match v with
    | .w u=>th tm hp r fun us=>k (u::us)
    |_=>bad
   |_=>bad
def nj {β γ:Type} (f:β→(γ→α)→α):List β→(List γ→α)→α
 | [],k=>k []
 |x::r,k=>f x fun y=>nj f r fun l=>k (y::l)
def kg:Nat→HS→C→(T→α)→α
 |_,_, .t x,k=>k x
 |0,_,_,_=>bad
 |d+1,hp, .own id sz i len,k=>match find hp id with
  |some (.row sz' xs)=>fI (Nat.beq sz' sz&&Nat.ble (i+len) xs.length) (nj (nj (kg d hp)) ((xs.drop i).take len) fun ts=>k (.ao sz ts)) bad
  |_=>bad
 |_+1,_,_,_=>bad
def Gq (hp:HS):W→(W→α)→α
 | .one c,k=>kg bad 6 hp c fun t=>k (.one (.t t))
 | .agg cs,k=>nj (kg bad 6 hp) cs fun ts=>k (.agg (ts.map .t))
end
def bB {β γ:Type} (f:β→Option γ):List β→Option (List γ)
 | []=>some []
 |x::r=>match f x,bB f r with
  |some y,some l=>some (y::l)
  |_,_=>none
def de:Nat→HS→C→Option T
 |_,_, .t x=>some x
 |0,_,_=>none
 |d+1,hp, .own id sz i len=>match find hp id with
  |some (.row sz' xs)=>if sz'=sz∧i+len≤xs.length then(bB (bB (de d hp)) ((xs.drop i).take len)).map (.ao sz)else none
  |_=>none
 |_+1,_,_=>none
theorem j4 {β γ:Type} {f:β→(γ→Bool)→Bool} {g:β→Option γ} (hf: ∀x k,f x k=true→ ∃y,g x=some y∧k y=true): ∀ {l:List β} {k:List γ→Bool},nj f l k=true→ ∃l',bB g l=some l'∧k l'=true
 | [],k,h=>⟨[],rfl,h⟩
 |x::r,k,h=>by
  simp only[nj]at h
  obtain⟨y,h1,h2⟩:=hf _ _ h
  obtain⟨l',h3,h4⟩:=j4 hf h2
  exact⟨_,by simp only[bB,h1,h3],h4⟩
theorem yK: ∀ {d:Nat} {hp:HS} {c:C} {k:T→Bool},kg false d hp c k=true→ ∃t,de d hp c=some t∧k t=true
 |d,hp, .t x,k,h=>⟨x,by cases d<;>rfl,by cases d<;>exact h⟩
 |0,hp, .own ..,k,h=>by simp[kg]at h
 |0,hp, .ptr ..,k,h=>by simp[kg]at h
 |0,hp, .pM ..,k,h=>by simp[kg]at h
 |0,hp, .jc ..,k,h=>by simp[kg]at h
 |0,hp, .any,k,h=>by simp[kg]at h
 |0,hp, .map _,k,h=>by simp[kg]at h
 |0,hp, .it _,k,h=>by simp[kg]at h
 |0,hp, .yY ..,k,h=>by simp[kg]at h
 |d+1,hp, .own id sz i len,k,h=>by
  simp only[kg]at h
  split at h
  · rename_i sz' xs hf
    obtain⟨hc,h⟩:=bn h
    simp only[Bool.and_eq_true,Nat.beq_eq,Nat.ble_eq]at hc
    obtain⟨ts,h1,h2⟩:=j4 (fun x k h=>j4 (fun y k h=>yK h) h) h
    exact⟨_,by simp only[de,hf,if_pos hc,h1,Option.map_some],h2⟩
  · simp at h
 |d+1,hp, .ptr ..,k,h=>by simp[kg]at h
 |d+1,hp, .pM ..,k,h=>by simp[kg]at h
 |d+1,hp, .jc ..,k,h=>by simp[kg]at h
 |d+1,hp, .any,k,h=>by simp[kg]at h
 |d+1,hp, .map _,k,h=>by simp[kg]at h
 |d+1,hp, .it _,k,h=>by simp[kg]at h
 |d+1,hp, .yY ..,k,h=>by simp[kg]at h
theorem fh {β γ:Type} {g:β→Option γ}: ∀ {l:List β} {l':List γ},bB g l=some l'→l'.length=l.length
 | [],l',h=>by simp only[bB,Option.some.injEq]at h;subst h;rfl
 |x::r,l',h=>by
  simp only[bB]at h
  split at h
  · rename_i y l2 h1 h2
    simp only[Option.some.injEq]at h
    subst h
    simp[fh h2]
  · simp at h
theorem dk {β γ:Type} {g:β→Option γ}: ∀ {l:List β} {l':List γ},bB g l=some l'→ ∀ (i:Nat) (y:γ),l'[i]? =some y→ ∃x,l[i]? =some x∧g x=some y
 | [],l',h,i,y,hy=>by simp only[bB,Option.some.injEq]at h;subst h;simp at hy
 |x::r,l',h,i,y,hy=>by
  simp only[bB]at h
  split at h
  · rename_i y' l2 h1 h2
    simp only[Option.some.injEq]at h
    subst h
    cases i with
    |zero=>simp only[List.getElem?_cons_zero,Option.some.injEq]at hy;subst hy;exact⟨x,by simp,h1⟩
    |succ i=>obtain⟨x',h3,h4⟩:=dk h2 i y (by simpa using hy);exact⟨x',by simpa using h3,h4⟩
  · simp at h
variable {P:Program} {M A:Nat→Prop} {ρ:Env} {F:Nat→Prop} {st:St} {a:Act} {w:World}
theorem qw (h:Rel M A ρ F st a w) {B:Nat→Prop} (Tx: ∀b,B b→A b) (hB: ∀id blk b,find st.heap id=some blk→ρ id=some (.eM b)→¬B b):
 ∀ {d:Nat} {c:C} {t:T} {x:Value},de d st.heap c=some t→RC w A ρ c x→RT w B t x
 |d, .t y,t,x,hf,hr=>by
  have:t=y:=by cases d<;>simpa[de]using hf.symm
  subst this
  exact RT.keeps (w:=w) ⟨Nat.le_refl _,fun b _ hn=>⟨rfl,fun hb=>hn (Tx b hb)⟩⟩ hr
 |0, .own ..,t,x,hf,hr=>by simp[de]at hf
 |0, .ptr ..,t,x,hf,hr=>by simp[de]at hf
 |0, .pM ..,t,x,hf,hr=>by simp[de]at hf
 |0, .jc ..,t,x,hf,hr=>by simp[de]at hf
 |0, .any,t,x,hf,hr=>by simp[de]at hf
 |0, .map _,t,x,hf,hr=>by simp[de]at hf
 |0, .it _,t,x,hf,hr=>by simp[de]at hf
 |0, .yY ..,t,x,hf,hr=>by simp[de]at hf
 |d+1, .ptr ..,t,x,hf,hr=>by simp[de]at hf
 |d+1, .pM ..,t,x,hf,hr=>by simp[de]at hf
 |d+1, .jc ..,t,x,hf,hr=>by simp[de]at hf
 |d+1, .any,t,x,hf,hr=>by simp[de]at hf
 |d+1, .map _,t,x,hf,hr=>by simp[de]at hf
 |d+1, .it _,t,x,hf,hr=>by simp[de]at hf
 |d+1, .yY ..,t,x,hf,hr=>by simp[de]at hf
 |d+1, .own id sz i len,t,x,hf,hr=>by
  simp only[de]at hf
  split at hf
  · rename_i sz' xs HC
    split at hf
    · rename_i hc
      simp only[Option.map_eq_some_iff]at hf
      obtain⟨ts,hts,rfl⟩:=hf
      have he:elems st.heap (.own id sz i len)=some (sz,(xs.drop i).take len):=by simp only[elems,HC,if_pos hc]
      obtain⟨hsz,b0,avZ,je,Gg⟩:=iQ h he hr
      by_cases hne:(xs.drop i).take len=[]
      · rw[hne]at hts
        simp only[bB,Option.some.injEq]at hts
        subst hts
        rw[je,hne]
        exact .nil
      · obtain⟨b,o,cap,rfl,hcell⟩:=ii h he hr hne
        simp only[Value.slice.injEq]at je
        obtain⟨_,_,rfl⟩:=je
        have hρ:ρ id=some (.eM b)∧b < w.heap.size:=by
         rcases hr with⟨b',cap',q,e',k1,k2,k3,k4,k5⟩|⟨_,_,h2,h3⟩
         · simp only[Value.slice.injEq,Option.some.injEq,Addr.mk.injEq]at k2
           obtain⟨⟨rfl,_⟩,_⟩:=k2
           refine⟨k1,?_⟩
           rcases Nat.lt_or_ge b w.heap.size with hlt|hge
           · exact hlt
           · simp[World.shape?,Array.getElem?_eq_none hge]at k4
         · simp at h3
        have Gh: ∀ (i':Nat) (e:List T) (j:Nat) (t:T),ts[i']? =some e→e[j]? =some t→ ∃y,w.cell? ⟨b,o+(i' * sz+j),none⟩=some y∧RT w B t y:=by
         intro i' e j t hi hj
         obtain⟨el,hel,hfe⟩:=dk hts i' e hi
         obtain⟨c,hcc,Ta⟩:=dk hfe j t hj
         obtain⟨y,hy,hry,_⟩:=hcell i' el j c hel hcc
         exact⟨y,hy,qw h Tx hB Ta hry⟩
        have hE:RT w B (.ao sz ts) (.slice (some ⟨b,o,none⟩) ((xs.drop i).take len).length cap):=by
         refine .ao (fun i j=>(w.cell? ⟨b,o+(i * sz+j),none⟩).getD undef) (fh hts).symm Gg hρ.2 (hB id _ b HC hρ.1) (fun e he'=>?_) (fun i e j t hi hj=>?_) (fun i e j t hi hj=>?_)
         · obtain⟨k,hk,Ok⟩:=List.getElem_of_mem he'
           obtain⟨el,hel,hfe⟩:=dk hts k e (by rw[←Ok];simp[hk])
           rw[fh hfe]
           exact hsz el (List.mem_of_getElem? hel)
         · obtain⟨y,hy,_⟩:=Gh i e j t hi hj
           rw[Nat.add_assoc,hy];rfl
         · obtain⟨y,hy,cO⟩:=Gh i e j t hi hj
           rw[hy];exact cO
        exact hE
    · simp at hf
  · simp at hf
def bH (hp:HS):W→Option W
 | .one c=>(de 6 hp c).map fun t=> .one (.t t)
 | .agg cs=>(bB (de 6 hp) cs).map fun ts=> .agg (ts.map .t)
theorem CR {hp:HS} {u:W} {k:W→Bool} (h:Gq false hp u k=true): ∃u',bH hp u=some u'∧k u'=true:=by
 cases u with
 |one c=>obtain⟨t,h1,h2⟩:=yK h;exact⟨_,by simp only[bH,h1,Option.map_some],h2⟩
 |agg cs=>obtain⟨t,h1,h2⟩:=j4 (fun x k h=>yK h) h;exact⟨_,by simp only[bH,h1,Option.map_some],h2⟩
theorem fE (h:Rel M A ρ F st a w) {B:Nat→Prop} (Tx: ∀b,B b→A b) (hB: ∀id blk b,find st.heap id=some blk→ρ id=some (.eM b)→¬B b) {u u':W} {x:Value}
 (hf:bH st.heap u=some u') (hr:RW w A ρ u x) (ρ':Env):RW w B ρ' u' x:=by
 cases u with
 |one c=>
  simp only[bH,Option.map_eq_some_iff]at hf
  obtain⟨t,h1,rfl⟩:=hf
  exact⟨qw h Tx hB h1 hr.1,hr.2⟩
 |agg cs=>
  simp only[bH,Option.map_eq_some_iff]at hf
  obtain⟨ts,h1,rfl⟩:=hf
  obtain⟨vs,rfl,h2,h3⟩:=hr
  refine⟨vs,rfl,by simp[fh h1,h2],fun k c y hk hy=>?_⟩
  simp only[List.getElem?_map,Option.map_eq_some_iff]at hk
  obtain⟨t,ht,rfl⟩:=hk
  obtain⟨c',BJ,Ta⟩:=dk h1 k t ht
  obtain⟨r1,r2⟩:=h3 k c' y BJ hy
  exact⟨qw h Tx hB Ta r1,r2⟩
structure bA where
 n:Nat
 code:Rc
 res:List Rv
 flat:Bool
 inl:Bool
def aJ (P:Program) (f:FuncId) (fr:bA):Prop:=
 ∃fn c,P.funcs[f]? =some fn∧fn.body=some c∧ae P c=some fr.code∧fn.ntmps=fr.n∧eA P fn.results.toList=some fr.res∧fF fr.n fr.code=true
theorem sC {tm:Tr} {hp:HS}: ∀ {rs:List ResultVar} {Rk:List Rv} {k:List W→Bool},eA P rs=some Rk→th false tm hp Rk k=true→
 ∃us,(∀L,dU tm L→aE P hp L rs=some us)∧k us=true
 | [],Rk,k,hr,h=>by
   simp only[eA,Option.some.injEq]at hr
   subst hr
   exact⟨[],fun _ _=>rfl,h⟩
 | .tmp t::r,Rk,k,hr,h=>by
   simp only[eA]at hr
   split at hr
   · rename_i l hl
     simp only[Option.some.injEq]at hr
     subst hr
     simp only[th]at h
     split at h
     · rename_i u hu
       obtain⟨us,h1,h2⟩:=sC hl h
       refine⟨u::us,fun L hL=>?_,h2⟩
       rw[←hL t]at hu
       simp only[aE,bZ,hu,h1 L hL]
     · simp at h
   · simp at hr
 | .cell t ty::r,Rk,k,hr,h=>by
   simp only[eA]at hr
   split at hr
   · rename_i n l hn hl
     simp only[Option.some.injEq]at hr
     subst hr
     simp only[th]at h
     split at h
     · rename_i c hc
       obtain⟨cs,j,h1,h2⟩:=xe h
       obtain⟨u,h3,h4⟩:=jr (P:=P) hn (oM h2)
       simp only at h4
       obtain⟨us,h5,h6⟩:=sC hl h4
       refine⟨u::us,fun L hL=>?_,h6⟩
       rw[←hL t]at hc
       have dl:dJ P ty (.w (.one c)) hp=some (.w u):=by simp only[dJ,h1,h3,Option.map_some]
       simp only[aE,bZ,hc,dl,h5 L hL]
     · simp at h
   · simp at hr
def Ac {α:Type}:Nat→List W→Tr→(Tr→α)→α
 |_,[],tm,k=>k tm
 |n,u::r,tm,k=>Tr.put (key n) tm (.w u) fun tm=>mH (n+1) fun m=>Ac m r tm k
def iX:Nat→List W→Tr→Tr
 |_,[],tm=>tm
 |n,u::r,tm=>iX (n+1) r (Tr.set (key n) tm (.w u))
theorem tM {α:Type}: ∀ (us:List W) (n:Nat) (tm:Tr) (k:Tr→α),Ac n us tm k=k (iX n us tm)
 | [],n,tm,k=>rfl
 |u::r,n,tm,k=>by simp only[Ac,iX,Tr.put_eq,df,tM r]
theorem wS: ∀ (us:List W) (n:Nat) (tm:Tr) (L:TS),dU tm L→(∀t,n≤t→find L t=none)→dU (iX n us tm) (cE n us++L)
 | [],n,tm,L,h,_=>h
 |u::r,n,tm,L,h,hn=>by
  have ih:=wS r (n+1) (Tr.set (key n) tm (.w u)) ((n, .w u)::L) (h.put (some n) (.w u)) (fun t ht=>by rw[aj,if_neg (by omega)];exact hn t (by omega))
  intro t
  rw[iX, ←ih t]
  simp only[cE,List.cons_append,aj,cA]
  by_cases e:n=t
  · subst e
    have:find (cE (n+1) r) n=none:=by
     cases h':find (cE (n+1) r) n with
     |none=>rfl
     |some v=>have:=(dA _ _ _ _ h').1;omega
    simp[this]
  · simp[e]
theorem D0 (us:List W):dU (iX 0 us .nil) (cE 0 us):=by
 have:=wS us 0 .nil [] (fun t=>by rw[Tr.sH];rfl) (fun t _=>rfl)
 simpa using this
theorem Rel.toM {M':Nat→Prop} (h:Rel M' A ρ F st a w) (hM: ∀b,M' b→M b) (hmay: ∀b,w.heap.size≤b→M b) (Ou:wj M A w):Rel M A ρ F st a w:=by
 refine⟨h.size,h.defers,h.tmps,fun id blk hb=>?_,h.inj,h.fresh,h.bound,hmay,Ou⟩
 have:=h.heap id blk hb
 cases blk with
 |row sz xs=>
  obtain⟨h1,h2⟩:=this
  refine⟨h1,?_⟩
  rcases h2 with⟨b,c,e,k1,k2,k3⟩|h2
  · exact .inl ⟨b,c,e,k1,hM b k2,k3⟩
  · exact .inr h2
 |mp es clock=>
  obtain⟨b,en,k1,k2,k3⟩:=this
  exact⟨b,en,k1,hM b k2,k3⟩
theorem Rel.own {id:Nat} {blk:bt} {b:Nat} (h:Rel M A ρ F st a w) (hf:find st.heap id=some blk) (hρ:ρ id=some (.eM b)):M b∧A b∧b < w.heap.size:=by
 have:=(h.heap id blk hf).lt hρ
 exact⟨this.2.1,this.2.2,this.1⟩
def oZ (e:Exit):Prop:=e= .normal∨e= .ret
theorem uO {f:FuncId} {fr:bA} (hok:aJ P f fr) {us:List W} {hp hp':HS} {ctr bz:Nat} {e:Exit} {aW:Tr} {vs:List W} (hn:us.length≤fr.n) (he:oZ e)
 (hrun: ∀c,(∃fn,P.funcs[f]? =some fn∧fn.body=some c)→QI P fr.n c (iX 0 us .nil) hp ctr e aW hp' bz) (hres: ∀fn,P.funcs[f]? =some fn→ ∀L,dU aW L→aE P hp' L fn.results.toList=some vs)
 {M A:Nat→Prop} {ρ:Env} {w:World} {xs:Array Value} (hr:HR M A ρ (aZ ctr) hp w) (hx:zc w A ρ us xs.toList):
 Calls P f xs w fun e w'=> ∃x A' ρ',e= .returned x∧HR M A' ρ' (aZ bz) hp' w'∧RV w' A' ρ' (aO vs) x∧cz M w w'∧cC ρ ρ'∧bq A A' w:=by
 obtain⟨fn,c,hf,hb,hrc,hnt,Hz,hds⟩:=hok
 refine calls_of_wp hf hb ?_
 have hl:us.length=xs.size:=by simpa using hx.1
 have bL:Rel M A ρ (aZ ctr) ⟨fr.n,cE 0 us,hp⟩ {tmps:=xs++Array.replicate (fn.ntmps - xs.size) undef,defers:=[]} w:=by
  refine⟨by simp;omega,rfl,fun t v hv=>?_,hr.heap,hr.inj,hr.fresh,hr.bound,hr.may,hr.dm⟩
  obtain⟨_,u,hu,rfl⟩:=dA _ _ _ _ hv
  simp only[Nat.sub_zero]at hu
  have ht:t < xs.size:=by rw[←hl];exact(List.getElem?_eq_some_iff.1 hu).1
  have yo:xs.toList[t]? =some xs[t]:=by simp[ht]
  have:=hx.2 t u _ hu yo
  have e:(xs++Array.replicate (fn.ntmps - xs.size) undef).getD t undef=xs[t]:=by simp[Array.getD_eq_getD_getElem?,Array.getElem?_append_left ht,ht]
  rw[e]
  exact this
 refine wp_mono (hrun c ⟨fn,hf,hb⟩ M A ρ _ w _ (D0 us) bL) ?_
 rintro e2 a' w' ⟨rfl,L',A',ρ',hL',cO,dl,ca,hg⟩
 have eU:=hres fn hf L' hL'
 obtain⟨ws,hvs,hR⟩:=dh cO eU
 have hm:(fn.results.mapM fun(r:ResultVar)=>match r with
  | .tmp t=>(pure (a'.tmps.getD t undef):Sem Value)
  | .cell b t=>do loadVar t (←asAddr (a'.tmps.getD b undef))).run P w'= .ok ws.toArray w':=by
  rw[Array.mapM_eq_mapM_toList]
  simp only[Sem.run_map]
  exact(congrArg (fun r:Result (List Value)=>Result.andThen r fun a w'=>Result.ok a.toArray w') hvs).trans rfl
 have hrun:(results fn a'.tmps).run P w'= .ok (if h:ws.toArray.size=1 then ws.toArray[0]else .tuple ws.toArray) w':=by
  show(Bind.bind (fn.results.mapM fun(r:ResultVar)=>match r with
   | .tmp t=>(pure (a'.tmps.getD t undef):Sem Value)
   | .cell b t=>do loadVar t (←asAddr (a'.tmps.getD b undef))) fun vs=>Pure.pure (if h:vs.size=1 then vs[0]else .tuple vs)).run P w'=_
  rw[Sem.run_bind,hm]
  rfl
 have fin:a'.defers=[]∧ ∃v,(results fn a'.tmps).run P w'= .ok v w'∧ ∃x A' ρ',Ending.returned v= .returned x∧HR M A' ρ' (aZ bz) hp' w'∧RV w' A' ρ' (aO vs) x∧cz M w w'∧cC ρ ρ'∧bq A A' w:=by
  refine⟨cO.defers,_,hrun,_,A',ρ',rfl,⟨rfl,rfl,fun t v hv=>by simp[find]at hv,cO.heap,cO.inj,cO.fresh,cO.bound,cO.may,cO.dm⟩,?_,dl,ca,hg⟩
  match vs,ws,hR with
  | [],[],_=>exact⟨#[],by simp,rfl,by simp⟩
  | [u],[v],hR=>exact hR.2 0 u v rfl rfl
  |u::u2::r,v::v2::s,hR=>
   have hne:¬ (v::v2::s).toArray.size=1:=by simp
   simp only[hne,dite_false]
   exact⟨_,rfl,by simpa using hR.1,fun k x y hx hy=>hR.2 k x y hx (by simpa using hy)⟩
  | [],_::_,hR=>exact absurd hR.1 (by simp)
  |_::_,[],hR=>exact absurd hR.1 (by simp)
  | [_],_::_::_,hR=>exact absurd hR.1 (by simp)
  |_::_::_,[_],hR=>exact absurd hR.1 (by simp)
 rcases he with rfl|rfl
 · exact fin
 · exact fin
theorem uM {f:FuncId} {fr:bA} (hok:aJ P f fr) {us:List W} {hp hp':HS} {ctr bz:Nat} {e:Exit} {aW:Tr} {vs:List W} (hn:us.length≤fr.n) (he:oZ e)
 (hrun: ∀c,(∃fn,P.funcs[f]? =some fn∧fn.body=some c)→QI P fr.n c (iX 0 us .nil) hp ctr e aW hp' bz) (hres: ∀fn,P.funcs[f]? =some fn→ ∀L,dU aW L→aE P hp' L fn.results.toList=some vs):
 fu P f us hp ctr (aO vs) hp' bz:=by
 intro M A ρ a w n L xs hr hx
 let M':Nat→Prop:=fun b=>(M b∧A b)∨w.heap.size≤b
 have hH:HR M' A ρ (aZ ctr) hp w:=by
  refine⟨rfl,rfl,fun t v hv=>by simp[find]at hv,fun id blk hb=>?_,hr.inj,hr.fresh,hr.bound,fun b hb=> .inr hb,hr.dm.sub (fun b hb hm=>hm.elim (fun h=>h.1) (fun h=>by omega)) (fun _ h=>h)⟩
  have:=hr.heap id blk hb
  cases blk with
  |row sz ys=>
   obtain⟨h1,h2⟩:=this
   refine⟨h1,?_⟩
   rcases h2 with⟨b,c,e,k1,k2,k3,k4⟩|h2
   · exact .inl ⟨b,c,e,k1, .inl ⟨k2,k3⟩,k3,k4⟩
   · exact .inr h2
  |mp es clock=>
   obtain⟨b,en,k1,k2,k3,k4⟩:=this
   exact⟨b,en,k1, .inl ⟨k2,k3⟩,k3,k4⟩
 refine(uO hok hn he hrun hres hH hx).mono ?_
 rintro e w' ⟨x,A',ρ',rfl,h1,h2,h3,h4,h5⟩
 have hM: ∀b,M' b→M b:=fun b hb=>hb.elim (fun h=>h.1) (hr.may b)
 have hmay: ∀b,w'.heap.size≤b→M b:=fun b hb=>hr.may b (Nat.le_trans h3.size hb)
 have hk:dD A A' w w':=⟨h3.size,fun b hb F6=>⟨h3.block b hb (fun hm=>by
  rcases hm with hm|hm
  · exact F6 hm.2
  · omega),fun hA=>F6 (h5.2 b hb hA)⟩⟩
 refine⟨x,A',ρ',rfl,?_,h2,h3.weaken (fun i _ ho=>hM i ho),h4,h5⟩
 have P6:=h1.toM hM hmay (hr.dm.CZ (h3.weaken (fun i _ ho=>hM i ho)) h5.2)
 exact⟨hr.size,hr.defers,fun t v hv=>(hr.tmps t v hv).keeps hk h3.shape h4,P6.heap,P6.inj,P6.fresh,P6.bound,P6.may,P6.dm⟩
theorem Ee {f:FuncId} {fr:bA} (hok:aJ P f fr) {us:List W} {hp':HS} {bz:Nat} {e:Exit} {aW:Tr} {vs ts:List W} (hn:us.length≤fr.n) (he:oZ e)
 (hrun: ∀c,(∃fn,P.funcs[f]? =some fn∧fn.body=some c)→QI P fr.n c (iX 0 us .nil) [] 4 e aW hp' bz) (hres: ∀fn,P.funcs[f]? =some fn→ ∀L,dU aW L→aE P hp' L fn.results.toList=some vs)
 (hts:bB (bH hp') vs=some ts):Fn P f us [] (aO ts) []:=by
 intro w A ρ xs hH hxs
 refine(uO hok hn he hrun hres hH hxs).mono ?_
 rintro e w' ⟨x,A',ρ',rfl,h1,h2,h3,h4,h5⟩
 have hB: ∀id blk b,find hp' id=some blk→ρ' id=some (.eM b)→¬A b:=by
  intro id blk b hf hρ hA
  have hM:=(h1.own hf hρ).1
  rcases hM with⟨id',eX,j8,_⟩|hM
  · simp[find]at j8
  · have:=hH.bound b hA
    omega
 refine⟨x,A,ρ,aZ 4,rfl,?_,⟨rfl,rfl,fun t v hv=>by simp[find]at hv,fun id blk hb=>by simp[find]at hb,fun id id' b b' q hb=>by simp[find]at hb,hH.fresh,fun b hb=>Nat.lt_of_lt_of_le (hH.bound b hb) h3.size,fun b hb=> .inr (Nat.le_trans h3.size hb),hH.dm.CZ h3 (fun _ _ h=>h)⟩,h3,gR.refl _,bq.refl _ _⟩
 have hlen:=fh hts
 have one: ∀ (k:Nat) (u:W) (y:Value),ts[k]? =some u→(∀v,vs[k]? =some v→RW w' A' ρ' v y)→RW w' A ρ u y:=by
  intro k u y hu hv
  obtain⟨v,iv,Al⟩:=dk hts k u hu
  exact fE (st:=⟨0,[],hp'⟩) h1 (fun b hb=>h5.1 b hb) hB Al (hv v iv) ρ
 match vs,ts,hlen with
 | [],[],_=>
   obtain⟨ys,h6,h7,_⟩:=h2
   exact⟨ys,h6,h7,fun k u y hu=>by simp at hu⟩
 | [v],[u],_=>exact one 0 u x rfl (fun v' iv=>by simp only[List.getElem?_cons_zero,Option.some.injEq]at iv;subst iv;exact h2)
 |v::v2::r,u::u2::s,hlen=>
  obtain⟨ys,rfl,h6,h7⟩:=h2
  refine⟨ys,rfl,by rw[←h6];simpa using hlen,fun k u' y hu hy=>one k u' y hu (fun v' iv=>h7 k v' y iv hy)⟩
 | [],_::_,hlen=>simp at hlen
 |_::_,[],hlen=>simp at hlen
 | [_],_::_::_,hlen=>simp at hlen
 |_::_::_,[_],hlen=>simp at hlen
def sx (us:List W):Bool:=us.all W.bJ
theorem nO {n:Nat} {u:W} (h:u.bJ=true):u.up n=u:=by
 cases u with
 |one c=>cases c<;>simp[W.bJ,C.bJ]at h;rfl
 |agg cs=>
  simp only[W.bJ,List.all_eq_true]at h
  simp only[W.up,W.agg.injEq]
  have: ∀c,c∈cs→c.up n=id c:=by
   intro c hc
   have:=h c hc
   cases c<;>simp[C.bJ]at this
   rfl
  rw[List.map_congr_left this];simp
theorem eV {hp:HS} {u u':W} (h:bH hp u=some u'):u'.bJ=true:=by
 cases u with
 |one c=>
  simp only[bH,Option.map_eq_some_iff]at h
  obtain⟨t,_,rfl⟩:=h
  rfl
 |agg cs=>
  simp only[bH,Option.map_eq_some_iff]at h
  obtain⟨t,_,rfl⟩:=h
  simp[W.bJ,C.bJ]
def V.bJ:V→Bool
 | .w u=>u.bJ
 | .dn ws=>ws.all W.bJ
 | .undef=>false
theorem V.nO {n:Nat} {v:V} (h:v.bJ=true):v.up n=v:=by
 cases v with
 |w u=>simp only[V.bJ]at h;simp only[V.up,Go.aU.nO h]
 |dn ws=>
  simp only[V.bJ,List.all_eq_true]at h
  simp only[V.up,V.dn.injEq]
  have: ∀c,c∈ws→c.up n=id c:=fun c hc=>Go.aU.nO (h c hc)
  rw[List.map_congr_left this];simp
 |undef=>rfl
theorem oE {ts:List W} (h:ts.all W.bJ=true):(aO ts).bJ=true:=by
 match ts with
 | []=>rfl
 | [u]=>simpa[aO,V.bJ]using h
 |_::_::_=>simpa only[aO,V.bJ]using h
def C.plain:C→Bool
 | .t (.val (.int ..))| .t (.val (.bool _))| .t (.val (.string _))=>true
 |_=>false
def W.plain:W→Bool
 | .one c=>c.plain
 | .agg cs=>cs.all C.plain
def V.plain:V→Bool
 | .w u=>u.plain
 | .dn ws=>ws.all W.plain
 | .undef=>false
end Go.aU
end
section
namespace Go.aU
open Go
section
variable {α:Type} (bad:α)
def nN (P:Program) (call:rD α) (cY:rE α) (fuel:Nat) (fr:bA) (us:List W) (k:V→α):α:=
 fI (Nat.ble us.length fr.n) (Ac 0 us .nil fun tm=>E bad call cY P fuel fr.code (fun e aW hp' _=>match e with
  | .normal=>th bad aW hp' fr.res fun vs=>nj (Gq bad hp') vs fun ts=>k (aO ts)
  | .ret=>th bad aW hp' fr.res fun vs=>nj (Gq bad hp') vs fun ts=>k (aO ts)
  |_=>bad) tm [] 4) bad
def yn (P:Program) (call:rD α) (cY:rE α) (fuel:Nat) (fr:bA) (us:List W) (hp:HS) (ctr:Nat) (K:V→HS→Nat→α):α:=
 fI (Nat.ble us.length fr.n) (Ac 0 us .nil fun tm=>E bad call cY P fuel fr.code (fun e aW hp' bz=>match e with
  | .normal=>th bad aW hp' fr.res fun vs=>K (aO vs) hp' bz
  | .ret=>th bad aW hp' fr.res fun vs=>K (aO vs) hp' bz
  |_=>bad) tm hp ctr) bad
variable (P:Program) (ej:Nat→Option bA) (Cs:Nat→List W→Option V) (fuel:Nat)
def cc:Nat→rD α×rE α
 |0=>(fun _ _ _ _ _=>bad,fun _ _ _ _ _=>bad)
 |d+1=>
  (fun f us hp ctr K=>match ej f with
    |some fr=>fI fr.inl (yn bad P (cc d).1 (cc d).2 fuel fr us hp ctr K)
      (fI (sx us) (match Cs f us with
        |some v=>mH (ctr+4) fun c=>K v hp c
        |none=>nN bad P (cc d).1 (cc d).2 fuel fr us fun v=>mH (ctr+4) fun c=>K v hp c)
      (fI (fr.flat&& (bB (bH hp) us).isSome) (nj (Gq bad hp) us fun ts=>match Cs f ts with
        |some v=>fI v.flat (mH (ctr+4) fun c=>K v hp c) bad
        |none=>nN bad P (cc d).1 (cc d).2 fuel fr ts fun v=>fI v.flat (mH (ctr+4) fun c=>K v hp c) bad)
      (yn bad P (cc d).1 (cc d).2 fuel fr us hp ctr K)))
    |none=>bad,
   fun f us hp _ K=>match ej f with
    |some fr=>fI (sx us) (match Cs f us with
      |some v=>K v hp
      |none=>nN bad P (cc d).1 (cc d).2 fuel fr us fun v=>K v hp)
      (match ir hp us with
        |some ts=>match Cs f ts with
         |some v=>fI v.flat (K v hp) bad
         |none=>nN bad P (cc d).1 (cc d).2 fuel fr ts fun v=>fI v.flat (K v hp) bad
        |none=>bad)
    |none=>bad)
end
variable {P:Program}
theorem eJ {f:FuncId} {us:List W} {hp:HS} {ctr:Nat} {v:V} (hv:v.bJ=true) (hT:sx us=true) (h:Fn P f us [] v []):dP P hp ctr f us v hp:=
 .inl ⟨v,[],us,h.toF,(V.nO hv).symm,rfl, .inl ⟨rfl,hT⟩⟩
theorem ri {f:FuncId} {us ts:List W} {hp:HS} {ctr:Nat} {v:V} (hv:v.bJ=true) (hl:ir hp us=some ts) (hfl:v.flat=true) (h:Fn P f ts [] v []):dP P hp ctr f us v hp:=
 .inl ⟨v,[],ts,h.toF,(V.nO hv).symm,rfl, .inr ⟨hl,hfl,fun id blk hb=>by simp[find]at hb⟩⟩
theorem kS {f:FuncId} {us ts:List W} {hp:HS} {ctr:Nat} {v:V} (hv:v.bJ=true) (hl:bB (bH hp) us=some ts) (hfl:v.flat=true) (hfn:Fn P f ts [] v []):fu P f us hp ctr v hp (ctr+4):=by
 intro M A ρ a w n L xs h hx
 have hM: ∀ (ρ0:Env),(fun b=>nE ρ0 [] b∨w.heap.size≤b)=fun b=>w.heap.size≤b:=by
  intro ρ0
  funext b
  simp[nE,find]
 have empty:HR (fun b=>nE (fun _=>none) [] b∨w.heap.size≤b) (fun _=>False) (fun _=>none) (aZ 4) [] w:=
  ⟨rfl,rfl,fun t v hv=>by simp[find]at hv,fun id b hb=>by simp[find]at hb,fun id id' b b' c hb=>by simp[find]at hb,fun _ _=>rfl,fun _ h=>h.elim,fun b hb=> .inr hb,h.dm.sub (fun b hb hm=>hm.elim (fun ho=>by obtain⟨_,_,hf,_⟩:=ho;simp[find]at hf) (fun hl=>by omega)) (fun _ h=>h.elim)⟩
 have hx':zc w (fun _=>False) (fun _=>none) ts xs.toList:=⟨(fh hl).trans hx.1,fun k u x hu yo=>by
  obtain⟨c,hc,hlc⟩:=dk hl k u hu
  exact fE (st:=⟨n,L,hp⟩) h (fun _ hb=>hb.elim) (fun _ _ _ _ _ hb=>hb) hlc (hx.2 k c x hc yo) _⟩
 refine(hfn w (fun _=>False) (fun _=>none) xs empty hx').mono ?_
 rintro e w' ⟨x,A1,ρ1,F1,rfl,Sl,hr,dl,_,hg⟩
 rw[hM]at hr dl
 obtain⟨A2,ρ2,r1,r2,r3,r4,r5⟩:=Rel.import (st:=⟨n,L,hp⟩) h (nid:=ctr) (fun k h1 _=>h1) dl hr (fun b hb hA=>(hg.2 b hb hA).elim) Sl (.inr ⟨hfl,fun id blk hb=>by simp[find]at hb⟩)
 rw[V.nO hv]at r2
 exact⟨x,A2,ρ2,rfl,r1.sub fU,r2,r3,r4,r5⟩
theorem fS {call:rD Bool} {cY:rE Bool} {fuel:Nat} (hc:my P call) (hd:jF P cY) {f:FuncId} {fr:bA} (hok:aJ P f fr) {us:List W} {k:V→Bool}
 (h:nN false P call cY fuel fr us k=true): ∃v,Fn P f us [] v []∧v.bJ=true∧k v=true:=by
 unfold nN at h
 obtain⟨hn,h⟩:=bn h
 simp only[Nat.ble_eq]at hn
 rw[tM]at h
 obtain⟨fn,c,hf,hb,hrc,hnt,Hz,hds⟩:=hok
 obtain⟨e,aW,hp',bz,h1,h2⟩:=Dn (P:=P) hc hd hrc hds h
 have hrun: ∀c',(∃fn,P.funcs[f]? =some fn∧fn.body=some c')→QI P fr.n c' (iX 0 us .nil) [] 4 e aW hp' bz:=by
  rintro c' ⟨fn',j8,hb'⟩
  rw[hf]at j8
  simp only[Option.some.injEq]at j8
  subst j8
  rw[hb]at hb'
  simp only[Option.some.injEq]at hb'
  subst hb'
  exact h2
 have fin:oZ e→th false aW hp' fr.res (fun vs=>nj (Gq false hp') vs fun ts=>k (aO ts))=true→ ∃v,Fn P f us [] v []∧v.bJ=true∧k v=true:=by
  intro he hr
  obtain⟨vs,h3,h4⟩:=sC Hz hr
  obtain⟨ts,h5,h6⟩:=j4 (fun x k h=>CR h) h4
  refine⟨aO ts,Ee ⟨fn,c,hf,hb,hrc,hnt,Hz,hds⟩ hn he hrun (fun fn' j8=>?_) h5,?_,h6⟩
  · rw[hf]at j8
    simp only[Option.some.injEq]at j8
    subst j8
    exact h3
  · refine oE ?_
    rw[List.all_eq_true]
    intro u hu
    obtain⟨k',hk',Ok⟩:=List.getElem_of_mem hu
    obtain⟨v,_,Al⟩:=dk h5 k' u (by rw[←Ok];simp[hk'])
    exact eV Al
 cases e with
 |normal=>exact fin (.inl rfl) h1
 |ret=>exact fin (.inr rfl) h1
 |_=>simp at h1
theorem o6 {call:rD Bool} {cY:rE Bool} {fuel:Nat} (hc:my P call) (hd:jF P cY) {f:FuncId} {fr:bA} (hok:aJ P f fr) {us:List W} {hp:HS} {ctr:Nat} {K:V→HS→Nat→Bool}
 (h:yn false P call cY fuel fr us hp ctr K=true): ∃v hp' bz,fu P f us hp ctr v hp' bz∧K v hp' bz=true:=by
 unfold yn at h
 obtain⟨hn,h⟩:=bn h
 simp only[Nat.ble_eq]at hn
 rw[tM]at h
 obtain⟨fn,c,hf,hb,hrc,hnt,Hz,hds⟩:=hok
 obtain⟨e,aW,hp',bz,h1,h2⟩:=Dn (P:=P) hc hd hrc hds h
 have hrun: ∀c',(∃fn,P.funcs[f]? =some fn∧fn.body=some c')→QI P fr.n c' (iX 0 us .nil) hp ctr e aW hp' bz:=by
  rintro c' ⟨fn',j8,hb'⟩
  rw[hf]at j8
  simp only[Option.some.injEq]at j8
  subst j8
  rw[hb]at hb'
  simp only[Option.some.injEq]at hb'
  subst hb'
  exact h2
 have fin:oZ e→th false aW hp' fr.res (fun vs=>K (aO vs) hp' bz)=true→ ∃v hp' bz,fu P f us hp ctr v hp' bz∧K v hp' bz=true:=by
  intro he hr
  obtain⟨vs,h3,h4⟩:=sC Hz hr
  refine⟨aO vs,hp',bz,uM ⟨fn,c,hf,hb,hrc,hnt,Hz,hds⟩ hn he hrun (fun fn' j8=>?_),h4⟩
  rw[hf]at j8
  simp only[Option.some.injEq]at j8
  subst j8
  exact h3
 cases e with
 |normal=>exact fin (.inl rfl) h1
 |ret=>exact fin (.inr rfl) h1
 |_=>simp at h1
def Dm (P:Program) (ej:Nat→Option bA):Prop:= ∀f fr,ej f=some fr→aJ P f fr
def bk (P:Program) (Cs:Nat→List W→Option V):Prop:= ∀f us v,Cs f us=some v→Fn P f us [] v []∧v.bJ=true
theorem qV {ej:Nat→Option bA} {Cs:Nat→List W→Option V} {fuel:Nat} (D5:Dm P ej) (BD:bk P Cs): ∀d,my P (cc false P ej Cs fuel d).1∧jF P (cc false P ej Cs fuel d).2
 |0=>⟨fun f us hp ctr K h=>by simp[cc]at h,fun f us hp ctr K h=>by simp[cc]at h⟩
 |d+1=>by
  obtain⟨P4,P3⟩:=qV D5 BD (fuel:=fuel) d
  refine⟨fun f us hp ctr K h=>?_,fun f us hp ctr K h=>?_⟩
  · simp only[cc]at h
    split at h
    · rename_i fr hfr
      have hok:=D5 f fr hfr
      cases hi:fr.inl with
      |true=>
       rw[hi]at h
       exact o6 P4 P3 hok h
      |false=>
       rw[hi]at h
       simp only[fI]at h
       cases hT:sx us with
       |true=>
        rw[hT]at h
        simp only at h
        split at h
        · rename_i v hv
          rw[df]at h
          obtain⟨h1,h2⟩:=BD f us v hv
          exact⟨v,hp,ctr+4,mr (eJ h2 hT h1),h⟩
        · obtain⟨v,h1,h2,h3⟩:=fS P4 P3 hok h
          rw[df]at h3
          exact⟨v,hp,ctr+4,mr (eJ h2 hT h1),h3⟩
       |false=>
        rw[hT]at h
        simp only at h
        cases hfl:(fr.flat&& (bB (bH hp) us).isSome)with
        |true=>
         rw[hfl]at h
         simp only at h
         obtain⟨ts,hts,h⟩:=j4 (fun x k h=>CR h) h
         split at h
         · rename_i v hv
           have D3:v.flat=true∧(mH (ctr+4) fun c=>K v hp c)=true:=bn h
           rw[df]at D3
           obtain⟨h1,h2⟩:=BD f ts v hv
           exact⟨v,hp,ctr+4,kS h2 hts D3.1 h1,D3.2⟩
         · obtain⟨v,h1,h2,h3⟩:=fS P4 P3 hok h
           have D3:v.flat=true∧(mH (ctr+4) fun c=>K v hp c)=true:=bn h3
           rw[df]at D3
           exact⟨v,hp,ctr+4,kS h2 hts D3.1 h1,D3.2⟩
        |false=>
         rw[hfl]at h
         exact o6 P4 P3 hok h
    · simp at h
  · simp only[cc]at h
    split at h
    · rename_i fr hfr
      have hok:=D5 f fr hfr
      cases hT:sx us with
      |true=>
       rw[hT]at h
       simp only[fI]at h
       split at h
       · rename_i v hv
         obtain⟨h1,h2⟩:=BD f us v hv
         exact⟨v,hp,eJ h2 hT h1,h⟩
       · obtain⟨v,h1,h2,h3⟩:=fS P4 P3 hok h
         exact⟨v,hp,eJ h2 hT h1,h3⟩
      |false=>
       rw[hT]at h
       simp only[fI]at h
       split at h
       · rename_i ts hts
         split at h
         · rename_i v hv
           have D3:v.flat=true∧K v hp=true:=bn h
           obtain⟨h1,h2⟩:=BD f ts v hv
           exact⟨v,hp,ri h2 hts D3.1 h1,D3.2⟩
         · obtain⟨v,h1,h2,h3⟩:=fS P4 P3 hok h
           have D3:v.flat=true∧K v hp=true:=bn h3
           exact⟨v,hp,ri h2 hts D3.1 h1,D3.2⟩
       · simp at h
    · simp at h
def GU:Value→Value→Bool
 | .int k a, .int k' b=>Nat.beq (BA k) (BA k')&&OV a b
 | .bool a, .bool b=>a==b
 | .string a, .string b=>a.data.toList==b.data.toList
 | .slice none 0 0, .slice none 0 0=>true
 |_,_=>false
theorem GS {a b:Value} (h:GU a b=true):a=b:=by
 unfold GU at h
 split at h
 · simp only[Bool.and_eq_true,GW,beq_iff_eq]at h
   rw[CH h.1,h.2]
 · simp only[beq_iff_eq]at h;rw[h]
 · rename_i a b
   simp only[beq_iff_eq]at h
   congr 1
   cases a;cases b
   congr 1
   exact Array.toList_inj.1 h
 · rfl
 · simp at h
mutual
def OU:T→T→Bool
 | .val a, .val b=>GU a b
 | .ao sz xs, .ao sz' ys=>Nat.beq sz sz'&&xa xs ys
 |_,_=>false
def Eg:List T→List T→Bool
 | [],[]=>true
 |a::r,b::s=>OU a b&&Eg r s
 |_,_=>false
def xa:Lz→Lz→Bool
 | [],[]=>true
 |a::r,b::s=>Eg a b&&xa r s
 |_,_=>false
end
mutual
theorem GV: ∀ {a b:T},OU a b=true→a=b
 | .val a, .val b,h=>by simp only[OU]at h;rw[GS h]
 | .ao sz xs, .ao sz' ys,h=>by
   simp only[OU,Bool.and_eq_true,Nat.beq_eq]at h
   rw[h.1,AH h.2]
 | .val _, .ao ..,h=>by simp[OU]at h
 | .ao .., .val _,h=>by simp[OU]at h
theorem C3: ∀ {a b:List T},Eg a b=true→a=b
 | [],[],_=>rfl
 |a::r,b::s,h=>by
  simp only[Eg,Bool.and_eq_true]at h
  rw[GV h.1,C3 h.2]
 | [],_::_,h=>by simp[Eg]at h
 |_::_,[],h=>by simp[Eg]at h
theorem AH: ∀ {a b:Lz},xa a b=true→a=b
 | [],[],_=>rfl
 |a::r,b::s,h=>by
  simp only[xa,Bool.and_eq_true]at h
  rw[C3 h.1,AH h.2]
 | [],_::_,h=>by simp[xa]at h
 |_::_,[],h=>by simp[xa]at h
end
def eqC:C→C→Bool
 | .t a, .t b=>OU a b
 |_,_=>false
def Eh:List C→List C→Bool
 | [],[]=>true
 |a::r,b::s=>eqC a b&&Eh r s
 |_,_=>false
def eqW:W→W→Bool
 | .one a, .one b=>eqC a b
 | .agg a, .agg b=>Eh a b
 |_,_=>false
def AG:List W→List W→Bool
 | [],[]=>true
 |a::r,b::s=>eqW a b&&AG r s
 |_,_=>false
def eqV:V→V→Bool
 | .w a, .w b=>eqW a b
 | .dn a, .dn b=>AG a b
 |_,_=>false
theorem GX {a b:C} (h:eqC a b=true):a=b:=by
 cases a<;>cases b<;>simp[eqC]at h
 rw[GV h]
theorem C4: ∀ {a b:List C},Eh a b=true→a=b
 | [],[],_=>rfl
 |a::r,b::s,h=>by
  simp only[Eh,Bool.and_eq_true]at h
  rw[GX h.1,C4 h.2]
 | [],_::_,h=>by simp[Eh]at h
 |_::_,[],h=>by simp[Eh]at h
theorem GR {a b:W} (h:eqW a b=true):a=b:=by
 cases a<;>cases b<;>simp[eqW]at h
 · rw[GX h]
 · rw[C4 h]
theorem yM: ∀ {a b:List W},AG a b=true→a=b
 | [],[],_=>rfl
 |a::r,b::s,h=>by
  simp only[AG,Bool.and_eq_true]at h
  rw[GR h.1,yM h.2]
 | [],_::_,h=>by simp[AG]at h
 |_::_,[],h=>by simp[AG]at h
theorem OT {a b:V} (h:eqV a b=true):a=b:=by
 cases a<;>cases b<;>simp[eqV]at h
 · rw[GR h]
 · rw[yM h]
theorem aN {ej:Nat→Option bA} {Cs:Nat→List W→Option V} {fuel d:Nat} (D5:Dm P ej) (BD:bk P Cs) {f:FuncId} {fr:bA} (hfr:ej f=some fr) {us:List W} {v:V}
 (h:nN false P (cc false P ej Cs fuel d).1 (cc false P ej Cs fuel d).2 fuel fr us (fun v'=>eqV v' v)=true):Fn P f us [] v []∧v.bJ=true:=by
 obtain⟨h1,h2⟩:=qV D5 BD (fuel:=fuel) d
 obtain⟨v',h3,h4,h5⟩:=fS h1 h2 (D5 f fr hfr) h
 have:=OT h5
 subst this
 exact⟨h3,h4⟩
end Go.aU
end
section
namespace Go.aU.Cd
open Go
abbrev t (n:Nat):cL:= .t n
abbrev k (n:Int):cL:= .c (iV .i64 n)
abbrev kb (b:Bool):cL:= .c (bV b)
abbrev kn:cL:= .c (.w (.one (.t (.val (.slice none 0 0)))))
abbrev p (d:Nat) (r:Ro):fe:=⟨some d,none,r⟩
abbrev q (r:Ro):fe:=⟨none,none,r⟩
abbrev i (n:Int):T:= .val (.int .i64 n)
abbrev u (n:Int):T:= .val (.int .u32 n)
abbrev bo (b:Bool):T:= .val (.bool b)
abbrev nl:T:= .val (.slice none 0 0)
abbrev Mv (d s:Nat):fe:=p d (.hY (t s))
abbrev Ld (d s:Nat):fe:=p d (.load none (t s))
abbrev Lo (z d s:Nat):fe:=p d (.load (some z) (t s))
abbrev Fa (d o s:Nat):fe:=p d (.uy o (t s))
abbrev Le (d s:Nat):fe:=p d (.len (t s))
abbrev Ia (d z a b:Nat):fe:=p d (.dB z (t a) (t b))
abbrev So (z a b:Nat):fe:=q (.store z (t a) (t b))
abbrev Mk (d:Nat) (n:Int):fe:=p d (.hY (k n))
abbrev Bt (d:Nat) (o:BinOp) (a b:Nat):fe:=p d (.bin o (t a) (t b))
abbrev Bi (d:Nat) (o:BinOp) (a:Nat) (n:Int):fe:=p d (.bin o (t a) (k n))
abbrev Et (d s n:Nat):fe:=p d (.extract (t s) n)
abbrev Pt (d a b:Nat):fe:=p d (.pick (t a) (kb true) (t b))
abbrev Pf (d a b:Nat):fe:=p d (.pick (t a) (t b) (kb false))
abbrev Bx (d s:Nat):fe:=p d (.box (t s))
abbrev Nt (d s:Nat):fe:=p d (.not (t s))
abbrev Mb (d:Nat) (b:Bool):fe:=p d (.hY (kb b))
abbrev Mn (d:Nat):fe:=p d (.hY kn)
abbrev zi:C:= .t (.val (.int .i64 0))
abbrev zn:C:= .t (.val (.slice none 0 0))
abbrev zb:C:= .t (.val (.bool false))
abbrev Ga (g:Nat) (r:fe):fe:=⟨r.dst,some (g,false),r.op⟩
abbrev Gb (g:Nat) (r:fe):fe:=⟨r.dst,some (g,true),r.op⟩
abbrev Rg (l:List fe):Rc:= .region l
abbrev Dr (l:List fe) (e:List (List Nat)):Rc:= .draw l e
abbrev Sq (a b:Rc):Rc:= .seq a b
abbrev Cn (n:Nat) (a b:Rc):Rc:= .cond (t n) a b
abbrev Bk (n:Nat) (b:Rc):Rc:= .block n b
abbrev Lp (b:Rc):Rc:= .loop b
abbrev Ex (n:Nat):Rc:= .exit n
abbrev Sk:Rc:= .skip
abbrev Rt:Rc:= .ret
variable {P:Program}
def Hw (P:Program):List (Nat×bA)→Prop
 | []=>True
 |(f,fr)::r=>aJ P f fr∧Hw P r
theorem AA: ∀ {l:List (Nat×bA)},Hw P l→Dm P (find l)
 | [],_,f,fr,h=>by simp[find]at h
 |(g,gr)::r,hl,f,fr,h=>by
  rw[aj]at h
  split at h
  · rename_i e
    subst e
    simp only[Option.some.injEq]at h
    subst h
    exact hl.1
  · exact AA hl.2 f fr h
def bi:List (Nat×List W×V)→Nat→List W→Option V
 | [],_,_=>none
 |(g,ar,v)::r,f,us=>fI (Nat.beq g f&&AG ar us) (some v) (bi r f us)
theorem HV:bk P (bi []):=fun f us v h=>by simp[bi]at h
theorem aH {l:List (Nat×List W×V)} {g:Nat} {ar:List W} {v:V} (h:bk P (bi l)) (he:Fn P g ar [] v []∧v.bJ=true):bk P (bi ((g,ar,v)::l)):=by
 intro f us v' hv
 simp only[bi]at hv
 cases hc:(Nat.beq g f&&AG ar us)with
 |true=>
  rw[hc]at hv
  simp only[fI,Option.some.injEq]at hv
  subst hv
  simp only[Bool.and_eq_true,Nat.beq_eq]at hc
  obtain⟨rfl,h2⟩:=hc
  rw[←yM h2]
  exact he
 |false=>
  rw[hc]at hv
  exact h f us v' hv
end Go.aU.Cd
end
section
namespace Go.aU
open Go
variable {P:Program} {M A:Nat→Prop} {ρ:Env} {F:Nat→Prop} {st:St} {a:Act} {w:World}
theorem kq.Jj {ops:Array Oper} {i:Nat} {K:St→Nat→Prop} {ctr:Nat} (h:kq P ops i K st ctr): ∃st' c',K st' c'∧kq P ops i (fun s c=>s=st'∧c=c') st ctr:=by
 unfold kq at h⊢
 split at h
 · exact⟨st,ctr,h,⟨rfl,rfl⟩⟩
 · obtain⟨hd,h⟩:=h
   split at h
   · exact h.elim
   · rename_i hg
     exact⟨_,_,h,hd,by simp only[hg];exact⟨trivial,trivial⟩⟩
   · rename_i hg
     rcases h with h|h
     · obtain⟨g,us,hc,he,v,heap',c',h1,h2⟩:=h
       exact⟨_,_,h2,hd,by simp only[hg];refine .inl ⟨g,us,hc,he,v,heap',c',h1,?_⟩;first|trivial|exact⟨rfl,rfl⟩|exact⟨trivial,trivial⟩⟩
     · obtain⟨v,heap',h1,h2⟩:=h
       exact⟨_,_,h2,hd,by simp only[hg];refine .inr ⟨v,heap',h1,?_⟩;first|trivial|exact⟨rfl,rfl⟩|exact⟨trivial,trivial⟩⟩
theorem Hi.toWp {ops:Array Oper} {o:Oper} {i n:Nat} {x:Ro} {g:Option (Nat×Bool)} {ctr:Nat} {tm:TS} {hp:HS} {K:TS→HS→Nat→Prop}
 (hi:ops[i]? =some o) (hx:aV P o=some x) (hgd:gm ops o g) (h:Hi P n ⟨o.dst,g,x⟩ tm hp ctr K):
 ∃aW,(∀t,find aW t=find tm t)∧kq P ops i (lS n K) ⟨n,aW,hp⟩ ctr:=by
 unfold Hi at h
 split at h
 · exact h.elim
 · rename_i hd
   simp only at hd
   have fW: ∀ {aW:TS},(∀t,find aW t=find tm t)→aP ops o aW=some false→K (cN aW o.dst (.dn [])) hp ctr→ ∃aW,(∀t,find aW t=find tm t)∧kq P ops i (lS n K) ⟨n,aW,hp⟩ ctr:=by
    intro aW he iE hK
    refine⟨aW,he,?_⟩
    unfold kq
    simp only[hi]
    refine⟨hd,?_⟩
    simp only[iE,eB]
    exact⟨rfl,hK⟩
   have wanted: ∀ {aW:TS},(∀t,find aW t=find tm t)→aP ops o aW=some true→sy P n ⟨o.dst,g,x⟩ aW hp ctr K→ ∃aW,(∀t,find aW t=find tm t)∧kq P ops i (lS n K) ⟨n,aW,hp⟩ ctr:=by
    intro aW he iE hX
    exact⟨aW,he,sy.wpOp (st:=⟨n,aW,hp⟩) hi hx hd iE hX⟩
   rcases hgd with⟨yD,rfl⟩|⟨j,want,d,yD,hj,rfl⟩
   · simp only at h
     exact wanted (fun _=>rfl) (by simp[aP,yD]) h
   · have ec: ∀ {aW:TS} {b:Bool},find aW d=some (bV b)→aP ops o aW=some (b==want):=by
      intro aW b hf
      simp only[aP,yD,hj,hf]
     simp only at h
     split at h
     · rename_i b hf
       have lit: ∀ {c:Bool},b=c→ ∀t,find ((d,bV c)::tm) t=find tm t:=by
        intro c hb t
        subst hb
        simp only[aj]
        split
        · rename_i e;subst e;exact hf.symm
        · rfl
       split at h
       · rcases iM h with⟨hb,h⟩|⟨hb,h⟩
         · exact wanted (lit hb) (by rw[ec (b:=true) (by simp[aj])];rfl) h
         · exact fW (lit hb) (by rw[ec (b:=false) (by simp[aj])];rfl) h
       · rcases iM h with⟨hb,h⟩|⟨hb,h⟩
         · exact fW (lit hb) (by rw[ec (b:=true) (by simp[aj])];rfl) h
         · exact wanted (lit hb) (by rw[ec (b:=false) (by simp[aj])];rfl) h
     · rename_i hf
       exact fW (fun _=>rfl) (by simp only[aP,yD,hj,hf]) h
     · exact h.elim
theorem oq {K:TS→HS→Nat→Prop} {Q:Exit→TS→HS→Nat→Prop} {e:Exit} (h:e≠ .normal):ff K Q e=Q e:=by
 cases e<;>first|rfl|exact absurd rfl h
theorem zw {K:St→Nat→Prop} {Q:Exit→St→Nat→Prop} {e:Exit} (h:e≠ .normal):E1 K Q e=Q e:=by
 cases e<;>first|rfl|exact absurd rfl h
theorem wm {id:Nat} {Q:Exit→TS→HS→Nat→Prop} {e:Exit} (h: ∀i,e≠ .exit i):pU id Q e=Q e:=by
 cases e<;>first|rfl|exact absurd rfl (h _)
theorem xl {id:Nat} {Q:Exit→St→Nat→Prop} {e:Exit} (h: ∀i,e≠ .exit i):mu id Q e=Q e:=by
 cases e<;>first|rfl|exact absurd rfl (h _)
def Is (st':St) (c':Nat):St→Nat→Prop:=fun s c=>s=st'∧c=c'
theorem gP.Jj {ops:Array Oper} {n:Nat} {K:TS→HS→Nat→Prop}: ∀ {l:List Oper} {rs:List fe} {k:Nat} {tm:TS} {hp:HS} {ctr:Nat},
 (∀j,ops[k+j]? =l[j]?)→aM P ops l=some rs→gP P n rs tm hp ctr K→
 ∃st' c',lS n K st' c'∧ ∀ (M A:Nat→Prop) (ρ:Env) (a:Act) (w:World) (Q:Exit→Act→World→Prop),Rel M A ρ (aZ ctr) ⟨n,tm,hp⟩ a w→(∀a' w',Post M A ρ w (Is st' c') a' w'→Q .normal a' w')→
  wpOps P ops Q (List.range' k l.length) a w
 | [],rs,k,tm,hp,ctr,hl,dV,h=>by
   simp only[aM,Option.some.injEq]at dV
   subst dV
   exact⟨⟨n,tm,hp⟩,ctr,⟨rfl,h⟩,fun M A ρ a w Q hr hq=>hq _ _ (Post.here hr ⟨rfl,rfl⟩)⟩
 |o::l,rs,k,tm,hp,ctr,hl,dV,h=>by
  simp only[aM]at dV
  split at dV
  · rename_i x l' hx hl'
    have hi:ops[k]? =some o:=by simpa using hl 0
    obtain⟨g,rfl,hgd⟩:=iY dV
    simp only[gP]at h
    obtain⟨aW,he,hw⟩:=Hi.toWp (ops:=ops) hi hx hgd h
    obtain⟨Dy,c1,⟨mE,hK1⟩,zg⟩:=kq.Jj hw
    obtain⟨n1,kr,iw⟩:=Dy
    simp only at mE hK1
    subst mE
    obtain⟨Cu,c2,hK2,Sj⟩:=gP.Jj (k:=k+1) (fun j=>by have:=hl (j+1);rw[show k+1+j=k+(j+1) by omega,this];simp) hl' hK1
    refine⟨Cu,c2,hK2,fun M A ρ a w Q hr hq=>?_⟩
    rw[List.length_cons,List.range'_succ,wpOps_cons]
    have cO:Rel M A ρ (aZ ctr) ⟨n1,aW,hp⟩ a w:=hr.forget rfl (fun t v hv=>by rw[←he t];exact hv) (fun _ _ hb=>hb)
    refine kq.sound zg cO fun a' w' hp'=>?_
    obtain⟨st',c',A',ρ',⟨rfl,rfl⟩,h2,h3,h4,h5⟩:=hp'
    exact Sj M A' ρ' a' w' Q h2 fun a2 w2 hp2=>hq _ _ (hp2.trans h3 h4 h5)
  · simp at dV
theorem X.Jj {n:Nat}: ∀ {c:Code} {r:Rc},ae P c=some r→ ∀ {Q:Exit→TS→HS→Nat→Prop} {tm:TS} {hp:HS} {ctr:Nat},X P n r Q tm hp ctr→
 ∃e st' c',lS n (Q e) st' c'∧Wp P c (fun e2 s c=>e2=e∧Is st' c' s c) ⟨n,tm,hp⟩ ctr:=by
 intro c
 induction c with
 |skip=>
  intro r hr Q tm hp ctr h
  simp only[ae,Option.some.injEq]at hr
  subst hr
  exact⟨.normal,⟨n,tm,hp⟩,ctr,⟨rfl,h⟩,Wp.skip ⟨rfl,rfl,rfl⟩⟩
 |ret=>
  intro r hr Q tm hp ctr h
  simp only[ae,Option.some.injEq]at hr
  subst hr
  exact⟨.ret,⟨n,tm,hp⟩,ctr,⟨rfl,h⟩,Wp.ret ⟨rfl,rfl,rfl⟩⟩
 |exit id=>
  intro r hr Q tm hp ctr h
  simp only[ae,Option.some.injEq]at hr
  subst hr
  exact⟨.exit id,⟨n,tm,hp⟩,ctr,⟨rfl,h⟩,Wp.exit ⟨rfl,rfl,rfl⟩⟩
 |seq x y FO FN=>
  intro r hr Q tm hp ctr h
  simp only[ae]at hr
  split at hr
  · rename_i rx ry hx hy
    simp only[Option.some.injEq]at hr
    subst hr
    simp only[X]at h
    obtain⟨e1,Dy,c1,⟨mE,h1⟩,w1⟩:=FO hx h
    obtain⟨n1,kr,iw⟩:=Dy
    simp only at mE h1
    subst mE
    by_cases jN:e1= .normal
    · subst jN
      obtain⟨e2,Cu,c2,h2,w2⟩:=FN hy h1
      refine⟨e2,Cu,c2,h2,Wp.seq (w1.mono ?_)⟩
      rintro e s c ⟨rfl,rfl,rfl⟩
      exact w2
    · rw[oq jN]at h1
      refine⟨e1,⟨n1,kr,iw⟩,c1,⟨rfl,h1⟩,Wp.seq (w1.mono ?_)⟩
      rintro e s c ⟨rfl,rfl,rfl⟩
      rw[zw jN]
      exact⟨rfl,rfl,rfl⟩
  · simp at hr
 |cond c x y FO FN=>
  intro r hr Q tm hp ctr h
  simp only[ae]at hr
  split at hr
  · rename_i rx ry hx hy
    simp only[Option.some.injEq]at hr
    subst hr
    simp only[X]at h
    split at h
    · rename_i b hb
      have hb':((⟨n,tm,hp⟩:St).get c).fq =some b:=by rw[←bh];exact hb
      rcases iM h with⟨rfl,h⟩|⟨rfl,h⟩
      · obtain⟨e,s,c',h1,h2⟩:=FO hx h
        exact⟨e,s,c',h1,Wp.cond hb' h2⟩
      · obtain⟨e,s,c',h1,h2⟩:=FN hy h
        exact⟨e,s,c',h1,Wp.cond hb' h2⟩
    · exact h.elim
  · simp at hr
 |block id b ih=>
  intro r hr Q tm hp ctr h
  simp only[ae]at hr
  split at hr
  · rename_i rb hb
    simp only[Option.some.injEq]at hr
    subst hr
    simp only[X]at h
    obtain⟨e1,Dy,c1,⟨mE,h1⟩,w1⟩:=ih hb h
    cases e1 with
    |exit id'=>
     simp only[pU]at h1
     split at h1
     · rename_i bG
       refine⟨_,_,_,⟨mE,h1⟩,Wp.block (w1.mono ?_)⟩
       rintro e s c ⟨rfl,rfl,rfl⟩
       simp only[mu,bG,if_true]
       exact⟨trivial,rfl,rfl⟩
     · rename_i bG
       refine⟨_,_,_,⟨mE,h1⟩,Wp.block (w1.mono ?_)⟩
       rintro e s c ⟨rfl,rfl,rfl⟩
       simp only[mu,bG,if_false]
       exact⟨trivial,rfl,rfl⟩
    |_=>
     rw[wm (by simp)]at h1
     refine⟨_,Dy,c1,⟨mE,h1⟩,Wp.block (w1.mono ?_)⟩
     rintro e s c ⟨rfl,rfl,rfl⟩
     rw[xl (by simp)]
     exact⟨rfl,rfl,rfl⟩
  · simp at hr
 |loop b ih=>
  intro r hr Q tm hp ctr h
  simp only[ae]at hr
  split at hr
  · rename_i rb hb
    simp only[Option.some.injEq]at hr
    subst hr
    simp only[X]at h
    obtain⟨I,arG,tQ⟩:=h
    obtain⟨rG,lX,c0,Hy,m,hI⟩:=arG.get
    have key: ∀ (m:Nat) (tm:TS) (hp:HS) (c:Nat),I m tm hp c→ ∃e st' c',lS n (Q e) st' c'∧ ∀ (M A:Nat→Prop) (ρ:Env) (a:Act) (w:World) (b':Frame) (kk:List _) (cs:List _),Rel M A ρ (aZ c) ⟨n,tm,hp⟩ a w→
     ∃a' w',Post M A ρ w (Is st' c') a' w'∧Arrives P (lone (b'.at a (.code b:: .inLoop b::kk)) cs w) b' kk cs e a' w':=by
     intro m
     induction m using Nat.strongRecOn with
     |_ m ihm=>
      intro tm hp c hI
      obtain⟨e1,Dy,c1,⟨mE,h1⟩,w1⟩:=ih hb (tQ m tm hp c hI)
      obtain⟨n1,kr,iw⟩:=Dy
      simp only at mE h1
      subst mE
      by_cases jN:e1= .normal
      · subst jN
        obtain⟨tm3,P7,c3,hw3,m',hm',OB⟩:=bI.get h1
        obtain⟨e2,Cu,c2,h2,pO⟩:=ihm m' hm' _ _ _ OB
        refine⟨e2,Cu,c2,h2,fun M A ρ a w b' kk cs hr=>?_⟩
        obtain⟨e,a1,xB,⟨rfl,st',c',A',ρ',⟨rfl,rfl⟩,r2,r3,r4,r5⟩,eG⟩:=(by
         obtain⟨e,a1,xB,iw,eG⟩:=w1 M A ρ a w hr b' (.inLoop b::kk) cs
         obtain⟨st',c',A',ρ',⟨he,hs⟩,r⟩:=iw
         exact⟨e,a1,xB,⟨he,st',c',A',ρ',hs,r⟩,eG⟩: ∃e a1 xB,(e=Exit.normal∧ ∃st' c' A' ρ',Is ⟨n1,kr,iw⟩ c1 st' c'∧Rel M A' ρ' (aZ c') st' a1 xB∧cz M w xB∧gR ρ ρ'∧eY M A A' w)∧Arrives P (lone (b'.at a (.code b:: .inLoop b::kk)) cs w) b' (.inLoop b::kk) cs e a1 xB)
        obtain⟨A2,ρ2,rR,Qv,yC⟩:=hw3 _ _ _ _ _ _ r2
        obtain⟨a2,w2,hp2,o8⟩:=pO M A2 ρ2 a1 xB b' kk cs rR
        exact⟨a2,w2,hp2.trans r3 (r4.trans Qv) (r5.trans yC r3.size), .of_steps (Steps.trans eG (.one step_inLoop)) o8⟩
      · rw[oq jN]at h1
        refine⟨e1,⟨n1,kr,iw⟩,c1,⟨rfl,h1⟩,fun M A ρ a w b' kk cs hr=>?_⟩
        obtain⟨e,a1,xB,Ob,eG⟩:=w1 M A ρ a w hr b' (.inLoop b::kk) cs
        obtain⟨st',c',A',ρ',⟨rfl,hs⟩,r⟩:=Ob
        refine⟨a1,xB,⟨st',c',A',ρ',hs,r⟩,?_⟩
        cases e with
        |normal=>exact absurd rfl jN
        |_=>exact .pass (x:= .inLoop b) rfl (fun _ _=> .inl (by simp)) eG
    obtain⟨e,st',c',h1,h2⟩:=key m _ _ _ hI
    refine⟨e,st',c',h1,Wp.Bg (st:=⟨n,tm,hp⟩) Hy ?_⟩
    intro M A ρ a w hr b' kk cs
    obtain⟨a',w',hp',eG⟩:=h2 M A ρ a w b' kk cs hr
    obtain⟨s1,s2,s3,s4,s5,s6⟩:=hp'
    exact⟨e,a',w',⟨s1,s2,s3,s4,⟨rfl,s5⟩,s6⟩, .of_steps (.one step_loop) eG⟩
  · simp at hr
 |region id ops d=>
  intro r hr Q tm hp ctr h
  cases d with
  |true=>
   simp only[ae]at hr
   split at hr
   · rename_i l hl
     split at hr
     · rename_i hc
       simp only[Bool.and_eq_true]at hc
       simp only[Option.some.injEq]at hr
       subst hr
       simp only[X]at h
       obtain⟨tmT,hpT,v,fs,⟨q0,q1⟩,_,q3,q4,q5⟩:=pH.trace (P:=P) (ops:=ops) (n:=n) (base:=ctr) (k:=0) (fun j=>by simp) hl rfl (by simpa using h)
       simp only[Nat.zero_add]at q1 q5
       refine⟨.normal,⟨n,tmT ops.size,hpT ops.size⟩,ctr+4 * ops.size,⟨rfl,by simpa using q1⟩,?_⟩
       intro M A ρ a w bL
       have Ag:Rel M A ρ (aZ ctr) ⟨n,tmT 0,hpT 0⟩ a w:=bL.forget rfl (fun t u hu=>by rw[←q3 t];exact hu) (fun k b hb=>by rw[q4]at hb;exact hb)
       refine uD hc.1 (fun i o ho=>q5 i o (by simpa using ho)) (fun i o ho e he=>?_) q0 Ag ?_
       · have:=iL hc.2 i (aX o) (by simp[ho]) e he
         omega
       · rintro a' w' ⟨st',c',A',ρ',⟨rfl,rfl⟩,h2⟩
         exact⟨_,_,A',ρ',⟨rfl,rfl,rfl⟩,h2⟩
     · simp at hr
   · simp at hr
  |false=>
   simp only[ae]at hr
   split at hr
   · rename_i l hl
     simp only[Option.some.injEq]at hr
     subst hr
     simp only[X]at h
     obtain⟨st',c',h1,h2⟩:=gP.Jj (P:=P) (ops:=ops) (k:=0) (l:=ops.toList) (fun j=>by simp) hl h
     refine⟨.normal,st',c',h1,fun M A ρ a w bL=>wp_region ?_⟩
     have:=h2 M A ρ a w (fun e a' w'=>Post M A ρ w (fun s c=>e= .normal∧Is st' c' s c) a' w') bL (fun a' w' hp=>by
      obtain⟨s1,s2,s3,s4,s5,s6⟩:=hp
      exact⟨s1,s2,s3,s4,⟨rfl,s5⟩,s6⟩)
     rw[List.range_eq_range']
     simpa using this
   · simp at hr
 |_=>intro r hr;simp[ae]at hr
def M0 (P:Program) (rs:List ResultVar) (Good:List W→Prop):Exit→TS→HS→Nat→Prop
 | .normal,tm,hp,_| .ret,tm,hp,_=> ∃us ts,aE P hp tm rs=some us∧bB (bH hp) us=some ts∧Good ts
 |_,_,_,_=>False
theorem ah {f:FuncId} {fn:Func} {c:Code} {r:Rc} {args:List W} {n:Nat} {rs:List ResultVar} {Good:List W→Prop} (hf:P.funcs[f]? =some fn) (hb:fn.body=some c) (hr:ae P c=some r)
 (hn:fn.ntmps=n) (dV:fn.results.toList=rs) (hl:args.length≤n) (h:X P n r (M0 P rs Good) (cE 0 args) [] 4): ∃ts,Fn P f args [] (aO ts) []∧(aO ts).bJ=true∧Good ts:=by
 subst hn
 subst dV
 obtain⟨e,st',c',⟨hn',hq⟩,hw⟩:=X.Jj hr h
 obtain⟨n',aW,hp'⟩:=st'
 simp only at hn' hq
 subst hn'
 have main: ∀us ts,oZ e→aE P hp' aW fn.results.toList=some us→bB (bH hp') us=some ts→Good ts→ ∃ts,Fn P f args [] (aO ts) []∧(aO ts).bJ=true∧Good ts:=by
  intro vs ts he eU hts hg
  refine⟨ts,?_,oE ?_,hg⟩
  · intro w A ρ xs hH hxs
    refine calls_of_wp hf hb ?_
    have hl':args.length=xs.size:=by simpa using hxs.1
    have bL:Rel (fun b=>nE ρ [] b∨w.heap.size≤b) A ρ (aZ 4) ⟨fn.ntmps,cE 0 args,[]⟩ {tmps:=xs++Array.replicate (fn.ntmps - xs.size) undef,defers:=[]} w:=by
     refine⟨by simp;omega,rfl,fun t v hv=>?_,hH.heap,hH.inj,hH.fresh,hH.bound,hH.may,hH.dm⟩
     obtain⟨_,u,hu,rfl⟩:=dA _ _ _ _ hv
     simp only[Nat.sub_zero]at hu
     have ht:t < xs.size:=by rw[←hl'];exact(List.getElem?_eq_some_iff.1 hu).1
     have yo:xs.toList[t]? =some xs[t]:=by simp[ht]
     have:=hxs.2 t u _ hu yo
     have e:(xs++Array.replicate (fn.ntmps - xs.size) undef).getD t undef=xs[t]:=by simp[Array.getD_eq_getD_getElem?,Array.getElem?_append_left ht,ht]
     rw[e]
     exact this
    refine wp_mono (hw _ A ρ _ w bL) ?_
    rintro e2 a' w' ⟨Cu,c2,A',ρ',⟨rfl,rfl,rfl⟩,cO,dl,ca,Kr⟩
    have iE:=qt hH.bound Kr
    obtain⟨ws,hvs,hR⟩:=dh cO eU
    have hm:(fn.results.mapM fun(r:ResultVar)=>match r with
     | .tmp t=>(pure (a'.tmps.getD t undef):Sem Value)
     | .cell b t=>do loadVar t (←asAddr (a'.tmps.getD b undef))).run P w'= .ok ws.toArray w':=by
     rw[Array.mapM_eq_mapM_toList]
     simp only[Sem.run_map]
     exact(congrArg (fun r:Result (List Value)=>Result.andThen r fun a w'=>Result.ok a.toArray w') hvs).trans rfl
    have hrun:(results fn a'.tmps).run P w'= .ok (if h:ws.toArray.size=1 then ws.toArray[0]else .tuple ws.toArray) w':=by
     show(Bind.bind (fn.results.mapM fun(r:ResultVar)=>match r with
      | .tmp t=>(pure (a'.tmps.getD t undef):Sem Value)
      | .cell b t=>do loadVar t (←asAddr (a'.tmps.getD b undef))) fun vs=>Pure.pure (if h:vs.size=1 then vs[0]else .tuple vs)).run P w'=_
     rw[Sem.run_bind,hm]
     rfl
    have hB: ∀id blk b,find hp' id=some blk→ρ' id=some (.eM b)→¬A b:=by
     intro id blk b hf hρ hA
     have hM:=(Rel.own cO hf hρ).1
     rcases hM with⟨id',eX,j8,_⟩|hM
     · simp[find]at j8
     · have:=hH.bound b hA
       omega
    have hlen:=fh hts
    have one: ∀ (k:Nat) (u:W) (y:Value),ts[k]? =some u→(∀v,vs[k]? =some v→RW w' A' ρ' v y)→RW w' A ρ u y:=by
     intro k u y hu hv
     obtain⟨v,iv,Al⟩:=dk hts k u hu
     exact fE cO (fun b hb=>iE.1 b hb) hB Al (hv v iv) ρ
    have fin:a'.defers=[]∧ ∃v,(results fn a'.tmps).run P w'= .ok v w'∧ ∃x A' ρ' F',Ending.returned v= .returned x∧RV w' A' ρ' (aO ts) x∧HR (fun b=>nE ρ [] b∨w.heap.size≤b) A' ρ' F' [] w'∧
     cz (fun b=>nE ρ [] b∨w.heap.size≤b) w w'∧gR ρ ρ'∧bq A A' w:=by
     refine⟨cO.defers,_,hrun,_,A,ρ,aZ 4,rfl,?_,⟨rfl,rfl,fun t v hv=>by simp[find]at hv,fun id blk hb=>by simp[find]at hb,fun id id' b b' q hb=>by simp[find]at hb,hH.fresh,fun b hb=>Nat.lt_of_lt_of_le (hH.bound b hb) dl.size,fun b hb=> .inr (Nat.le_trans dl.size hb),hH.dm.CZ dl (fun _ _ h=>h)⟩,dl,gR.refl _,bq.refl _ _⟩
     match vs,ws,ts,hR,hlen,one with
     | [],[],[],_,_,_=>exact⟨#[],by simp,rfl,by simp⟩
     | [u],[v],[t],hR,_,one=>exact one 0 t v rfl (fun v' iv=>by simp only[List.getElem?_cons_zero,Option.some.injEq]at iv;subst iv;exact hR.2 0 u v rfl rfl)
     |u::u2::r,v::v2::s,t::t2::q,hR,hlen,one=>
      have hne:¬ (v::v2::s).toArray.size=1:=by simp
      simp only[hne,dite_false]
      refine⟨_,rfl,?_,fun k x y hx hy=>one k x y hx (fun v' iv=>hR.2 k v' y iv (by simpa using hy))⟩
      have:=hR.1
      simp at this hlen⊢
      omega
     | [],_::_,_,hR,_,_=>exact absurd hR.1 (by simp)
     |_::_,[],_,hR,_,_=>exact absurd hR.1 (by simp)
     | [_],_::_::_,_,hR,_,_=>exact absurd hR.1 (by simp)
     |_::_::_,[_],_,hR,_,_=>exact absurd hR.1 (by simp)
     | [],[],_::_,_,hlen,_=>simp at hlen
     | [_],[_],[],_,hlen,_=>simp at hlen
     | [_],[_],_::_::_,_,hlen,_=>simp at hlen
     |_::_::_,_::_::_,[],_,hlen,_=>simp at hlen
     |_::_::_,_::_::_,[_],_,hlen,_=>simp at hlen
    rcases he with rfl|rfl
    · exact fin
    · exact fin
  · rw[List.all_eq_true]
    intro u hu
    obtain⟨k',hk',Ok⟩:=List.getElem_of_mem hu
    obtain⟨v,_,Al⟩:=dk hts k' u (by rw[←Ok];simp[hk'])
    exact eV Al
 cases e with
 |normal=>obtain⟨us,ts,h1,h2,h3⟩:=hq;exact main us ts (.inl rfl) h1 h2 h3
 |ret=>obtain⟨us,ts,h1,h2,h3⟩:=hq;exact main us ts (.inr rfl) h1 h2 h3
 |_=>exact hq.elim
end Go.aU
end
section
namespace Go.aU
open Go
variable {P:Program} {M A:Nat→Prop} {ρ:Env} {F:Nat→Prop} {st:St} {a:Act} {w:World}
theorem HB.aF {M2:Nat→Prop} {ρ2:Env} {f:Nat→Option Nat} {id k:Nat} {blk:bt} (h:HB w M A ρ id blk) (hρ: ∀id k l,f id=some k→ρ id=some l→ρ2 k=some l)
 (hk: ∀l,ρ id=some l→ρ2 k=some l) (hM: ∀b,ρ id=some (.eM b)→M b→M2 b):HB w M2 A ρ2 k (blk.aF f):=by
 cases blk with
 |row sz xs=>
  obtain⟨q1,q2⟩:=h
  refine⟨fun e he=>?_,?_⟩
  · simp only[List.mem_map]at he
    obtain⟨e',he',rfl⟩:=he
    simpa using q1 e' he'
  · rcases q2 with⟨b,c,e,k1,k2,k3,k4,k5,k6⟩|⟨k1,k2⟩
    · refine .inl ⟨b,c,e,hk _ k1,hM b k1 k2,k3,k4,by simpa using k5,fun i el j q hi hj=>?_⟩
      simp only[List.getElem?_map,Option.map_eq_some_iff]at hi
      obtain⟨Bb,Ap,rfl⟩:=hi
      simp only[List.getElem?_map,Option.map_eq_some_iff]at hj
      obtain⟨q',CK,rfl⟩:=hj
      obtain⟨y,hy,cO,h1⟩:=k6 i Bb j q' Ap CK
      exact⟨y,hy,cO.aF hρ,h1⟩
    · exact .inr ⟨hk _ k1,by rw[k2];rfl⟩
 |mp es clock=>
  obtain⟨b,en,k1,k2,k3,k4,k5,k6⟩:=h
  refine⟨b,en,hk _ k1,hM b k1 k2,k3,k4,by simpa using k5,fun i k c n hi=>?_⟩
  simp only[List.getElem?_map,Option.map_eq_some_iff]at hi
  obtain⟨⟨k',c',n'⟩,hi',he⟩:=hi
  simp only[Prod.mk.injEq]at he
  obtain⟨rfl,rfl,rfl⟩:=he
  obtain⟨e,h1,h2,h3,h4,h5⟩:=k6 i k' c' n' hi'
  exact⟨e,h1,h2,h3,h4.aF hρ,h5⟩
theorem HB.some {id:Nat} {blk:bt} (h:HB w M A ρ id blk): ∃l,ρ id=some l:=by
 cases blk with
 |row sz xs=>rcases h.2 with⟨b,c,e,k1,_⟩|⟨k1,_⟩<;>exact⟨_,k1⟩
 |mp es clock=>obtain⟨b,en,k1,_⟩:=h;exact⟨_,k1⟩
def bu:List Nat→Nat→Option Nat
 | [],_=>none
 |x::r,id=>if x=id then some 0 else(bu r id).map (· +1)
theorem dH: ∀ {ids:List Nat} {id k:Nat},bu ids id=some k→ids[k]? =some id
 | [],id,k,h=>by simp[bu]at h
 |x::r,id,k,h=>by
  simp only[bu]at h
  split at h
  · rename_i e;simp only[Option.some.injEq]at h;subst h;subst e;rfl
  · simp only[Option.map_eq_some_iff]at h
    obtain⟨k',h',rfl⟩:=h
    simpa using dH h'
theorem gF: ∀ {ids:List Nat} {id:Nat},bu ids id=none→ ∀k:Nat,ids[k]? ≠some id
 | [],id,_,k=>by simp
 |x::r,id,h,k=>by
  simp only[bu]at h
  split at h
  · simp at h
  · rename_i e
    simp only[Option.map_eq_none_iff]at h
    cases k with
    |zero=>simpa using e
    |succ k=>simpa using gF h k
def fD (ids:List Nat) (ctr j:Nat):Option Nat:=if j < 4 then some ((ids[j]?).getD (ctr+j))else none
def cu (f:Nat→Option Nat) (hp:List (Nat×bt)):Nat→List Nat→List (Nat×bt)
 |_,[]=>[]
 |j,id::r=>match find hp id with
  |some b=>(j,b.aF f)::cu f hp (j+1) r
  |none=>cu f hp (j+1) r
theorem bQ {f:Nat→Option Nat} {hp:List (Nat×bt)}: ∀ {ids:List Nat} {j k:Nat} {b:bt},find (cu f hp j ids) k=some b→ ∃i id b',k=j+i∧ids[i]? =some id∧find hp id=some b'∧b=b'.aF f
 | [],j,k,b,h=>by simp[cu,find]at h
 |id::r,j,k,b,h=>by
  simp only[cu]at h
  have tl:find (cu f hp (j+1) r) k=some b→ ∃i id', ∃b',k=j+i∧(id::r)[i]? =some id'∧find hp id'=some b'∧b=b'.aF f:=by
   intro h
   obtain⟨i,id',b',h1,h2,h3,h4⟩:=bQ h
   exact⟨i+1,id',b',by omega,by simpa using h2,h3,h4⟩
  split at h
  · rename_i b0 hb0
    rw[aj]at h
    split at h
    · rename_i e
      simp only[Option.some.injEq]at h
      exact⟨0,id,b0,by omega,rfl,hb0,h.symm⟩
    · exact tl h
  · exact tl h
def iz (ids:List Nat):List (Nat×bt)→List (Nat×bt)
 | []=>[]
 |p::r=>match bu ids p.1 with
  |some _=>iz ids r
  |none=>p::iz ids r
theorem jB {ids:List Nat}: ∀ {hp:List (Nat×bt)} {k:Nat} {b:bt},find (iz ids hp) k=some b→bu ids k=none∧find hp k=some b
 | [],k,b,h=>by simp[iz,find]at h
 |(q,c)::r,k,b,h=>by
  simp only[iz]at h
  split at h
  · rename_i j hj
    obtain⟨h1,h2⟩:=jB h
    refine⟨h1,?_⟩
    rw[aj]
    split
    · rename_i e
      subst e
      rw[hj]at h1
      simp at h1
    · exact h2
  · rename_i hj
    rw[aj]at h⊢
    split at h
    · rename_i e
      subst e
      rw[if_pos rfl]
      exact⟨hj,h⟩
    · rename_i e
      obtain⟨h1,h2⟩:=jB h
      rw[if_neg e]
      exact⟨h1,h2⟩
def dX (g:Nat→Option Nat):List (Nat×bt)→List (Nat×bt)
 | []=>[]
 |p::r=>match g p.1 with
  |some k=>(k,p.2.aF g)::dX g r
  |none=>dX g r
theorem ie {g:Nat→Option Nat} (hinj: ∀i j k,g i=some k→g j=some k→i=j): ∀ {hout:List (Nat×bt)} {k:Nat} {b:bt},find (dX g hout) k=some b→ ∃j b',g j=some k∧find hout j=some b'∧b=b'.aF g
 | [],k,b,h=>by simp[dX,find]at h
 |(q,c)::r,k,b,h=>by
  simp only[dX]at h
  split at h
  · rename_i k' hk'
    rw[aj]at h
    split at h
    · rename_i e
      subst e
      simp only[Option.some.injEq]at h
      exact⟨q,c,hk',by rw[aj,if_pos rfl],h.symm⟩
    · rename_i e
      obtain⟨j,b',h1,h2,h3⟩:=ie hinj h
      refine⟨j,b',h1,?_,h3⟩
      rw[aj,if_neg]
      · exact h2
      · intro e'
        subst e'
        rw[hk']at h1
        exact e (Option.some.inj h1)
  · rename_i hk'
    obtain⟨j,b',h1,h2,h3⟩:=ie hinj h
    refine⟨j,b',h1,?_,h3⟩
    rw[aj,if_neg]
    · exact h2
    · intro e'
      subst e'
      rw[hk']at h1
      simp at h1
def tN (ids:List Nat) (ctr:Nat):Bool:=decide (ids.length≤4)&&ids.all (fun id=>decide (id < ctr))&&decide ids.Nodup
theorem yT {f:FuncId} {us args:List W} {hp hin hout:List (Nat×bt)} {ctr:Nat} {res:V} (ids:List Nat) (hok:tN ids ctr=true) (hfn:Fn P f args hin res hout)
 (ha:us.map (W.aF (bu ids))=args) (hh:cu (bu ids) hp 0 ids=hin):
 fu P f us hp ctr (res.aF (fD ids ctr)) (dX (fD ids ctr) hout++iz ids hp) (ctr+4):=by
 subst ha
 subst hh
 simp only[tN,Bool.and_eq_true,decide_eq_true_eq,List.all_eq_true]at hok
 obtain⟨⟨hlen,hlt⟩,D4⟩:=hok
 have hidx: ∀ {i j id:Nat},ids[i]? =some id→ids[j]? =some id→i=j:=by
  intro i j id h1 h2
  obtain⟨hi,e1⟩:=List.getElem?_eq_some_iff.1 h1
  obtain⟨hj,e2⟩:=List.getElem?_eq_some_iff.1 h2
  exact(List.getElem_inj D4).1 (e1.trans e2.symm)
 have hinv: ∀ {j id:Nat},ids[j]? =some id→bu ids id=some j:=by
  intro j id h
  cases hi:bu ids id with
  |none=>exact absurd h (gF hi j)
  |some k=>rw[hidx (dH hi) h]
 have jl: ∀ {j id:Nat},ids[j]? =some id→id < ctr:=fun h=>hlt _ (List.mem_of_getElem? h)
 have AY: ∀ {j id:Nat},ids[j]? =some id→j < 4:=fun h=>by have:=(List.getElem?_eq_some_iff.1 h).1;omega
 intro M A ρ a w n L xs hr hx
 let ρ0:Env:=fun j=>(ids[j]?).bind ρ
 have N1: ∀id k l,bu ids id=some k→ρ id=some l→ρ0 k=some l:=by
  intro id k l h1 h2
  simp only[ρ0,dH h1,Option.bind_some,h2]
 let M':Nat→Prop:=fun b=>nE ρ0 (cu (bu ids) hp 0 ids) b∨w.heap.size≤b
 have IY: ∀b,b < w.heap.size→M' b→M b∧A b:=by
  intro b hb hm
  rcases hm with⟨j,blk,hf,hρ⟩|hm
  · obtain⟨i,id,b',rfl,h2,h3,_⟩:=bQ hf
    simp only[Nat.zero_add,ρ0,h2,Option.bind_some]at hρ
    exact((hr.heap id b' h3).lt hρ).2
  · omega
 have hH:HR M' A ρ0 (aZ 4) (cu (bu ids) hp 0 ids) w:=by
  refine⟨rfl,rfl,fun t v hv=>by simp[find]at hv,fun j blk hf=>?_,fun j j' blk eX b h1 h2 r1 r2=>?_,fun j hj=>?_,hr.bound,fun b hb=> .inr hb,hr.dm.sub (fun b hb hm=>(IY b hb hm).1) (fun _ h=>h)⟩
  · obtain⟨i,id,b',rfl,h2,h3,rfl⟩:=bQ hf
    refine(hr.heap id b' h3).aF N1 (fun l hl=>by simp only[Nat.zero_add,ρ0,h2,Option.bind_some,hl]) (fun b hb _=> .inl ⟨0+i,_,hf,by simp only[Nat.zero_add,ρ0,h2,Option.bind_some,hb]⟩)
  · obtain⟨i,id,b1,rfl,h3,h4,_⟩:=bQ h1
    obtain⟨i',id',b2,rfl,A4,OC,_⟩:=bQ h2
    simp only[Nat.zero_add,ρ0,h3,A4,Option.bind_some]at r1 r2
    have:=hr.inj id id' b1 b2 b h4 OC r1 r2
    subst this
    rw[hidx h3 A4]
  · simp only[ρ0]
    rw[List.getElem?_eq_none (by simp only[aZ]at hj;omega)]
    rfl
 have hx':zc w A ρ0 (us.map (W.aF (bu ids))) xs.toList:=by
  refine⟨by simpa using hx.1,fun k u y hu hy=>?_⟩
  simp only[List.getElem?_map,Option.map_eq_some_iff]at hu
  obtain⟨u',yp,rfl⟩:=hu
  exact(hx.2 k u' y yp hy).aF N1
 refine(hfn w A ρ0 xs hH hx').mono ?_
 rintro e w' ⟨x,A',ρ',F',rfl,hv,cO,dl,ca,hg⟩
 let ρ2:Env:=fun k=>match bu ids k with
  |some j=>ρ' j
  |none=>if ctr≤k∧k < ctr+4 then ρ' (k - ctr)else ρ k
 have Kt: ∀j k l,fD ids ctr j=some k→ρ' j=some l→ρ2 k=some l:=by
  intro j k l h1 h2
  simp only[fD]at h1
  split at h1
  · rename_i hj
    simp only[Option.some.injEq]at h1
    cases hi:ids[j]? with
    |some id=>
     rw[hi]at h1
     simp only[Option.getD_some]at h1
     subst h1
     simp only[ρ2,hinv hi]
     exact h2
    |none=>
     rw[hi]at h1
     simp only[Option.getD_none]at h1
     subst h1
     have hn:bu ids (ctr+j)=none:=by
      cases hq:bu ids (ctr+j)with
      |none=>rfl
      |some q=>have:=jl (dH hq);omega
     simp only[ρ2,hn]
     rw[if_pos ⟨by omega,by omega⟩,show ctr+j - ctr=j by omega]
     exact h2
  · simp at h1
 have Ks: ∀i j k,fD ids ctr i=some k→fD ids ctr j=some k→i=j:=by
  intro i j k h1 h2
  simp only[fD]at h1 h2
  split at h1
  · split at h2
    · simp only[Option.some.injEq]at h1 h2
      cases hi:ids[i]? with
      |some id=>
       cases hj:ids[j]? with
       |some id'=>
        rw[hi]at h1;rw[hj]at h2
        simp only[Option.getD_some]at h1 h2
        subst h1;subst h2
        exact hidx hi hj
       |none=>
        rw[hi]at h1;rw[hj]at h2
        simp only[Option.getD_some,Option.getD_none]at h1 h2
        have:=jl hi
        omega
      |none=>
       cases hj:ids[j]? with
       |some id'=>
        rw[hi]at h1;rw[hj]at h2
        simp only[Option.getD_some,Option.getD_none]at h1 h2
        have:=jl hj
        omega
       |none=>
        rw[hi]at h1;rw[hj]at h2
        simp only[Option.getD_none]at h1 h2
        omega
    · simp at h2
  · simp at h1
 have hE:cC ρ ρ2:=by
  intro id l hl
  simp only[ρ2]
  cases hi:bu ids id with
  |some j=>
   have hj:=AY (dH hi)
   exact ca j l hj (N1 id j l hi hl)
  |none=>
   simp only
   rw[if_neg]
   · exact hl
   · rintro⟨h1,_⟩
     have:=hr.fresh id h1
     rw[this]at hl
     simp at hl
 have Ao:cz M w w':=dl.weaken (fun i hi ho=>(IY i hi ho).1)
 have hk:dD A A' w w':=⟨dl.size,fun b hb F6=>⟨dl.block b hb (fun hm=>F6 (IY b hb hm).2),fun h=>F6 (hg.2 b hb h)⟩⟩
 have hM': ∀b,M' b→M b:=fun b hm=>by
  rcases Nat.lt_or_ge b w.heap.size with hlt|hge
  · exact(IY b hlt hm).1
  · exact hr.may b hge
 refine⟨x,A',ρ2,rfl,⟨hr.size,hr.defers,fun t v hv=>(hr.tmps t v hv).keeps hk dl.shape hE,fun k blk hf=>?_,fun k k' blk eX b h1 h2 r1 r2=>?_,fun k hk'=>?_,cO.bound,fun b hb=>hr.may b (Nat.le_trans dl.size hb),hr.dm.CZ Ao hg.2⟩,hv.aF Kt,Ao,hE,hg⟩
 · simp only[cA,Option.or_eq_some_iff]at hf
   rcases hf with hf|⟨_,hf⟩
   · obtain⟨j,b',h1,h2,rfl⟩:=ie Ks hf
     exact(cO.heap j b' h2).aF Kt (fun l hl=>Kt j k l h1 hl) (fun b _ hm=>hM' b hm)
   · obtain⟨h1,h2⟩:=jB hf
     have hb:=hr.heap k blk h2
     refine hb.keeps hk dl.shape hE hg.1 (fun b wV=>dl.block b (hb.lt wV).1 ?_)
     intro hm
     rcases hm with⟨j,bl,hfj,Se⟩|hm
     · obtain⟨i,id,b',rfl,q2,q3,_⟩:=bQ hfj
       simp only[Nat.zero_add,ρ0,q2,Option.bind_some]at Se
       have:=hr.inj k id blk b' b h2 q3 wV Se
       subst this
       exact gF h1 i q2
     · have:=(hb.lt wV).1
       omega
 · have old: ∀ {k:Nat} {bl:bt} {b:Nat},find (iz ids hp) k=some bl→ρ2 k=some (.eM b)→find hp k=some bl∧ρ k=some (.eM b)∧bu ids k=none∧b < w.heap.size:=by
    intro k bl b hf hρ
    obtain⟨g1,g2⟩:=jB hf
    obtain⟨l,hl⟩:=(hr.heap k bl g2).some
    have:=hE k l hl
    rw[this]at hρ
    simp only[Option.some.injEq]at hρ
    subst hρ
    exact⟨g2,hl,g1,((hr.heap k bl g2).lt hl).1⟩
   have new: ∀ {k:Nat} {bl:bt} {b:Nat},find (dX (fD ids ctr) hout) k=some bl→ρ2 k=some (.eM b)→ ∃j b',fD ids ctr j=some k∧find hout j=some b'∧ρ' j=some (.eM b):=by
    intro k bl b hf hρ
    obtain⟨j,b',g1,g2,_⟩:=ie Ks hf
    obtain⟨l,hl⟩:=(cO.heap j b' g2).some
    have:=Kt j k l g1 hl
    rw[this]at hρ
    simp only[Option.some.injEq]at hρ
    subst hρ
    exact⟨j,b',g1,g2,hl⟩
   have Mw: ∀ {k k':Nat} {bl zj:bt} {b:Nat},find (dX (fD ids ctr) hout) k=some bl→ρ2 k=some (.eM b)→find (iz ids hp) k'=some zj→ρ2 k'=some (.eM b)→False:=by
    intro k k' bl zj b h1 r1 h2 r2
    obtain⟨j,b',g1,g2,g3⟩:=new h1 r1
    obtain⟨q1,q2,q3,q4⟩:=old h2 r2
    have hm:=((cO.heap j b' g2).lt g3).2.1
    rcases hm with⟨i,QH,HC,hρi⟩|hm
    · obtain⟨i',id,b2,rfl,p2,p3,_⟩:=bQ HC
      simp only[Nat.zero_add,ρ0,p2,Option.bind_some]at hρi
      have:=hr.inj k' id zj b2 b q1 p3 q2 hρi
      subst this
      exact gF q3 i' p2
    · omega
   simp only[cA,Option.or_eq_some_iff]at h1 h2
   rcases h1 with h1|⟨_,h1⟩<;>rcases h2 with h2|⟨_,h2⟩
   · obtain⟨j,b',g1,g2,g3⟩:=new h1 r1
     obtain⟨j',b'',g1',g2',g3'⟩:=new h2 r2
     have:=cO.inj j j' b' b'' b g2 g2' g3 g3'
     subst this
     rw[g1]at g1'
     exact Option.some.inj g1'
   · exact(Mw h1 r1 h2 r2).elim
   · exact(Mw h2 r2 h1 r1).elim
   · obtain⟨q1,q2,_⟩:=old h1 r1
     obtain⟨q1',q2',_⟩:=old h2 r2
     exact hr.inj k k' _ _ b q1 q1' q2 q2'
 · simp only[aZ]at hk'
   have hn:bu ids k=none:=by
    cases hq:bu ids k with
    |none=>rfl
    |some q=>have:=jl (dH hq);omega
   simp only[ρ2,hn]
   rw[if_neg (by omega)]
   exact hr.fresh k (by simp only[aZ];omega)
theorem rj {f:FuncId} {us args:List W} {hp hin hout:List (Nat×bt)} {ctr:Nat} {res:V} (ids:List Nat) (hok:tN ids ctr=true) (hfn:Fn P f args hin res hout)
 (ha:us.map (W.aF (bu ids))=args) (hh:cu (bu ids) hp 0 ids=hin):
 dQ P f us hp ctr (res.aF (fD ids ctr)) (dX (fD ids ctr) hout++iz ids hp) (ctr+4):=
 (yT ids hok hfn ha hh).m
theorem B1 {f:FuncId} {us args:List W} {hp hin:List (Nat×bt)} {res:V} (ids:List Nat) (hlen:ids.length≤4) (D4:ids.Nodup) (hsub: ∀id,id∈ids→id∈us.flatMap W.ids) (hfn:Fn P f args hin res hin)
 (ha:us.map (W.aF (bu ids))=args) (hh:cu (bu ids) hp 0 ids=hin)
 (Aq: ∀id,id∈ids→ ∃b,find hp id=some b∧(b.aF (bu ids)).aF (fun j=>ids[j]?)=b):
 Hv P hp f us (res.aF (fun j=>ids[j]?)):=by
 subst ha
 have hidx: ∀ {i j id:Nat},ids[i]? =some id→ids[j]? =some id→i=j:=by
  intro i j id h1 h2
  obtain⟨hi,e1⟩:=List.getElem?_eq_some_iff.1 h1
  obtain⟨hj,e2⟩:=List.getElem?_eq_some_iff.1 h2
  exact(List.getElem_inj D4).1 (e1.trans e2.symm)
 have hinv: ∀ {j id:Nat},ids[j]? =some id→bu ids id=some j:=by
  intro j id h
  cases hi:bu ids id with
  |none=>exact absurd h (gF hi j)
  |some k=>rw[hidx (dH hi) h]
 have AY: ∀ {j id:Nat},ids[j]? =some id→j < 4:=fun h=>by have:=(List.getElem?_eq_some_iff.1 h).1;omega
 intro hp2 hag M A ρ F a w n L xs hr hx
 have BN: ∀id,id∈ids→find hp2 id=find hp id:=fun id bG=>hag id (hsub id bG)
 have hsame: ∀ (l:List Nat) (j:Nat),(∀id,id∈l→id∈ids)→cu (bu ids) hp2 j l=cu (bu ids) hp j l:=by
  intro l
  induction l with
  |nil=>intro j _;rfl
  |cons x l ih=>
   intro j hl
   simp only[cu]
   rw[BN x (hl x List.mem_cons_self),ih (j+1) (fun id bG=>hl id (List.mem_cons_of_mem _ bG))]
 rw[←hsame ids 0 (fun _ h=>h)]at hh
 subst hh
 let ρ0:Env:=fun j=>(ids[j]?).bind ρ
 have N1: ∀id k l,bu ids id=some k→ρ id=some l→ρ0 k=some l:=by
  intro id k l h1 h2
  simp only[ρ0,dH h1,Option.bind_some,h2]
 let M':Nat→Prop:=fun b=>nE ρ0 (cu (bu ids) hp2 0 ids) b∨w.heap.size≤b
 have IY: ∀b,b < w.heap.size→M' b→M b∧A b:=by
  intro b hb hm
  rcases hm with⟨j,blk,hf,hρ⟩|hm
  · obtain⟨i,id,b',rfl,h2,h3,_⟩:=bQ hf
    simp only[Nat.zero_add,ρ0,h2,Option.bind_some]at hρ
    exact((hr.heap id b' h3).lt hρ).2
  · omega
 have hH:HR M' A ρ0 (aZ 4) (cu (bu ids) hp2 0 ids) w:=by
  refine⟨rfl,rfl,fun t v hv=>by simp[find]at hv,fun j blk hf=>?_,fun j j' blk eX b h1 h2 r1 r2=>?_,fun j hj=>?_,hr.bound,fun b hb=> .inr hb,hr.dm.sub (fun b hb hm=>(IY b hb hm).1) (fun _ h=>h)⟩
  · obtain⟨i,id,b',rfl,h2,h3,rfl⟩:=bQ hf
    refine(hr.heap id b' h3).aF N1 (fun l hl=>by simp only[Nat.zero_add,ρ0,h2,Option.bind_some,hl]) (fun b hb _=> .inl ⟨0+i,_,hf,by simp only[Nat.zero_add,ρ0,h2,Option.bind_some,hb]⟩)
  · obtain⟨i,id,b1,rfl,h3,h4,_⟩:=bQ h1
    obtain⟨i',id',b2,rfl,A4,OC,_⟩:=bQ h2
    simp only[Nat.zero_add,ρ0,h3,A4,Option.bind_some]at r1 r2
    have:=hr.inj id id' b1 b2 b h4 OC r1 r2
    subst this
    rw[hidx h3 A4]
  · simp only[ρ0]
    rw[List.getElem?_eq_none (by simp only[aZ]at hj;omega)]
    rfl
 have hx':zc w A ρ0 (us.map (W.aF (bu ids))) xs.toList:=by
  refine⟨by simpa using hx.1,fun k u y hu hy=>?_⟩
  simp only[List.getElem?_map,Option.map_eq_some_iff]at hu
  obtain⟨u',yp,rfl⟩:=hu
  exact(hx.2 k u' y yp hy).aF N1
 refine(hfn w A ρ0 xs hH hx').mono ?_
 rintro e w' ⟨x,A',ρ',F',rfl,hv,cO,dl,ca,hg⟩
 let ρ2:Env:=fun k=>match bu ids k with
  |some j=>ρ' j
  |none=>ρ k
 have Kt: ∀j k l,ids[j]? =some k→ρ' j=some l→ρ2 k=some l:=by
  intro j k l h1 h2
  simp only[ρ2,hinv h1]
  exact h2
 have hE:cC ρ ρ2:=by
  intro id l hl
  simp only[ρ2]
  cases hi:bu ids id with
  |some j=>exact ca j l (AY (dH hi)) (N1 id j l hi hl)
  |none=>exact hl
 have Ao:cz M w w':=dl.weaken (fun i hi ho=>(IY i hi ho).1)
 have hk:dD A A' w w':=⟨dl.size,fun b hb F6=>⟨dl.block b hb (fun hm=>F6 (IY b hb hm).2),fun h=>F6 (hg.2 b hb h)⟩⟩
 have hM': ∀b,M' b→M b:=fun b hm=>by
  rcases Nat.lt_or_ge b w.heap.size with hlt|hge
  · exact(IY b hlt hm).1
  · exact hr.may b hge
 have aoI: ∀ (l:List Nat) (s i id:Nat) (b:bt),l.Nodup→l[i]? =some id→find hp2 id=some b→find (cu (bu ids) hp2 s l) (s+i)=some (b.aF (bu ids)):=by
  intro l
  induction l with
  |nil=>intro s i id b _ h;simp at h
  |cons y l ih=>
   intro s i id b D4 h hf
   cases i with
   |zero=>
    simp only[List.getElem?_cons_zero,Option.some.injEq]at h
    subst h
    simp only[cu,hf,find,Nat.add_zero,if_true]
   |succ i=>
    simp only[List.getElem?_cons_succ]at h
    have:=ih (s+1) i id b (List.nodup_cons.1 D4).2 h hf
    rw[show s+(i+1)=s+1+i by omega]
    simp only[cu]
    split
    · rw[aj,if_neg (by omega)];exact this
    · exact this
 have same: ∀ {k:Nat} {l:_},ρ k=some l→ρ2 k=some l:=fun h=>hE _ _ h
 refine⟨x,A',ρ2,rfl,⟨hr.size,hr.defers,fun t v hv=>(hr.tmps t v hv).keeps hk dl.shape hE,fun k blk hf=>?_,fun k k' blk eX b h1 h2 r1 r2=>?_,fun k hk'=>?_,cO.bound,fun b hb=>hr.may b (Nat.le_trans dl.size hb),hr.dm.CZ Ao hg.2⟩,hv.aF Kt,Ao,hE,hg⟩
 · cases hi:bu ids k with
   |some j=>
    have Ol:=dH hi
    have BG:=aoI ids 0 j k blk D4 Ol hf
    rw[Nat.zero_add]at BG
    have hb:=cO.heap j _ BG
    have:=hb.aF (f:=fun j=>ids[j]?) (ρ2:=ρ2) (M2:=M) (k:=k) Kt (fun l hl=>Kt j k l Ol hl) (fun b _ hm=>hM' b hm)
    obtain⟨b0,hb0,vT⟩:=Aq k (List.mem_of_getElem? Ol)
    rw[←BN k (List.mem_of_getElem? Ol),hf]at hb0
    rw[←Option.some.inj hb0]at vT
    rw[vT]at this
    exact this
   |none=>
    have hb:=hr.heap k blk hf
    refine hb.keeps hk dl.shape hE hg.1 (fun b wV=>dl.block b (hb.lt wV).1 ?_)
    intro hm
    rcases hm with⟨j,bl,hfj,Se⟩|hm
    · obtain⟨i,id,b',rfl,q2,q3,_⟩:=bQ hfj
      simp only[Nat.zero_add,ρ0,q2,Option.bind_some]at Se
      have:=hr.inj k id blk b' b hf q3 wV Se
      subst this
      exact gF hi i q2
    · have:=(hb.lt wV).1
      omega
 · obtain⟨l,hl⟩:=(hr.heap k blk h1).some
   obtain⟨l',hl'⟩:=(hr.heap k' eX h2).some
   have e1:=same hl
   have e2:=same hl'
   rw[e1]at r1
   rw[e2]at r2
   simp only[Option.some.injEq]at r1 r2
   subst r1
   subst r2
   exact hr.inj k k' blk eX b h1 h2 hl hl'
 · have h0:=hr.fresh k hk'
   cases hi:bu ids k with
   |none=>simp only[ρ2,hi];exact h0
   |some j=>
    exfalso
    have Ol:=dH hi
    obtain⟨b0,hb0,_⟩:=Aq k (List.mem_of_getElem? Ol)
    rw[←BN k (List.mem_of_getElem? Ol)]at hb0
    obtain⟨l,hl⟩:=(hr.heap k b0 hb0).some
    rw[h0]at hl
    simp at hl
end Go.aU
end
section
namespace Go.aU
open Go
variable {P:Program} {M A:Nat→Prop} {ρ:Env} {F:Nat→Prop} {st:St} {a:Act} {w:World}
def FM (hin:HS):C→Bool
 | .t _=>true
 | .own id .. =>(find hin id).isSome
 | .ptr id .. =>(find hin id).isSome
 | .jc _ cK=>cK.all fun p=>(find hin p.1).isSome
 |_=>false
def Sd (hin:HS):W→Bool
 | .one c=>FM hin c
 | .agg cs=>cs.all (FM hin)
def pw:HS→HS
 | []=>[]
 |p::r=>if p.1 < 4 then pw r else p::pw r
theorem kL: ∀ {hp:HS} {k:Nat} {b:bt},find (pw hp) k=some b→¬k < 4∧find hp k=some b
 | [],k,b,h=>by simp[pw,find]at h
 |(q,c)::r,k,b,h=>by
  simp only[pw]at h
  split at h
  · rename_i hq
    obtain⟨h1,h2⟩:=kL h
    have hne:¬q=k:=fun e=>by subst e;exact h1 hq
    exact⟨h1,by rw[aj,if_neg hne];exact h2⟩
  · rename_i hq
    rw[aj]at h⊢
    split at h
    · rename_i e
      subst e
      exact⟨hq,by rw[if_pos rfl];exact h⟩
    · rename_i e
      obtain⟨h1,h2⟩:=kL h
      exact⟨h1,by rw[if_neg e];exact h2⟩
def xU (hin hp:HS) (u:W):Option W:=if Sd hin u=true then some u else bH (pw hp) u
def Hl (hin:HS):bt→Prop
 | .row _ xs=> ∀e,e∈xs→ ∀c,c∈e→FM hin c=true
 | .mp _ _=>False
def jP (hin hp hout:HS):Prop:=
 (∀k b,find hin k=some b→k < 4∧ ∃b',find hp k=some b')∧ ∀k blk,find hout k=some blk→find hp k=some blk∧(find hin k).isSome=true∧Hl hin blk
def PD (P:Program) (rs:List ResultVar) (hin:HS) (Good:List W→HS→Prop):Exit→TS→HS→Nat→Prop
 | .normal,tm,hp,_| .ret,tm,hp,_=> ∃us ts hout,aE P hp tm rs=some us∧bB (xU hin hp) us=some ts∧jP hin hp hout∧Good ts hout
 |_,_,_,_=>False
theorem fl {f:FuncId} {fn:Func} {c:Code} {r:Rc} {args:List W} {n:Nat} {rs:List ResultVar} {hin:HS} {Good:List W→HS→Prop} (hf:P.funcs[f]? =some fn) (hb:fn.body=some c) (hr:ae P c=some r)
 (hn:fn.ntmps=n) (dV:fn.results.toList=rs) (hl:args.length≤n) (h:X P n r (PD P rs hin Good) (cE 0 args) hin 4): ∃ts hout,Fn P f args hin (aO ts) hout∧Good ts hout:=by
 subst hn
 subst dV
 obtain⟨e,st',c',⟨hn',hq⟩,hw⟩:=X.Jj hr h
 obtain⟨n',aW,hp'⟩:=st'
 simp only at hn' hq
 subst hn'
 have main: ∀us ts hout,oZ e→aE P hp' aW fn.results.toList=some us→bB (xU hin hp') us=some ts→jP hin hp' hout→Good ts hout→ ∃ts hout,Fn P f args hin (aO ts) hout∧Good ts hout:=by
  intro vs ts hout he eU hts Kn hg
  refine⟨ts,hout,?_,hg⟩
  · intro w A ρ xs hH hxs
    refine calls_of_wp hf hb ?_
    have hl':args.length=xs.size:=by simpa using hxs.1
    have bL:Rel (fun b=>nE ρ hin b∨w.heap.size≤b) A ρ (aZ 4) ⟨fn.ntmps,cE 0 args,hin⟩ {tmps:=xs++Array.replicate (fn.ntmps - xs.size) undef,defers:=[]} w:=by
     refine⟨by simp;omega,rfl,fun t v hv=>?_,hH.heap,hH.inj,hH.fresh,hH.bound,hH.may,hH.dm⟩
     obtain⟨_,u,hu,rfl⟩:=dA _ _ _ _ hv
     simp only[Nat.sub_zero]at hu
     have ht:t < xs.size:=by rw[←hl'];exact(List.getElem?_eq_some_iff.1 hu).1
     have yo:xs.toList[t]? =some xs[t]:=by simp[ht]
     have:=hxs.2 t u _ hu yo
     have e:(xs++Array.replicate (fn.ntmps - xs.size) undef).getD t undef=xs[t]:=by simp[Array.getD_eq_getD_getElem?,Array.getElem?_append_left ht,ht]
     rw[e]
     exact this
    refine wp_mono (hw _ A ρ _ w bL) ?_
    rintro e2 a' w' ⟨Cu,c2,A',ρ',⟨rfl,rfl,rfl⟩,cO,dl,ca,Kr⟩
    have iE:bq A A' w:=by
     refine⟨fun b hA=>?_,Kr.2⟩
     by_cases hM:nE ρ hin b∨w.heap.size≤b
     · rcases hM with⟨id,blk,hf,hρ⟩|hs
       · obtain⟨h4,b',hb'⟩:=Kn.1 id blk hf
         exact((cO.heap id b' hb').lt (ca id _ h4 hρ)).2.2
       · have:=hH.bound b hA
         omega
     · exact Kr.1 b hA hM
    obtain⟨ws,hvs,hR⟩:=dh cO eU
    have hm:(fn.results.mapM fun(r:ResultVar)=>match r with
     | .tmp t=>(pure (a'.tmps.getD t undef):Sem Value)
     | .cell b t=>do loadVar t (←asAddr (a'.tmps.getD b undef))).run P w'= .ok ws.toArray w':=by
     rw[Array.mapM_eq_mapM_toList]
     simp only[Sem.run_map]
     exact(congrArg (fun r:Result (List Value)=>Result.andThen r fun a w'=>Result.ok a.toArray w') hvs).trans rfl
    have hrun:(results fn a'.tmps).run P w'= .ok (if h:ws.toArray.size=1 then ws.toArray[0]else .tuple ws.toArray) w':=by
     show(Bind.bind (fn.results.mapM fun(r:ResultVar)=>match r with
      | .tmp t=>(pure (a'.tmps.getD t undef):Sem Value)
      | .cell b t=>do loadVar t (←asAddr (a'.tmps.getD b undef))) fun vs=>Pure.pure (if h:vs.size=1 then vs[0]else .tuple vs)).run P w'=_
     rw[Sem.run_bind,hm]
     rfl
    have IL: ∀k b,find hin k=some b→ ∃l,ρ k=some l∧ρ' k=some l:=by
     intro k b hk
     obtain⟨l,hl⟩:=(hH.heap k b hk).some
     exact⟨l,hl,ca k l (Kn.1 k b hk).1 hl⟩
    have SG:=Rel.forget cO (st':=⟨fn.ntmps,aW,pw hp'⟩) rfl (fun _ _ h=>h) (fun id b h=>(kL h).2)
    have hB: ∀id blk b,find (pw hp') id=some blk→ρ' id=some (.eM b)→¬A b:=by
     intro id blk b hf hρ hA
     obtain⟨bG,hf⟩:=kL hf
     have hM:=(Rel.own cO hf hρ).1
     rcases hM with⟨id',eX,j8,hρ'⟩|hM
     · obtain⟨h4,b',hb'⟩:=Kn.1 id' eX j8
       have:=cO.inj id id' blk b' b hf hb' hρ (ca id' _ h4 hρ')
       omega
     · have:=hH.bound b hA
       omega
    have cell: ∀ {c:C} {y:Value},FM hin c=true→RC w' A' ρ' c y→RC w' A ρ c y:=by
     intro c y hc hy
     cases c with
     |t x=>exact RT.keeps (w:=w') ⟨Nat.le_refl _,fun b _ hn=>⟨rfl,fun hb=>hn (iE.1 b hb)⟩⟩ hy
     |own id sz i len=>
      simp only[FM]at hc
      obtain⟨b0,hb0⟩:=Option.isSome_iff_exists.1 hc
      obtain⟨l,h1,h2⟩:=IL id b0 hb0
      rcases hy with⟨b,cap,q,e,k1,k2⟩|⟨k1,k2⟩
      · rw[h2]at k1;exact .inl ⟨b,cap,q,e,by rw[h1];exact k1,k2⟩
      · rw[h2]at k1;exact .inr ⟨by rw[h1];exact k1,k2⟩
     |ptr id sz i j=>
      simp only[FM]at hc
      obtain⟨b0,hb0⟩:=Option.isSome_iff_exists.1 hc
      obtain⟨l,h1,h2⟩:=IL id b0 hb0
      obtain⟨b,k1,k2⟩:=hy
      rw[h2]at k1
      exact⟨b,by rw[h1];exact k1,k2⟩
     |jc f cK=>
      simp only[FM,List.all_eq_true]at hc
      obtain⟨vs,k1,k2,k3⟩:=hy
      refine⟨vs,k1,k2,fun k id sz i j x h1 h2=>?_⟩
      obtain⟨b0,hb0⟩:=Option.isSome_iff_exists.1 (hc _ (List.mem_of_getElem? h1))
      obtain⟨l,g1,g2⟩:=IL id b0 hb0
      obtain⟨b,p1,p2⟩:=k3 k id sz i j x h1 h2
      rw[g2]at p1
      exact⟨b,by rw[g1];exact p1,p2⟩
     |_=>simp[FM]at hc
    have S5: ∀id blk,find hout id=some blk→HB w' (fun b=>nE ρ hin b∨w.heap.size≤b) A ρ id blk:=by
     intro id blk hf
     obtain⟨j8,BG,hrow⟩:=Kn.2 id blk hf
     obtain⟨b0,hb0⟩:=Option.isSome_iff_exists.1 BG
     obtain⟨l,h1,h2⟩:=IL id b0 hb0
     have hbk:=cO.heap id blk j8
     cases blk with
     |row sz ys=>
      obtain⟨q1,q2⟩:=hbk
      refine⟨q1,?_⟩
      rcases q2 with⟨b,c,e,k1,k2,k3,k4,k5,k6⟩|⟨k1,k2⟩
      · rw[h2]at k1
        refine .inl ⟨b,c,e,by rw[h1];exact k1,k2,((hH.heap id b0 hb0).lt (by rw[h1];exact k1)).2.2,k4,k5,fun i el j q hi hj=>?_⟩
        obtain⟨y,hy,qT,rR⟩:=k6 i el j q hi hj
        exact⟨y,hy,cell (hrow el (List.mem_of_getElem? hi) q (List.mem_of_getElem? hj)) qT,rR⟩
      · rw[h2]at k1
        exact .inr ⟨by rw[h1];exact k1,k2⟩
     |mp es clock=>exact hrow.elim
    have hlen:=fh hts
    have one: ∀ (k:Nat) (u:W) (y:Value),ts[k]? =some u→(∀v,vs[k]? =some v→RW w' A' ρ' v y)→RW w' A ρ u y:=by
     intro k u y hu hv
     obtain⟨v,iv,Al⟩:=dk hts k u hu
     unfold xU at Al
     split at Al
     · rename_i BG
       simp only[Option.some.injEq]at Al
       subst Al
       have hvv:=hv v iv
       cases v with
       |one c=>exact⟨cell BG hvv.1,hvv.2⟩
       |agg cs=>
        obtain⟨vs',g1,g2,g3⟩:=hvv
        exact⟨vs',g1,g2,fun k c x hc hx=>⟨cell (List.all_eq_true.1 BG c (List.mem_of_getElem? hc)) (g3 k c x hc hx).1,(g3 k c x hc hx).2⟩⟩
     · exact fE SG (fun b hb=>iE.1 b hb) hB Al (hv v iv) ρ
    have fin:a'.defers=[]∧ ∃v,(results fn a'.tmps).run P w'= .ok v w'∧ ∃x A' ρ' F',Ending.returned v= .returned x∧RV w' A' ρ' (aO ts) x∧HR (fun b=>nE ρ hin b∨w.heap.size≤b) A' ρ' F' hout w'∧
     cz (fun b=>nE ρ hin b∨w.heap.size≤b) w w'∧gR ρ ρ'∧bq A A' w:=by
     refine⟨cO.defers,_,hrun,_,A,ρ,aZ 4,rfl,?_,⟨rfl,rfl,fun t v hv=>by simp[find]at hv,S5,fun id id' b b' q h1 h2 r1 r2=>by obtain⟨g1,e1,_⟩:=Kn.2 id b h1;obtain⟨g2,e2,_⟩:=Kn.2 id' b' h2;obtain⟨c1,d1⟩:=Option.isSome_iff_exists.1 e1;obtain⟨c2,d2⟩:=Option.isSome_iff_exists.1 e2;exact cO.inj id id' b b' q g1 g2 (ca id _ (Kn.1 id c1 d1).1 r1) (ca id' _ (Kn.1 id' c2 d2).1 r2),hH.fresh,fun b hb=>Nat.lt_of_lt_of_le (hH.bound b hb) dl.size,fun b hb=> .inr (Nat.le_trans dl.size hb),hH.dm.CZ dl (fun _ _ h=>h)⟩,dl,gR.refl _,bq.refl _ _⟩
     match vs,ws,ts,hR,hlen,one with
     | [],[],[],_,_,_=>exact⟨#[],by simp,rfl,by simp⟩
     | [u],[v],[t],hR,_,one=>exact one 0 t v rfl (fun v' iv=>by simp only[List.getElem?_cons_zero,Option.some.injEq]at iv;subst iv;exact hR.2 0 u v rfl rfl)
     |u::u2::r,v::v2::s,t::t2::q,hR,hlen,one=>
      have hne:¬ (v::v2::s).toArray.size=1:=by simp
      simp only[hne,dite_false]
      refine⟨_,rfl,?_,fun k x y hx hy=>one k x y hx (fun v' iv=>hR.2 k v' y iv (by simpa using hy))⟩
      have:=hR.1
      simp at this hlen⊢
      omega
     | [],_::_,_,hR,_,_=>exact absurd hR.1 (by simp)
     |_::_,[],_,hR,_,_=>exact absurd hR.1 (by simp)
     | [_],_::_::_,_,hR,_,_=>exact absurd hR.1 (by simp)
     |_::_::_,[_],_,hR,_,_=>exact absurd hR.1 (by simp)
     | [],[],_::_,_,hlen,_=>simp at hlen
     | [_],[_],[],_,hlen,_=>simp at hlen
     | [_],[_],_::_::_,_,hlen,_=>simp at hlen
     |_::_::_,_::_::_,[],_,hlen,_=>simp at hlen
     |_::_::_,_::_::_,[_],_,hlen,_=>simp at hlen
    rcases he with rfl|rfl
    · exact fin
    · exact fin
 cases e with
 |normal=>obtain⟨us,ts,hout,h1,h2,h3,h4⟩:=hq;exact main us ts hout (.inl rfl) h1 h2 h3 h4
 |ret=>obtain⟨us,ts,hout,h1,h2,h3,h4⟩:=hq;exact main us ts hout (.inr rfl) h1 h2 h3 h4
 |_=>exact hq.elim
def PF (P:Program) (rs:List ResultVar) (Good:List W→HS→Prop):Exit→TS→HS→Nat→Prop
 | .normal,tm,hp,_| .ret,tm,hp,_=> ∃us ids,aE P hp tm rs=some us∧(ids.length≤4∧ids.Nodup)∧Good (us.map (W.aF (bu ids))) (cu (bu ids) hp 0 ids)
 |_,_,_,_=>False
theorem um {f:FuncId} {fn:Func} {c:Code} {r:Rc} {args:List W} {n:Nat} {rs:List ResultVar} {Good:List W→HS→Prop} (hf:P.funcs[f]? =some fn) (hb:fn.body=some c) (hr:ae P c=some r)
 (hn:fn.ntmps=n) (dV:fn.results.toList=rs) (hl:args.length≤n) (h:X P n r (PF P rs Good) (cE 0 args) [] 4): ∃ts hout,zk P f args (aO ts) hout∧Good ts hout:=by
 subst hn
 subst dV
 obtain⟨e,st',c',⟨hn',hq⟩,hw⟩:=X.Jj hr h
 obtain⟨n',aW,hp'⟩:=st'
 simp only at hn' hq
 subst hn'
 have main: ∀us ids,oZ e→aE P hp' aW fn.results.toList=some us→(ids.length≤4∧ids.Nodup)→Good (us.map (W.aF (bu ids))) (cu (bu ids) hp' 0 ids)→ ∃ts hout,zk P f args (aO ts) hout∧Good ts hout:=by
  intro vs ids he eU aqX hg
  obtain⟨aB7,D4⟩:=aqX
  refine⟨_,_,?_,hg⟩
  intro w A xs hH hxs
  refine calls_of_wp hf hb ?_
  have hl':args.length=xs.size:=by simpa using hxs.1
  have bL:Rel (fun b=>nE (fun _=>none) [] b∨w.heap.size≤b) A (fun _=>none) (aZ 4) ⟨fn.ntmps,cE 0 args,[]⟩ {tmps:=xs++Array.replicate (fn.ntmps - xs.size) undef,defers:=[]} w:=by
   refine⟨by simp;omega,rfl,fun t v hv=>?_,hH.heap,hH.inj,hH.fresh,hH.bound,hH.may,hH.dm⟩
   obtain⟨_,u,hu,rfl⟩:=dA _ _ _ _ hv
   simp only[Nat.sub_zero]at hu
   have ht:t < xs.size:=by rw[←hl'];exact(List.getElem?_eq_some_iff.1 hu).1
   have yo:xs.toList[t]? =some xs[t]:=by simp[ht]
   have:=hxs.2 t u _ hu yo
   have e:(xs++Array.replicate (fn.ntmps - xs.size) undef).getD t undef=xs[t]:=by simp[Array.getD_eq_getD_getElem?,Array.getElem?_append_left ht,ht]
   rw[e]
   exact this
  refine wp_mono (hw _ A _ _ w bL) ?_
  rintro e2 a' w' ⟨Cu,c2,A',ρ',⟨rfl,rfl,rfl⟩,cO,dl,ca,Kr⟩
  have iE:=qt hH.bound Kr
  obtain⟨ws,hvs,hR⟩:=dh cO eU
  have hm:(fn.results.mapM fun(r:ResultVar)=>match r with
   | .tmp t=>(pure (a'.tmps.getD t undef):Sem Value)
   | .cell b t=>do loadVar t (←asAddr (a'.tmps.getD b undef))).run P w'= .ok ws.toArray w':=by
   rw[Array.mapM_eq_mapM_toList]
   simp only[Sem.run_map]
   exact(congrArg (fun r:Result (List Value)=>Result.andThen r fun a w'=>Result.ok a.toArray w') hvs).trans rfl
  have hrun:(results fn a'.tmps).run P w'= .ok (if h:ws.toArray.size=1 then ws.toArray[0]else .tuple ws.toArray) w':=by
   show(Bind.bind (fn.results.mapM fun(r:ResultVar)=>match r with
    | .tmp t=>(pure (a'.tmps.getD t undef):Sem Value)
    | .cell b t=>do loadVar t (←asAddr (a'.tmps.getD b undef))) fun vs=>Pure.pure (if h:vs.size=1 then vs[0]else .tuple vs)).run P w'=_
   rw[Sem.run_bind,hm]
   rfl
  let ρ2:Env:=fun j=>(ids[j]?).bind ρ'
  have hρ2: ∀id k l,bu ids id=some k→ρ' id=some l→ρ2 k=some l:=by
   intro id k l h1 h2
   simp only[ρ2,dH h1,Option.bind_some,h2]
  have hidx: ∀ {i j id:Nat},ids[i]? =some id→ids[j]? =some id→i=j:=by
   intro i j id h1 h2
   obtain⟨hi,e1⟩:=List.getElem?_eq_some_iff.1 h1
   obtain⟨hj,e2⟩:=List.getElem?_eq_some_iff.1 h2
   exact(List.getElem_inj D4).1 (e1.trans e2.symm)
  have hlen:(vs.map (W.aF (bu ids))).length=vs.length:=by simp
  have one: ∀ (k:Nat) (u:W) (y:Value),(vs.map (W.aF (bu ids)))[k]? =some u→(∀v,vs[k]? =some v→RW w' A' ρ' v y)→RW w' A' ρ2 u y:=by
   intro k u y hu hv
   simp only[List.getElem?_map,Option.map_eq_some_iff]at hu
   obtain⟨v,iv,rfl⟩:=hu
   exact(hv v iv).aF hρ2
  have fin:a'.defers=[]∧ ∃v,(results fn a'.tmps).run P w'= .ok v w'∧ ∃x A' ρ' F',Ending.returned v= .returned x∧RV w' A' ρ' (aO (vs.map (W.aF (bu ids)))) x∧HR (fun b=>nE (fun _=>none) [] b∨w.heap.size≤b) A' ρ' F' (cu (bu ids) hp' 0 ids) w'∧
   cz (fun b=>nE (fun _=>none) [] b∨w.heap.size≤b) w w'∧bq A A' w:=by
   refine⟨cO.defers,_,hrun,_,A',ρ2,aZ 4,rfl,?_,⟨rfl,rfl,fun t v hv=>by simp[find]at hv,?_,?_,?_,cO.bound,fun b hb=> .inr (Nat.le_trans dl.size hb),cO.dm⟩,dl,iE⟩
   · generalize hts:vs.map (W.aF (bu ids))=ts at hlen one⊢
     clear hts
     match vs,ws,ts,hR,hlen,one with
     | [],[],[],_,_,_=>exact⟨#[],by simp,rfl,by simp⟩
     | [u],[v],[t],hR,_,one=>exact one 0 t v rfl (fun v' iv=>by simp only[List.getElem?_cons_zero,Option.some.injEq]at iv;subst iv;exact hR.2 0 u v rfl rfl)
     |u::u2::r,v::v2::s,t::t2::q,hR,hlen,one=>
      have hne:¬ (v::v2::s).toArray.size=1:=by simp
      simp only[hne,dite_false]
      refine⟨_,rfl,?_,fun k x y hx hy=>one k x y hx (fun v' iv=>hR.2 k v' y iv (by simpa using hy))⟩
      have:=hR.1
      simp at this hlen⊢
      omega
     | [],_::_,_,hR,_,_=>exact absurd hR.1 (by simp)
     |_::_,[],_,hR,_,_=>exact absurd hR.1 (by simp)
     | [_],_::_::_,_,hR,_,_=>exact absurd hR.1 (by simp)
     |_::_::_,[_],_,hR,_,_=>exact absurd hR.1 (by simp)
     | [],[],_::_,_,hlen,_=>simp at hlen
     | [_],[_],[],_,hlen,_=>simp at hlen
     | [_],[_],_::_::_,_,hlen,_=>simp at hlen
     |_::_::_,_::_::_,[],_,hlen,_=>simp at hlen
     |_::_::_,_::_::_,[_],_,hlen,_=>simp at hlen
   · intro j blk hf
     obtain⟨i,id,b',rfl,h2,h3,rfl⟩:=bQ hf
     exact(cO.heap id b' h3).aF hρ2 (fun l hl=>by simp only[Nat.zero_add,ρ2,h2,Option.bind_some,hl]) (fun b _ hb=>hb)
   · intro j j' blk eX b h1 h2 r1 r2
     obtain⟨i,id,b1,rfl,h3,h4,_⟩:=bQ h1
     obtain⟨i',id',b2,rfl,A4,OC,_⟩:=bQ h2
     simp only[Nat.zero_add,ρ2,h3,A4,Option.bind_some]at r1 r2
     have:=cO.inj id id' b1 b2 b h4 OC r1 r2
     subst this
     rw[hidx h3 A4]
   · intro j hj
     simp only[ρ2]
     rw[List.getElem?_eq_none (by simp only[aZ]at hj;omega)]
     rfl
  rcases he with rfl|rfl
  · exact fin
  · exact fin
 cases e with
 |normal=>obtain⟨us,ids,h1,h2,h3⟩:=hq;exact main us ids (.inl rfl) h1 h2 h3
 |ret=>obtain⟨us,ids,h1,h2,h3⟩:=hq;exact main us ids (.inr rfl) h1 h2 h3
 |_=>exact hq.elim
theorem B0 {f:FuncId} {us:List W} {hp hout:HS} {ctr:Nat} {v:V} (hT:sx us=true) (h:zk P f us v hout):dP P hp ctr f us (v.up ctr) (eZ ctr hout++hp):=
 .inl ⟨v,hout,us,h,rfl,rfl, .inl ⟨rfl,hT⟩⟩
end Go.aU
end
