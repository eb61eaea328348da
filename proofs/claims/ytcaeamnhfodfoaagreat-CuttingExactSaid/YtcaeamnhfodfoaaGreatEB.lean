import Derived.Test.YtcaeamnhfodfoaaGreatEA
import Derived.Laws.Strings
import Derived.Test.YtcaeamnhfodfoaaGreatProg
set_option linter.all false
section
namespace Go.aT
open Go
variable {P:Program} {M A:Nat→Prop} {ρ:Env} {F:Nat→Prop} {a:Act} {w:World}
def wz (ids:List Nat) (src h:HS):HS:=
 ids.foldl (fun h id=>match find src id with|some b=>(id,b)::del h id|none=>del h id) h
theorem gV (src:HS) (id:Nat): ∀ (ids:List Nat) (h:HS),find (wz ids src h) id=if id∈ids then find src id else find h id
 | [],h=>by simp[wz]
 |k::r,h=>by
  have ih:=gV src id r (match find src k with|some b=>(k,b)::del h k|none=>del h k)
  simp only[wz,List.foldl_cons]at ih⊢
  rw[ih]
  by_cases hr:id∈r
  · simp[hr]
  · simp only[hr,if_false,List.mem_cons,or_false]
    by_cases hk:id=k
    · subst hk
      simp only[if_true]
      cases hs:find src id with
      |none=>simp[dh]
      |some b=>simp[aA]
    · simp only[hk,if_false]
      have hk':¬k=id:=fun e=>hk e.symm
      cases hs:find src k with
      |none=>simp[dh,hk]
      |some b=>simp[aA,dh,hk,hk']
section
variable (dst:Nat→Option Nat) (v:Nat→V) (wr:Nat→List Nat) (hpT:Nat→HS) (uV:TS) (qR:HS)
def o6 (L:Nat→Bool):Nat→TS
 |0=>uV
 |i+1=>if L i then fk (o6 L i) (dst i) (v i)else o6 L i
def o9 (L:Nat→Bool):Nat→HS
 |0=>qR
 |i+1=>if L i then wz (wr i) (hpT (i+1)) (o9 L i)else o9 L i
theorem gX (tm:TS) (d:Option Nat) (u:V) (t:Nat):find (fk tm d u) t=if d=some t then some u else find tm t:=by
 cases d with
 |none=>simp[fk]
 |some d=>simp only[fk,aA,Option.some.injEq]
theorem nD (L1 L2:Nat→Bool) (t:Nat): ∀k,(∀i,i < k→dst i=some t→L1 i=L2 i)→find (o6 dst v uV L1 k) t=find (o6 dst v uV L2 k) t
 |0,_=>rfl
 |k+1,h=>by
  have ih:=nD L1 L2 t k (fun i hi=>h i (by omega))
  simp only[o6]
  by_cases hd:dst k=some t
  · rw[h k (by omega) hd]
    split
    · simp only[gX,hd,if_true]
    · exact ih
  · have e: ∀ (L:Nat→Bool),find (if L k then fk (o6 dst v uV L k) (dst k) (v k)else o6 dst v uV L k) t=find (o6 dst v uV L k) t:=by
     intro L
     split
     · simp only[gX,hd,if_false]
     · rfl
    rw[e L1,e L2,ih]
theorem AC (L:Nat→Bool) (t i:Nat) (hd:dst i=some t) (hL:L i=true): ∀k,i < k→(∀j,i < j→j < k→dst j=some t→L j=false)→find (o6 dst v uV L k) t=some (v i)
 |0,h,_=>by omega
 |k+1,h,hj=>by
  simp only[o6]
  by_cases e:i=k
  · subst e
    simp only[hL,if_true,gX,hd]
  · have ih:=AC L t i hd hL k (by omega) (fun j h1 h2=>hj j h1 (by omega))
    by_cases hk:dst k=some t
    · rw[hj k (by omega) (by omega) hk]
      exact ih
    · split
      · simp only[gX,hk,if_false];exact ih
      · exact ih
theorem oa (L1 L2:Nat→Bool) (id:Nat): ∀k,(∀i,i < k→id∈wr i→L1 i=L2 i)→find (o9 wr hpT qR L1 k) id=find (o9 wr hpT qR L2 k) id
 |0,_=>rfl
 |k+1,h=>by
  have ih:=oa L1 L2 id k (fun i hi=>h i (by omega))
  simp only[o9]
  by_cases hd:id∈wr k
  · rw[h k (by omega) hd]
    split
    · simp only[gV,hd,if_true]
    · exact ih
  · have e: ∀ (L:Nat→Bool),find (if L k then wz (wr k) (hpT (k+1)) (o9 wr hpT qR L k)else o9 wr hpT qR L k) id=find (o9 wr hpT qR L k) id:=by
     intro L
     split
     · simp only[gV,hd,if_false]
     · rfl
    rw[e L1,e L2,ih]
theorem Bm (L:Nat→Bool) (id i:Nat) (hd:id∈wr i) (hL:L i=true): ∀k,i < k→(∀j,i < j→j < k→id∈wr j→L j=false)→find (o9 wr hpT qR L k) id=find (hpT (i+1)) id
 |0,h,_=>by omega
 |k+1,h,hj=>by
  simp only[o9]
  by_cases e:i=k
  · subst e
    simp only[hL,if_true,gV,hd]
  · have ih:=Bm L id i hd hL k (by omega) (fun j h1 h2=>hj j h1 (by omega))
    by_cases hk:id∈wr k
    · rw[hj k (by omega) (by omega) hk]
      exact ih
    · split
      · simp only[gV,hk,if_false];exact ih
      · exact ih
theorem qV (tmT:Nat→TS) (N:Nat) (h0:tmT 0=uV) (hs: ∀i,i < N→ ∀t,find (tmT (i+1)) t=find (fk (tmT i) (dst i) (v i)) t) (L:Nat→Bool) (t:Nat): ∀k,k≤N→(∀i,i < k→L i=true)→find (o6 dst v uV L k) t=find (tmT k) t
 |0,_,_=>by rw[h0];rfl
 |k+1,hk,hL=>by
  simp only[o6,hL k (by omega),if_true]
  rw[hs k (by omega) t,gX,gX,qV tmT N h0 hs L t k (by omega) (fun i hi=>hL i (by omega))]
theorem rH (N:Nat) (h0:hpT 0=qR) (hs: ∀i,i < N→ ∀id,¬id∈wr i→find (hpT (i+1)) id=find (hpT i) id) (L:Nat→Bool) (id:Nat): ∀k,k≤N→(∀i,i < k→L i=true)→find (o9 wr hpT qR L k) id=find (hpT k) id
 |0,_,_=>by rw[h0];rfl
 |k+1,hk,hL=>by
  simp only[o9,hL k (by omega),if_true,gV]
  split
  · rfl
  · rename_i hn
    rw[rH N h0 hs L id k (by omega) (fun i hi=>hL i (by omega)),hs k (by omega) id hn]
theorem wk (i:Nat) (t:Nat): ∀k,i≤k→find (o6 dst v uV (fun j=>decide (j < i)) k) t=find (o6 dst v uV (fun j=>decide (j < i)) i) t
 |0,h=>by have:i=0:=by omega
          subst this;rfl
 |k+1,h=>by
  by_cases e:i=k+1
  · subst e;rfl
  · have ih:=wk i t k (by omega)
    have hn:decide (k < i)=false:=by simp;omega
    simp only[o6]
    rw[if_neg (by simp;omega)]
    exact ih
theorem w8 (i:Nat) (id:Nat): ∀k,i≤k→find (o9 wr hpT qR (fun j=>decide (j < i)) k) id=find (o9 wr hpT qR (fun j=>decide (j < i)) i) id
 |0,h=>by have:i=0:=by omega
          subst this;rfl
 |k+1,h=>by
  by_cases e:i=k+1
  · subst e;rfl
  · have ih:=w8 i id k (by omega)
    simp only[o9]
    rw[if_neg (by simp;omega)]
    exact ih
end
theorem fR.sound {ops:Array Oper} {o:Oper} {i n nid:Nat} {tm:TS} {hp aG:HS} {v:V} {Q:Exit→Act→World→Prop} {K':Act→World→Prop} (hi:ops[i]? =some o)
 (h:fR P ops o n tm hp nid v aG) (hr:Rel M A ρ F ⟨n,tm,hp⟩ a w) (hF: ∀k,nid≤k→k < nid+4→F k)
 (hk: ∀a' w' A' ρ',Rel M A' ρ' (Sub F nid) ⟨n,fk tm o.dst v,aG⟩ a' w'→dj M w w'→cZ ρ ρ'→bH A A' w→K' a' w'):wpOp P ops Q i K' a w:=by
 obtain⟨hd,h⟩:=h
 have Bu:=j4 hd
 unfold wpOp
 simp only[hi]
 have fin: ∀ {a2:Act} {w2:World} {A2:Nat→Prop} {ρ2:Env} {x:Value} {hp2:HS},Rel M A2 ρ2 (Sub F nid) ⟨n,tm,hp2⟩ a2 w2→RV w2 A2 ρ2 v x→Rel M A2 ρ2 (Sub F nid) ⟨n,fk tm o.dst v,hp2⟩ (a2.put o.dst x) w2:=by
  intro a2 w2 A2 ρ2 x hp2 r1 r2
  have:=r1.put (dst:=o.dst) r2 Bu
  rw[lC]at this
  exact this
 split at h
 · exact h.elim
 · rename_i hg
   have:=da hr hg
   simp only[this,Bool.false_eq_true,if_false]
   obtain⟨rfl,rfl⟩:=h
   exact hk _ _ A ρ (fin (hr.sub fun id h=>h.1) sF) (dj.refl _ _) (cZ.refl _) (bH.refl _ _)
 · rename_i hg
   have:=da hr hg
   simp only[this,if_true]
   refine .inl ?_
   split at h
   · rename_i g us hc
     obtain⟨he,hct⟩:=h
     obtain⟨xs,hx,hxs⟩:=mM (P:=P) hr hc he
     simp only[Oper.wp,hx,Oper.upon]
     refine(eU.sound hr hF hct hxs).mono ?_
     rintro e w' ⟨x,A',ρ',rfl,r1,r2,r3,r4,r5⟩
     exact hk _ _ A' ρ' (fin r1 r2) r3 r4 r5
   · obtain⟨x,w',A',ρ',hrun,r1,r2,r3,r4,r5⟩:=mH h hr (hF nid (Nat.le_refl _) (by omega))
     rcases hrun with hrun|⟨hrun,rfl⟩
     · simp only[Oper.wp,hrun,Oper.upon]
       exact hk _ _ A' ρ' (fin r1 r2) r3 r4 r5
     · simp only[Oper.wp,hrun,Oper.upon]
       exact hk _ _ A' ρ' (fin r1 r2) r3 r4 r5
def bf (o:Oper):List Nat:=(o.after.toList.filter (Region.binds .any)).map (·.on)
def kX:List (List Nat)→List Nat→List Nat
 | [],acc=>acc
 |es::r,acc=>kX r (acc++[es.foldl (fun s e=>s|||2 ^ e|||acc.getD e 0) 0])
theorem DE: ∀ (r:List (List Nat)) (acc:List Nat), ∃tail,kX r acc=acc++tail∧tail.length=r.length
 | [],acc=>⟨[],by simp[kX]⟩
 |es::r,acc=>by
  obtain⟨tail,h1,h2⟩:=DE r (acc++[es.foldl (fun s e=>s|||2 ^ e|||acc.getD e 0) 0])
  exact⟨_::tail,by simp only[kX];rw[h1,List.append_assoc];rfl,by simp[h2]⟩
theorem DF: ∀ (r:List (List Nat)) (acc:List Nat) (k:Nat) (es:List Nat),r[k]? =some es→(∀e,e∈es→e < acc.length+k)→
 (kX r acc).getD (acc.length+k) 0=es.foldl (fun s e=>s|||2 ^ e|||(kX r acc).getD e 0) 0
 | [],acc,k,es,h,_=>by simp at h
 |Kt::r,acc,0,es,h,he=>by
  simp only[List.getElem?_cons_zero,Option.some.injEq]at h
  subst h
  simp only[kX,Nat.add_zero]
  obtain⟨tail,h1,_⟩:=DE r (acc++[Kt.foldl (fun s e=>s|||2 ^ e|||acc.getD e 0) 0])
  rw[h1]
  have e1: ∀e,e∈Kt→(acc++[Kt.foldl (fun s e=>s|||2 ^ e|||acc.getD e 0) 0]++tail).getD e 0=acc.getD e 0:=by
   intro e hm
   have:=he e hm
   simp only[List.getD_eq_getElem?_getD,List.append_assoc]
   rw[List.getElem?_append_left (by omega)]
  have e2:(acc++[Kt.foldl (fun s e=>s|||2 ^ e|||acc.getD e 0) 0]++tail).getD acc.length 0=Kt.foldl (fun s e=>s|||2 ^ e|||acc.getD e 0) 0:=by
   simp[List.getD_eq_getElem?_getD]
  rw[e2]
  have gen: ∀ (l:List Nat) (s:Nat),(∀e,e∈l→e∈Kt)→l.foldl (fun s e=>s|||2 ^ e|||acc.getD e 0) s=l.foldl (fun s e=>s|||2 ^ e|||(acc++[Kt.foldl (fun s e=>s|||2 ^ e|||acc.getD e 0) 0]++tail).getD e 0) s:=by
   intro l
   induction l with
   |nil=>intro s _;rfl
   |cons x l ih=>
    intro s hs
    simp only[List.foldl_cons]
    rw[e1 x (hs x (by simp)),ih _ (fun e h=>hs e (by simp[h]))]
  exact gen Kt 0 (fun _ h=>h)
 |Kt::r,acc,k+1,es,h,he=>by
  have:=DF r (acc++[Kt.foldl (fun s e=>s|||2 ^ e|||acc.getD e 0) 0]) k es (by simpa using h) (fun e hm=>by have:=he e hm;simp;omega)
  simp only[kX]
  rw[show acc.length+(k+1)=(acc++[Kt.foldl (fun s e=>s|||2 ^ e|||acc.getD e 0) 0]).length+k by simp;omega]
  exact this
theorem pH (g:Nat→Nat) (j:Nat): ∀ (l:List Nat) (s:Nat),(l.foldl (fun s e=>s|||2 ^ e|||g e) s).testBit j=true→s.testBit j=true∨ ∃e,e∈l∧(j=e∨(g e).testBit j=true)
 | [],s,h=> .inl h
 |e::r,s,h=>by
  simp only[List.foldl_cons]at h
  rcases pH g j r _ h with h|⟨e',h1,h2⟩
  · simp only[Nat.testBit_or,Bool.or_eq_true,Nat.testBit_two_pow,decide_eq_true_eq]at h
    rcases h with(h|h)|h
    · exact .inl h
    · exact .inr ⟨e,by simp, .inl h.symm⟩
    · exact .inr ⟨e,by simp, .inr h⟩
  · exact .inr ⟨e',by simp[h1],h2⟩
theorem qP {Es:List (List Nat)} (hE: ∀ (i:Nat) (es:List Nat),Es[i]? =some es→ ∀e,e∈es→e < i) {L:Nat→Bool}: ∀ (i:Nat),i < Es.length→
 (∀ (k:Nat) (es:List Nat),k < i→L k=true→Es[k]? =some es→ ∀e,e∈es→L e=true)→(∀ (es:List Nat),Es[i]? =some es→ ∀e,e∈es→L e=true)→ ∀j,((kX Es []).getD i 0).testBit j=true→L j=true∧j < i:=by
 intro i
 induction i using Nat.strongRecOn with
 |_ i ih=>
  intro hi eF hE' j hb
  obtain⟨es,j9⟩: ∃es,Es[i]? =some es:=⟨Es[i],by simp[hi]⟩
  have:=DF Es [] i es j9 (fun e he=>by simpa using hE i es j9 e he)
  simp only[List.length_nil,Nat.zero_add]at this
  rw[this]at hb
  rcases pH _ j es 0 hb with h|⟨e,he,h⟩
  · simp at h
  · have hlt:=hE i es j9 e he
    have hLe:=hE' es j9 e he
    rcases h with rfl|h
    · exact⟨hLe,hlt⟩
    · obtain⟨h1,h2⟩:=ih e hlt (by omega) (fun k es' hk=>eF k es' (by omega)) (fun es' agJ e' he'=>eF e es' hlt hLe agJ e' he') j h
      exact⟨h1,by omega⟩
def E1 (l r:List Nat):Bool:=l.all fun x=> !r.contains x
theorem cN {l r:List Nat} (h:E1 l r=true) {x:Nat} (hx:x∈l) (hy:x∈r):False:=by
 have:=List.all_eq_true.1 h x hx
 simp only[Bool.not_eq_true',List.contains_eq_mem]at this
 simp[hy]at this
structure iI where
 dst:Option Nat
 nm:List Nat
 rd:List Nat
 wr:List Nat
def iI.apart (f g:iI):Bool:=
 E1 f.dst.toList g.nm&&E1 g.dst.toList f.nm&&E1 f.dst.toList g.dst.toList&&E1 f.wr g.rd&&E1 g.wr f.rd&&E1 f.wr g.wr
def xE (Es:List (List Nat)) (fs:List iI):Bool:=
 let bits:=kX Es []
 (List.range fs.length).all fun j=>match fs[j]? with
   |some g=>(List.range j).all fun i=>match fs[i]? with
    |some f=>(bits.getD j 0).testBit i||f.apart g
    |none=>true
   |none=>true
theorem uK {Es:List (List Nat)} {fs:List iI} (h:xE Es fs=true) {i j:Nat} {f g:iI} (hij:i < j) (hf:fs[i]? =some f) (hg:fs[j]? =some g):
 ((kX Es []).getD j 0).testBit i=true∨f.apart g=true:=by
 unfold xE at h
 have hj:j < fs.length:=(List.getElem?_eq_some_iff.1 hg).1
 have:=List.all_eq_true.1 h j (List.mem_range.2 hj)
 simp only[hg]at this
 have:=List.all_eq_true.1 this i (List.mem_range.2 hij)
 simp only[hf,Bool.or_eq_true]at this
 exact this
theorem exists_least {p:Nat→Bool}: ∀ {N:Nat},(∃i,i < N∧p i=false)→ ∃i,i < N∧p i=false∧ ∀j,j < i→p j=true
 |0,⟨i,h,_⟩=>by omega
 |N+1,⟨i,h,hp⟩=>by
  by_cases hq: ∃i,i < N∧p i=false
  · obtain⟨k,h1,h2,h3⟩:=exists_least hq
    exact⟨k,by omega,h2,h3⟩
  · have hi:i=N:=by
     rcases Nat.lt_or_ge i N with hl|hl
     · exact absurd ⟨i,hl,hp⟩ hq
     · omega
    subst hi
    refine⟨i,by omega,hp,fun j hj=>?_⟩
    cases hpj:p j with
    |true=>rfl
    |false=>exact absurd ⟨j,hj,hpj⟩ hq
def oy (L:Nat→Bool):Nat→Nat
 |0=>0
 |k+1=>oy L k+if L k then 0 else 1
theorem tK {L:Nat→Bool}: ∀ {k:Nat},oy L k=0→ ∀i,i < k→L i=true
 |0,_,i,hi=>by omega
 |k+1,h,i,hi=>by
  simp only[oy]at h
  by_cases e:i=k
  · subst e
    cases hL:L i with
    |true=>rfl
    |false=>simp[hL]at h
  · exact tK (k:=k) (by omega) i (by omega)
theorem xL {L L':Nat→Bool} {i:Nat} (hi:L i=false) (hi':L' i=true) (hne: ∀j,j≠i→L' j=L j): ∀ {k:Nat},i < k→oy L' k+1=oy L k
 |0,h=>by omega
 |k+1,h=>by
  simp only[oy]
  by_cases e:i=k
  · subst e
    have same: ∀ {m:Nat},m≤i→oy L' m=oy L m:=by
     intro m
     induction m with
     |zero=>intro _;rfl
     |succ m ih=>intro hm;simp only[oy];rw[ih (by omega),hne m (by omega)]
    rw[same (Nat.le_refl _),hi,hi']
    simp
  · have:=xL hi hi' hne (k:=k) (by omega)
    rw[hne k (fun e'=>e e'.symm)]
    omega
def GH (M A:Nat→Prop) (ρ:Env) (w:World) (Q:St→Nat→Prop) (a':Act) (w':World):Prop:=
 ∃st' bz A' ρ',Q st' bz∧Rel M A' ρ' (bu bz) st' a' w'∧dj M w w'∧cZ ρ ρ'∧bH A A' w
theorem GH.Oi {Q:St→Nat→Prop} {a':Act} {w':World} (h:GH M A ρ w Q a' w'):Post M A ρ w Q a' w':=by
 obtain⟨st',c',A',ρ',h1,h2,h3,h4,h5⟩:=h
 exact⟨st',c',A',ρ',h1,h2,h3,h4.Oi,h5.m⟩
theorem Dm {ops:Array Oper} {n base:Nat} {tmT:Nat→TS} {hpT:Nat→HS} {v:Nat→V} {fs:List iI} {id:Nat} {Q:Exit→Act→World→Prop}
 (hfo:P.follows .mixedOrders=true)
 (hstep: ∀i o,ops[i]? =some o→fR P ops o n (tmT i) (hpT i) (base+4 * i) (v i) (hpT (i+1))∧(∀t,find (tmT (i+1)) t=find (fk (tmT i) o.dst (v i)) t)∧
   ∃f,fs[i]? =some f∧f.dst=o.dst∧(∀t,t∈names ops o→t∈f.nm)∧(∀k,k∈jv (St.get ⟨n,tmT i,hpT i⟩) o→k∈f.rd)∧(∀k,k∈vL (St.get ⟨n,tmT i,hpT i⟩) (base+4 * i) o→k∈f.wr))
 (hE: ∀i o,ops[i]? =some o→ ∀e,e∈bf o→e < i)
 (hok:xE (ops.toList.map bf) fs=true)
 (cI:Rel M A ρ (bu base) ⟨n,tmT 0,hpT 0⟩ a w)
 (hQ: ∀a' w',GH M A ρ w (fun st c=>st=⟨n,tmT ops.size,hpT ops.size⟩∧c=base+4 * ops.size) a' w'→Q .normal a' w'):(Code.region id ops true).wp P Q a w:=by
 refine wp_region_any hfo ?_
 let N:=ops.size
 let dst:Nat→Option Nat:=fun i=>(ops[i]?).bind (·.dst)
 let wr:Nat→List Nat:=fun i=>((ops[i]?).map fun o=>vL (St.get ⟨n,tmT i,hpT i⟩) (base+4 * i) o).getD []
 have hop: ∀i,i < N→ ∃o,ops[i]? =some o:=fun i hi=>⟨ops[i],by simp[show i < ops.size from hi]⟩
 have xf: ∀i o,ops[i]? =some o→dst i=o.dst:=fun i o h=>by simp only[dst,h,Option.bind_some]
 have hwr: ∀i o,ops[i]? =some o→wr i=vL (St.get ⟨n,tmT i,hpT i⟩) (base+4 * i) o:=by
  intro i o h
  simp only[wr,h,Option.map_some,Option.getD_some]
 have w9: ∀i,i < N→ ∀k,¬k∈wr i→find (hpT (i+1)) k=find (hpT i) k:=by
  intro i hi k hk
  obtain⟨o,ho⟩:=hop i hi
  obtain⟨h1,_⟩:=hstep i o ho
  obtain⟨_,_,h3⟩:=h1.loc (tm2:=tmT i) (hp2:=hpT i) (fun _ _=>rfl) (fun _ _=>rfl) (fun _ _=>rfl)
  rw[hwr i o ho]at hk
  exact(h3.2 k hk).1
 have JV: ∀i,i < N→ ∀t,find (tmT (i+1)) t=find (fk (tmT i) (dst i) (v i)) t:=by
  intro i hi t
  obtain⟨o,ho⟩:=hop i hi
  rw[(hstep i o ho).2.1 t,xf i o ho]
 have X2: ∀ (i:Nat) (es:List Nat),(ops.toList.map bf)[i]? =some es→ ∀e,e∈es→e < i:=by
  intro i es h e he
  simp only[List.getElem?_map,Array.getElem?_toList,Option.map_eq_some_iff]at h
  obtain⟨o,ho,rfl⟩:=h
  exact hE i o ho e he
 let de:Array Bool→Nat→Bool:=fun listed i=>listed.getD i false
 let Fr:(Nat→Bool)→Nat→Prop:=fun L k=>base+4 * N≤k∨ ∃j,j < N∧L j=false∧base+4 * j≤k∧k < base+4 * j+4
 have iY: ∀ {L:Nat→Bool} {i:Nat},i < N→(∀k o,ops[k]? =some o→L k=true→ ∀e,e∈bf o→L e=true)→(∀o,ops[i]? =some o→ ∀e,e∈bf o→L e=true)→
  ∀j,((kX (ops.toList.map bf) []).getD i 0).testBit j=true→L j=true:=by
  intro L i hi eF LP j hb
  refine(qP X2 i (by simpa using hi) (fun k es _ HX j9 e he=>?_) (fun es j9 e he=>?_) j hb).1
  · simp only[List.getElem?_map,Array.getElem?_toList,Option.map_eq_some_iff]at j9
    obtain⟨o,ho,rfl⟩:=j9
    exact eF k o ho HX e he
  · simp only[List.getElem?_map,Array.getElem?_toList,Option.map_eq_some_iff]at j9
    obtain⟨o,ho,rfl⟩:=j9
    exact LP o ho e he
 have hNs:N=ops.size:=rfl
 have finish: ∀ (L:Nat→Bool) (a':Act) (w':World) (A':Nat→Prop) (ρ':Env),(∀i,i < N→L i=true)→
  Rel M A' ρ' (Fr L) ⟨n,o6 dst v (tmT 0) L N,o9 wr hpT (hpT 0) L N⟩ a' w'→dj M w w'→cZ ρ ρ'→bH A A' w→Q .normal a' w':=by
  intro L a' w' A' ρ' hall hr dU cJ hg
  refine hQ _ _ ⟨⟨n,tmT ops.size,hpT ops.size⟩,base+4 * ops.size,A',ρ',⟨rfl,rfl⟩,?_,dU,cJ,hg⟩
  have h1:Rel M A' ρ' (Fr L) ⟨n,tmT ops.size,hpT ops.size⟩ a' w':=hr.forget rfl (fun t u hu=>by
   rw[show find (⟨n,o6 dst v (tmT 0) L N,o9 wr hpT (hpT 0) L N⟩:St).tmps t=find (tmT N) t from qV dst v (tmT 0) tmT N rfl JV L t N (Nat.le_refl _) hall];exact hu) (fun k b hb=>by
   rw[show find (⟨n,o6 dst v (tmT 0) L N,o9 wr hpT (hpT 0) L N⟩:St).heap k=find (hpT N) k from rH wr hpT (hpT 0) N rfl w9 L k N (Nat.le_refl _) hall];exact hb)
  exact h1.sub (fun k hk=> .inl hk)
 have main: ∀ (fuel:Nat) (listed:Array Bool) (a':Act) (w':World) (A':Nat→Prop) (ρ':Env),listed.size=N→oy (de listed) N≤fuel→
  (∀k o,ops[k]? =some o→de listed k=true→ ∀e,e∈bf o→de listed e=true)→
  Rel M A' ρ' (Fr (de listed)) ⟨n,o6 dst v (tmT 0) (de listed) N,o9 wr hpT (hpT 0) (de listed) N⟩ a' w'→dj M w w'→cZ ρ ρ'→bH A A' w→
  wpAny P .any ops Q fuel listed a' w':=by
  intro fuel
  induction fuel with
  |zero=>
   intro listed a' w' A' ρ' hsz HV eF hr dU cJ hg
   have hall:=tK (Nat.le_zero.1 HV)
   refine⟨?_,finish _ a' w' A' ρ' hall hr dU cJ hg⟩
   apply List.eq_nil_iff_forall_not_mem.2
   intro i hi
   rw[mem_ready]at hi
   obtain⟨h0,o,ho,_⟩:=hi
   have hlt:i < N:=(Array.getElem?_eq_some_iff.1 ho).1
   have:=hall i hlt
   simp only[de,Array.getD_eq_getD_getElem?]at this h0
   have kg:i < listed.size:=by omega
   simp[kg]at this h0
   simp[this]at h0
  |succ fuel ih=>
   intro listed a' w' A' ρ' hsz HV eF hr dU cJ hg
   refine⟨fun CX=>?_,fun i hi=>?_⟩
   · by_cases hex: ∃i,i < N∧de listed i=false
     · exfalso
       obtain⟨i,hi,hL,EL⟩:=exists_least hex
       obtain⟨o,ho⟩:=hop i hi
       have:i∈Region.ready .any ops listed:=by
        rw[mem_ready]
        refine⟨?_,o,ho,fun e he hb=>?_⟩
        · simp only[de,Array.getD_eq_getD_getElem?]at hL⊢
          have kg:i < listed.size:=by omega
          simpa[kg]using hL
        · have hm:e.on∈bf o:=by simp only[bf,List.mem_map,List.mem_filter];exact⟨e,⟨by simpa using he,hb⟩,rfl⟩
          exact EL _ (hE i o ho _ hm)
       rw[CX]at this
       simp at this
     · exact finish _ a' w' A' ρ' (fun i hi=>by cases h:de listed i with|true=>rfl|false=>exact absurd ⟨i,hi,h⟩ hex) hr dU cJ hg
   · rw[mem_ready]at hi
     obtain⟨h0,o,ho,xe⟩:=hi
     have Bq:i < N:=(Array.getElem?_eq_some_iff.1 ho).1
     have HY:de listed i=false:=by
      simp only[de,Array.getD_eq_getD_getElem?]at h0⊢
      have kg:i < listed.size:=by omega
      simpa[kg]using h0
     have LP: ∀e,e∈bf o→de listed e=true:=by
      intro e he
      simp only[bf,List.mem_map,List.mem_filter]at he
      obtain⟨ed,⟨h1,h2⟩,rfl⟩:=he
      exact xe ed (by simpa using h1) h2
     obtain⟨hst,aeM,f,hf,fd,fn,fr,fw⟩:=hstep i o ho
     have order: ∀j oj g,j≠i→ops[j]? =some oj→fs[j]? =some g→(f.apart g=true∨g.apart f=true)∨(j < i∧de listed j=true)∨(i < j∧de listed j=false):=by
      intro j oj g fT qF jI
      have hjN:j < N:=(Array.getElem?_eq_some_iff.1 qF).1
      rcases Nat.lt_or_gt_of_ne fT with hlt|hgt
      · rcases uK hok hlt jI hf with hb|hb
        · exact .inr (.inl ⟨hlt,iY Bq eF (fun o' yh=>by rw[ho]at yh;simp only[Option.some.injEq]at yh;subst yh;exact LP) j hb⟩)
        · exact .inl (.inr hb)
      · rcases uK hok hgt hf jI with hb|hb
        · refine .inr (.inr ⟨hgt,?_⟩)
          cases hLj:de listed j with
          |false=>rfl
          |true=>
           have:=iY hjN eF (fun o' yh=>eF j o' yh hLj) i hb
           rw[HY]at this
           simp at this
        · exact .inl (.inl hb)
     have xq: ∀j,j < N→ ∃oj g,ops[j]? =some oj∧fs[j]? =some g∧g.dst=dst j∧ ∀k,k∈wr j→k∈g.wr:=by
      intro j hj
      obtain⟨oj,qF⟩:=hop j hj
      obtain⟨_,_,g,g1,g2,_,_,g5⟩:=hstep j oj qF
      exact⟨oj,g,qF,g1,by rw[g2,xf j oj qF],fun k hk=>g5 k (by rw[hwr j oj qF]at hk;exact hk)⟩
     have apart_spec: ∀ {f g:iI},(f.apart g=true∨g.apart f=true)→(∀t,f.dst=some t→g.dst=some t→False)∧(∀t,g.dst=some t→t∈f.nm→False)∧(∀k,k∈g.wr→k∈f.rd→False)∧(∀k,k∈g.wr→k∈f.wr→False):=by
      intro f g h
      rcases h with h|h<;>simp only[iI.apart,Bool.and_eq_true]at h<;>obtain⟨⟨⟨⟨⟨h1,h2⟩,h3⟩,h4⟩,h5⟩,h6⟩:=h
      · exact⟨fun t a b=>cN (x:=t) h3 (by simp[a]) (by simp[b]),fun t a b=>cN (x:=t) h2 (by simp[a]) b,fun k a b=>cN h5 a b,fun k a b=>cN h6 b a⟩
      · exact⟨fun t a b=>cN (x:=t) h3 (by simp[b]) (by simp[a]),fun t a b=>cN (x:=t) h1 (by simp[a]) b,fun k a b=>cN h4 a b,fun k a b=>cN h6 a b⟩
     have Fe: ∀t,t∈names ops o→find (o6 dst v (tmT 0) (de listed) N) t=find (tmT i) t:=by
      intro t ht
      rw[nD dst v (tmT 0) (de listed) (fun j=>decide (j < i)) t N ?_,wk dst v (tmT 0) i t N (Nat.le_of_lt Bq),qV dst v (tmT 0) tmT N rfl JV _ t i (Nat.le_of_lt Bq) (fun j hj=>by simpa using hj)]
      intro j hj Bt
      by_cases fT:j=i
      · subst fT;rw[HY];simp
      · obtain⟨oj,g,qF,jI,gd,gw⟩:=xq j hj
        rcases order j oj g fT qF jI with hap|⟨h1,h2⟩|⟨h1,h2⟩
        · exact((apart_spec hap).2.1 t (by rw[gd,Bt]) (fn t ht)).elim
        · rw[h2];simp[h1]
        · rw[h2];simp;omega
     have xX: ∀k,(k∈f.rd∨k∈f.wr)→find (o9 wr hpT (hpT 0) (de listed) N) k=find (hpT i) k:=by
      intro k hk
      rw[oa wr hpT (hpT 0) (de listed) (fun j=>decide (j < i)) k N ?_,w8 wr hpT (hpT 0) i k N (Nat.le_of_lt Bq),rH wr hpT (hpT 0) N rfl w9 _ k i (Nat.le_of_lt Bq) (fun j hj=>by simpa using hj)]
      intro j hj Bt
      by_cases fT:j=i
      · subst fT;rw[HY];simp
      · obtain⟨oj,g,qF,jI,gd,gw⟩:=xq j hj
        rcases order j oj g fT qF jI with hap|⟨h1,h2⟩|⟨h1,h2⟩
        · rcases hk with hk|hk
          · exact((apart_spec hap).2.2.1 k (gw k Bt) hk).elim
          · exact((apart_spec hap).2.2.2 k (gw k Bt) hk).elim
        · rw[h2];simp[h1]
        · rw[h2];simp;omega
     have J6: ∀k,k∈four (base+4 * i)→k∈f.wr:=fun k hk=>fw k (by simp only[vL,List.mem_append];exact .inl hk)
     obtain⟨ob,Rr,LO⟩:=hst.loc (tm2:=o6 dst v (tmT 0) (de listed) N) (hp2:=o9 wr hpT (hpT 0) (de listed) N) Fe (fun k hk=>xX k (.inl (fr k hk))) (fun k hk=>xX k (.inr (J6 k hk)))
     rw[←hwr i o ho]at LO
     refine fR.sound ho Rr hr (fun k h1 h2=> .inr ⟨i,Bq,HY,h1,h2⟩) ?_
     intro a2 w2 A2 ρ2 r1 r2 r3 r4
     have JZ: ∀j,de (listed.setIfInBounds i true) j=if j=i then true else de listed j:=by
      intro j
      by_cases fT:j=i
      · subst fT
        have:j < listed.size:=by omega
        simp[de,Array.getD_eq_getD_getElem?,this]
      · simp only[de,fT,if_false]
        exact getD_set_ne false (fun e=>fT e.symm)
     have xj:de (listed.setIfInBounds i true) i=true:=by rw[JZ];simp
     have mW: ∀j,j≠i→de (listed.setIfInBounds i true) j=de listed j:=fun j hj=>by rw[JZ,if_neg hj]
     have later: ∀j,i < j→j < N→(∀oj g,ops[j]? =some oj→fs[j]? =some g→(f.apart g=true∨g.apart f=true)→False)→de (listed.setIfInBounds i true) j=false:=by
      intro j h1 h2 h3
      obtain⟨oj,g,qF,jI,gd,gw⟩:=xq j h2
      rw[mW j (by omega)]
      rcases order j oj g (by omega) qF jI with hap|⟨h4,_⟩|⟨_,h5⟩
      · exact(h3 oj g qF jI hap).elim
      · omega
      · exact h5
     refine ih (listed.setIfInBounds i true) a2 w2 A2 ρ2 (by simpa using hsz) ?_ ?_ ?_ (dU.trans r2) (cJ.trans r3) (hg.trans r4 dU.size)
     · have:=xL (L:=de listed) (L':=de (listed.setIfInBounds i true)) HY xj mW (k:=N) Bq
       omega
     · intro k ok' vp HX e he
       by_cases rJ:k=i
       · subst rJ
         rw[ho]at vp
         simp only[Option.some.injEq]at vp
         subst vp
         exact getD_set_true (LP e he)
       · rw[mW k rJ]at HX
         exact getD_set_true (eF k ok' vp HX e he)
     · refine(Rel.forget (st':=⟨n,o6 dst v (tmT 0) (de (listed.setIfInBounds i true)) N,o9 wr hpT (hpT 0) (de (listed.setIfInBounds i true)) N⟩) r1 rfl (fun t u hu=>?_) (fun k b hb=>?_)).sub (fun k hk=>?_)
       · simp only[gX]
         split
         · rename_i hd
           have pR:=AC dst v (tmT 0) (de (listed.setIfInBounds i true)) t i (by rw[xf i o ho];exact hd) xj N Bq (fun j h1 h2 h3=>later j h1 h2 (fun oj g qF jI hap=>by
            obtain⟨_,g',_,zS,gd,_⟩:=xq j h2
            rw[jI]at zS
            simp only[Option.some.injEq]at zS
            subst zS
            exact(apart_spec hap).1 t (by rw[fd];exact hd) (by rw[gd];exact h3)))
           rw[←pR];exact hu
         · rename_i hd
           rw[nD dst v (tmT 0) (de listed) (de (listed.setIfInBounds i true)) t N (fun j hj Bt=>by
            by_cases fT:j=i
            · subst fT;rw[xf j o ho]at Bt;exact absurd Bt hd
            · exact(mW j fT).symm)]
           exact hu
       · by_cases hk:k∈wr i
         · have hkw:k∈f.wr:=fw k (by rw[←hwr i o ho];exact hk)
           have pR:=Bm wr hpT (hpT 0) (de (listed.setIfInBounds i true)) k i hk xj N Bq (fun j h1 h2 h3=>later j h1 h2 (fun oj g qF jI hap=>by
            obtain⟨_,g',_,zS,_,gw⟩:=xq j h2
            rw[jI]at zS
            simp only[Option.some.injEq]at zS
            subst zS
            exact(apart_spec hap).2.2.2 k (gw k h3) hkw))
           rw[LO.1 k hk, ←pR];exact hb
         · rw[(LO.2 k hk).2,oa wr hpT (hpT 0) (de listed) (de (listed.setIfInBounds i true)) k N (fun j hj Bt=>by
            by_cases fT:j=i
            · subst fT;exact absurd Bt hk
            · exact(mW j fT).symm)]
           exact hb
       · refine⟨?_,?_⟩
         · rcases hk with hk|⟨j,h1,h2,h3⟩
           · exact .inl hk
           · by_cases fT:j=i
             · subst fT;rw[xj]at h2;simp at h2
             · rw[mW j fT]at h2;exact .inr ⟨j,h1,h2,h3⟩
         · rintro⟨q1,q2⟩
           rcases hk with hk|⟨j,h1,h2,h3,h4⟩
           · omega
           · by_cases fT:j=i
             · subst fT;rw[xj]at h2;simp at h2
             · omega
 have h0: ∀i,de (Array.replicate ops.size false) i=false:=by
  intro i
  simp only[de,Array.getD_eq_getD_getElem?]
  by_cases hi:i < ops.size<;>simp[hi]
 refine main ops.size (Array.replicate ops.size false) a _ A ρ (by simp[N]) ?_ (fun k o _ hL=>by rw[h0]at hL;simp at hL) ?_ (dj.drew M w) (cZ.refl _) (bH.refl _ _)
 · have: ∀k,oy (de (Array.replicate ops.size false)) k=k:=by
    intro k
    induction k with
    |zero=>rfl
    |succ k ih=>simp only[oy,ih,h0];simp
   rw[this]
   exact Nat.le_refl _
 · have eT: ∀k,o6 dst v (tmT 0) (de (Array.replicate ops.size false)) k=tmT 0:=by
    intro k
    induction k with
    |zero=>rfl
    |succ k ih=>simp only[o6,h0,Bool.false_eq_true,if_false,ih]
   have eH: ∀k,o9 wr hpT (hpT 0) (de (Array.replicate ops.size false)) k=hpT 0:=by
    intro k
    induction k with
    |zero=>rfl
    |succ k ih=>simp only[o9,h0,Bool.false_eq_true,if_false,ih]
   rw[eT,eH]
   refine cI.drew.sub (fun k hk=>?_)
   simp only[bu]
   rcases hk with hk|⟨j,_,_,h3,_⟩<;>omega
theorem xD {ops:Array Oper} {n base:Nat} {tmT:Nat→TS} {hpT:Nat→HS} {v:Nat→V} {fs:List iI} {id:Nat} {Q:Exit→Act→World→Prop}
 (hfo:P.follows .mixedOrders=true)
 (hstep: ∀i o,ops[i]? =some o→fR P ops o n (tmT i) (hpT i) (base+4 * i) (v i) (hpT (i+1))∧(∀t,find (tmT (i+1)) t=find (fk (tmT i) o.dst (v i)) t)∧
   ∃f,fs[i]? =some f∧f.dst=o.dst∧(∀t,t∈names ops o→t∈f.nm)∧(∀k,k∈jv (St.get ⟨n,tmT i,hpT i⟩) o→k∈f.rd)∧(∀k,k∈vL (St.get ⟨n,tmT i,hpT i⟩) (base+4 * i) o→k∈f.wr))
 (hE: ∀i o,ops[i]? =some o→ ∀e,e∈bf o→e < i)
 (hok:xE (ops.toList.map bf) fs=true)
 (cI:Rel M A ρ (bu base) ⟨n,tmT 0,hpT 0⟩ a w)
 (hQ: ∀a' w',Post M A ρ w (fun st c=>st=⟨n,tmT ops.size,hpT ops.size⟩∧c=base+4 * ops.size) a' w'→Q .normal a' w'):(Code.region id ops true).wp P Q a w:=
 Dm hfo hstep hE hok cI fun a' w' h=>hQ a' w' h.Oi
end Go.aT
end
section
namespace Go.aT
open Go
inductive Rc where
 |skip
 |ret
 |exit (id:Nat)
 |seq (a b:Rc)
 |cond (c:ej) (a b:Rc)
 |block (id:Nat) (b:Rc)
 |loop (b:Rc)
 |region (ops:List lU)
 |draw (ops:List lU) (es:List (List Nat))
def aU (P:Program) (all:Array Oper):List Oper→Option (List lU)
 | []=>some []
 |o::r=>
  match aZ P o,aU P all r with
  |some x,some l=>
   match o.guard with
   |none=>some (⟨o.dst,none,x⟩::l)
   |some (j,want)=>
    match(all[j]?).bind (·.dst)with
    |some d=>some (⟨o.dst,some (d,want),x⟩::l)
    |none=>none
  |_,_=>none
def vU:Nat→List (List Nat)→Bool
 |_,[]=>true
 |i,es::r=>es.all (fun e=>decide (e < i))&&vU (i+1) r
def aS (P:Program):Code→Option Rc
 | .skip=>some .skip
 | .ret=>some .ret
 | .exit id=>some (.exit id)
 | .seq a b=>match aS P a,aS P b with
   |some x,some y=>some (.seq x y)
   |_,_=>none
 | .cond c a b=>match aS P a,aS P b with
   |some x,some y=>some (.cond (dz c) x y)
   |_,_=>none
 | .block id b=>match aS P b with
   |some x=>some (.block id x)
   |none=>none
 | .loop b=>match aS P b with
   |some x=>some (.loop x)
   |none=>none
 | .region _ ops false=>match aU P ops ops.toList with
   |some l=>some (.region l)
   |none=>none
 | .region _ ops true=>match aU P ops ops.toList with
   |some l=>if P.follows .mixedOrders&&vU 0 (ops.toList.map bf)then some (.draw l (ops.toList.map bf))else none
   |none=>none
 |_=>none
def FA (tm:TS):List ej→Option (List W)
 | []=>some []
 |x::r=>match x.get tm,FA tm r with
  | .w u,some l=>some (u::l)
  |_,_=>none
def tw {α:Sort _} (n:Nat) (k:Nat→α):α:=
 match n with
 |0=>k 0
 |m+1=>k (Nat.succ m)
theorem ja {α:Sort _} (n:Nat) (k:Nat→α):tw n k=k n:=by cases n<;>rfl
def AV (tm:TS) (dst:Option Nat) (v:V) (K:TS→Prop):Prop:=
 match dst with
 |some d=>K ((d,v)::tm)
 |none=>K tm
theorem ku (tm:TS) (dst:Option Nat) (v:V) (K:TS→Prop):AV tm dst v K=K (fk tm dst v):=by cases dst<;>rfl
def ZH (v:V) (us:List W):Option (FuncId×List W):=
 match v with
 | .w (.one (.jx f dc))=>some (f,us++dc.map fun p=> .one (.ptr p.1 p.2.1 p.2.2.1 p.2.2.2))
 | .w (.one (.lR f true ts))=>some (f, .agg (ts.map .t)::us)
 | .w (.one (.lR f false [t]))=>some (f, .one (.t t)::us)
 | .w (.one (.t (.val (.func (.func f) first dc))))=>if first.isEmpty&&dc.isEmpty then some (f,us)else none
 |_=>none
def YW (P:Program) (op:Op) (ty:TypeId) (tm:TS) (hp:HS) (ctr:Nat) (v:V) (aG:HS):Prop:=
 (∀get,bQ get ⟨none,op,ty, "", #[],none⟩=none)∧ ∀ (n:Nat) (o:Oper),o.op=op→o.type=ty→aj P (St.get ⟨n,tm,hp⟩) hp ctr o=some (v,aG)
def PL (P:Program) (o:lU) (tm:TS) (hp:HS) (ctr:Nat) (K:TS→HS→Nat→Prop):Prop:=
 match o.op with
 | .call f args=>match FA tm args with
   |some us=> ∃v aG,eU P hp ctr f us v aG∧uB v fun v=>AV tm o.dst v fun bg=>tw (ctr+4) fun c=>K bg aG c
   |none=>False
 | .kJ x args=>match FA tm args with
   |some us=>match ZH (x.get tm) us with
    |some (f,fU)=>enters P f=true∧ ∃v aG,eU P hp ctr f fU v aG∧uB v fun v=>AV tm o.dst v fun bg=>tw (ctr+4) fun c=>K bg aG c
    |none=>False
   |none=>False
 | .raw op ty=> ∃v aG,YW P op ty tm hp ctr v aG∧uB v fun v=>AV tm o.dst v fun bg=>tw (ctr+4) fun c=>K bg aG c
 |r=>XR r tm hp ctr fun v aG=>AV tm o.dst v fun bg=>tw (ctr+4) fun c=>K bg aG c
def j6 (P:Program) (n:Nat) (op:Op) (ty:TypeId) (tm:TS) (hp:HS) (ctr:Nat) (v:V) (aG:HS):Prop:=
 ∀o:Oper,o.op=op→o.type=ty→Ll P o n tm hp ctr v aG
def yX (P:Program) (n:Nat) (o:lU) (tm:TS) (hp:HS) (ctr:Nat) (K:TS→HS→Nat→Prop):Prop:=
 match o.op with
 | .call f args=>match FA tm args with
   |some us=> ∃v aG c',gh P f us hp ctr v aG c'∧uB v fun v=>AV tm o.dst v fun bg=>tw c' fun c=>K bg aG c
   |none=>False
 | .kJ x args=>match FA tm args with
   |some us=>match ZH (x.get tm) us with
    |some (f,fU)=>enters P f=true∧ ∃v aG c',gh P f fU hp ctr v aG c'∧uB v fun v=>AV tm o.dst v fun bg=>tw c' fun c=>K bg aG c
    |none=>False
   |none=>False
 | .raw op ty=> ∃v aG,j6 P n op ty tm hp ctr v aG∧uB v fun v=>AV tm o.dst v fun bg=>tw (ctr+4) fun c=>K bg aG c
 |r=>XR r tm hp ctr fun v aG=>AV tm o.dst v fun bg=>tw (ctr+4) fun c=>K bg aG c
def NE (P:Program) (n:Nat) (o:lU) (tm:TS) (hp:HS) (ctr:Nat) (K:TS→HS→Nat→Prop):Prop:=
 match gZ n o.dst with
 |false=>False
 |true=>
  match o.guard with
  |none=>yX P n o tm hp ctr K
  |some (d,want)=>
   match find tm d with
   |some (.w (.one (.t (.val (.bool b)))))=>
    match want with
    |true=>br b (yX P n o ((d,bV true)::tm) hp ctr K) (K (fk ((d,bV false)::tm) o.dst (.eW [])) hp ctr)
    |false=>br b (K (fk ((d,bV true)::tm) o.dst (.eW [])) hp ctr) (yX P n o ((d,bV false)::tm) hp ctr K)
   |some (.eW [])=>K (fk tm o.dst (.eW [])) hp ctr
   |_=>False
def vI (P:Program) (n:Nat):List lU→TS→HS→Nat→(TS→HS→Nat→Prop)→Prop
 | [],tm,hp,ctr,K=>K tm hp ctr
 |o::r,tm,hp,ctr,K=>NE P n o tm hp ctr fun tm hp ctr=>vI P n r tm hp ctr K
def Ro.iP:Ro→List ej
 | .WI x| .box x| .load _ x| .Dg _ x| .field _ _ x| .extract x _| .len x| .G4 x| .not x| .neg x| .conv _ x| .KS x=>[x]
 | .pick c x y=>[c,x,y]
 | .alloc _=>[]
 | .build _ ps=>ps.map (·.2.2)
 | .xR _ _ ps=>ps.map (·.2)
 | .store _ x y| .CS _ x y| .w5 _ _ x y| .make _ _ x y| .append _ _ x y| .bin _ x y| .KU _ x y| .Ss _ _ x y| .G2 x y| .G3 x y| .I3 x y=>[x,y]
 | .slice _ x lo hi=>x::(lo.toList++hi.toList)
 | .jx _ dc=>dc
 | .call _ xs=>xs
 | .kJ x xs=>x::xs
 | .raw op _=>op.operands.toList.map dz
def Ro.looks:Ro→Bool
 | .raw op _=>Go.aT.looks op
 | .load .. | .store .. | .append .. | .len .. | .G4 .. | .G2 .. | .G3 .. | .call .. | .kJ .. | .conv .. | .KS .. =>true
 |_=>false
def Ro.Zd:Ro→Bool
 | .raw op _=>writes op
 | .store .. | .append .. =>true
 |_=>false
def Wo:ej→Option Nat
 | .t n=>some n
 | .c _=>none
def dN (o:lU) (tm:TS) (ctr:Nat):iI:=
 let rd:=if o.op.looks then o.op.iP.flatMap fun x=>(x.get tm).ids else []
 ⟨o.dst,o.op.iP.filterMap Wo++(o.guard.map (·.1)).toList,rd,four ctr++if o.op.Zd then rd else []⟩
def K9 (P:Program) (n:Nat) (o:lU) (tm:TS) (hp:HS) (ctr:Nat) (K:iI→TS→HS→Nat→Prop):Prop:=
 match gZ n o.dst with
 |false=>False
 |true=>
  match o.guard with
  |none=>PL P o tm hp ctr (K (dN o tm ctr))
  |some (d,want)=>
   match find tm d with
   |some (.w (.one (.t (.val (.bool b)))))=>
    match want with
    |true=>br b (PL P o ((d,bV true)::tm) hp ctr (K (dN o ((d,bV true)::tm) ctr))) (K (dN o ((d,bV false)::tm) ctr) (fk ((d,bV false)::tm) o.dst (.eW [])) hp (ctr+4))
    |false=>br b (K (dN o ((d,bV true)::tm) ctr) (fk ((d,bV true)::tm) o.dst (.eW [])) hp (ctr+4)) (PL P o ((d,bV false)::tm) hp ctr (K (dN o ((d,bV false)::tm) ctr)))
   |some (.eW [])=>K (dN o tm ctr) (fk tm o.dst (.eW [])) hp (ctr+4)
   |_=>False
def sc (P:Program) (n:Nat):List lU→List iI→TS→HS→Nat→(List iI→TS→HS→Nat→Prop)→Prop
 | [],fs,tm,hp,ctr,K=>K fs tm hp ctr
 |o::r,fs,tm,hp,ctr,K=>K9 P n o tm hp ctr fun f tm hp ctr=>sc P n r (fs++[f]) tm hp ctr K
def iM (K:TS→HS→Nat→Prop) (Q:Exit→TS→HS→Nat→Prop):Exit→TS→HS→Nat→Prop
 | .normal=>K
 |e=>Q e
def Aw (id:Nat) (Q:Exit→TS→HS→Nat→Prop):Exit→TS→HS→Nat→Prop
 | .exit id'=>if id'=id then Q .normal else Q (.exit id')
 |e=>Q e
def dK (tm:TS) (hp:HS) (ctr:Nat) (bg:TS) (aG:HS) (c':Nat):Prop:=
 ∀ (M A:Nat→Prop) (ρ:Env) (n:Nat) (a:Act) (w:World),Rel M A ρ (bu ctr) ⟨n,tm,hp⟩ a w→ ∃A' ρ',Rel M A' ρ' (bu c') ⟨n,bg,aG⟩ a w∧iZ ρ ρ'∧gD M A A' w
theorem dK.av {tm:TS} {hp:HS} {ctr:Nat} {S:Ren} (hok:S.ok=true):dK tm hp ctr (S.tm tm) (S.hp hp) S.ctr:=fun M A _ _ _ w hr=>by
 obtain⟨ρ',h1,h2⟩:=hr.av hok
 exact⟨A,ρ',h1,h2,gD.refl M A w⟩
theorem dK.refl {tm:TS} {hp:HS} {ctr:Nat}:dK tm hp ctr tm hp ctr:=fun M A ρ _ _ w hr=>⟨A,ρ,hr,iZ.refl _,gD.refl M A w⟩
theorem dK.trans {tm mX tm2:TS} {hp hp1 hp2:HS} {c c1 c2:Nat} (h:dK tm hp c mX hp1 c1) (k:dK mX hp1 c1 tm2 hp2 c2):dK tm hp c tm2 hp2 c2:=by
 intro M A ρ n a w hr
 obtain⟨A1,ρ1,h1,e1,g1⟩:=h M A ρ n a w hr
 obtain⟨A2,ρ2,h2,e2,g2⟩:=k M A1 ρ1 n a w h1
 exact⟨A2,ρ2,h2,e1.trans e2,g1.trans g2 (Nat.le_refl _)⟩
inductive bU (J:TS→HS→Nat→Prop):TS→HS→Nat→Prop
 |mk {tm:TS} {hp:HS} {ctr:Nat} (S:Ren) (hok:S.ok=true) (h:J (S.tm tm) (S.hp hp) S.ctr):bU J tm hp ctr
 |sem {tm:TS} {hp:HS} {ctr:Nat} {bg:TS} {aG:HS} {c':Nat} (hw:dK tm hp ctr bg aG c') (h:bU J bg aG c'):bU J tm hp ctr
theorem bU.mk' {J:TS→HS→Nat→Prop} {tm:TS} {hp:HS} {ctr:Nat} (h: ∃S:Ren,S.ok=true∧J (S.tm tm) (S.hp hp) S.ctr):bU J tm hp ctr:=by
 obtain⟨S,h1,h2⟩:=h
 exact .mk S h1 h2
theorem bU.get {J:TS→HS→Nat→Prop} {tm:TS} {hp:HS} {ctr:Nat} (h:bU J tm hp ctr): ∃bg aG c',dK tm hp ctr bg aG c'∧J bg aG c':=by
 induction h with
 |mk S hok h=>exact⟨_,_,_,dK.av hok,h⟩
 |sem hw _ ih=>
  obtain⟨bg,aG,c',h1,h2⟩:=ih
  exact⟨bg,aG,c',hw.trans h1,h2⟩
def X (P:Program) (n:Nat):Rc→(Exit→TS→HS→Nat→Prop)→TS→HS→Nat→Prop
 | .skip,Q,tm,hp,ctr=>Q .normal tm hp ctr
 | .ret,Q,tm,hp,ctr=>Q .ret tm hp ctr
 | .exit id,Q,tm,hp,ctr=>Q (.exit id) tm hp ctr
 | .seq a b,Q,tm,hp,ctr=>X P n a (iM (X P n b Q) Q) tm hp ctr
 | .cond c a b,Q,tm,hp,ctr=>
   match(c.get tm).ia with
   |some v=>br v (X P n a Q tm hp ctr) (X P n b Q tm hp ctr)
   |none=>False
 | .block id b,Q,tm,hp,ctr=>X P n b (Aw id Q) tm hp ctr
 | .loop b,Q,tm,hp,ctr=> ∃I:Nat→TS→HS→Nat→Prop,bU (fun tm hp c=> ∃m,I m tm hp c) tm hp ctr∧
    ∀m tm hp c,I m tm hp c→X P n b (iM (bU fun tm hp c=> ∃m',m' < m∧I m' tm hp c) Q) tm hp c
 | .region ops,Q,tm,hp,ctr=>vI P n ops tm hp ctr (Q .normal)
 | .draw ops es,Q,tm,hp,ctr=>sc P n ops [] tm hp ctr fun fs tm hp ctr=>xE es fs=true∧Q .normal tm hp ctr
variable {P:Program} {M A:Nat→Prop} {ρ:Env} {F:Nat→Prop} {st:St} {a:Act} {w:World}
theorem qd (st:St): ∀ (xs:List Operand),FA st.tmps (xs.map dz)=qf st.get xs
 | []=>rfl
 |x::r=>by simp only[List.map_cons,FA,qf,bi,qd st r];rfl
def o7 (n:Nat) (K:TS→HS→Nat→Prop):St→Nat→Prop:=fun st c=>st.n=n∧K st.tmps st.heap c
theorem yw {o:Oper} {f:FuncId} {args:List ej} (h:aK P o=some (.call f args)):
 ∃fQ gF,o.op= .call ⟨.value (.func f),fQ,gF⟩∧args=fQ.toList.map dz∧enters P f=true:=by
 obtain⟨dst,op,ty,pos,after,guard⟩:=o
 cases op
 case call c=>
  obtain⟨callee,fQ,gF⟩:=c
  simp only[aK]at h
  split at h
  · split at h
    · split at h
      · simp at h
      · simp at h
      · simp at h
    · simp at h
  · split at h
    · simp at h
    · simp at h
  · split at h
    · simp at h
    · simp at h
  · split at h
    · split at h
      · split at h
        · split at h
          · simp at h
          · simp at h
        · simp at h
      · simp at h
    · simp at h
  · rename_i g
    split at h
    · rename_i he
      simp only[Option.some.injEq,Ro.call.injEq]at h
      obtain⟨rfl,rfl⟩:=h
      exact⟨fQ,gF,rfl,rfl,he⟩
    · simp at h
  · simp at h
 all_goals
  exfalso
  simp only[aK]at h
  repeat' (split at h)
  all_goals first
   |contradiction
   |(simp at h;done)
   |(simp[Option.map_eq_some_iff]at h;done)
theorem mv {o:Oper} {f:FuncId} {args:List ej} (h:aZ P o=some (.call f args)):
 ∃fQ gF,o.op= .call ⟨.value (.func f),fQ,gF⟩∧args=fQ.toList.map dz∧enters P f=true:=by
 unfold aZ at h
 split at h
 · rename_i r' dB
   replace dB:=dO dB
   simp only[Option.some.injEq]at h
   subst h
   exact yw dB
 · simp only[Option.some.injEq]at h
   rcases lB o with⟨t,args,gF,_,e⟩|e
   · rw[e]at h;simp at h
   · rw[e]at h;simp at h
theorem wD {o:Oper} {x:ej} {args:List ej} (h:aK P o=some (.kJ x args)):False:=by
 obtain⟨dst,op,ty,pos,after,guard⟩:=o
 cases op<;>simp only[aK]at h
 all_goals (repeat' split at h)
 all_goals simp at h
theorem AR {o:Oper} {op:Op} {ty:TypeId} (h:aK P o=some (.raw op ty)):False:=by
 obtain⟨dst,op,ty,pos,after,guard⟩:=o
 cases op<;>simp only[aK]at h
 all_goals (repeat' split at h)
 all_goals simp at h
theorem kP {o:Oper} {x:ej} {args:List ej} (h:aZ P o=some (.kJ x args)): ∃t fQ gF,o.op= .call ⟨.value (.tmp t),fQ,gF⟩∧x= .t t∧args=fQ.toList.map dz:=by
 unfold aZ at h
 split at h
 · rename_i r hr
   replace hr:=dO hr
   simp only[Option.some.injEq]at h
   subst h
   exfalso
   exact wD hr
 · simp only[Option.some.injEq]at h
   rcases lB o with⟨t,fQ,gF,ho,e⟩|e
   · rw[e]at h
     simp only[Ro.kJ.injEq]at h
     exact⟨t,fQ,gF,ho,h.1.symm,h.2.symm⟩
   · rw[e]at h;simp at h
theorem kq {o:Oper} {op:Op} {ty:TypeId} (h:aZ P o=some (.raw op ty)):op=o.op∧ty=o.type:=by
 unfold aZ at h
 split at h
 · rename_i r hr
   replace hr:=dO hr
   simp only[Option.some.injEq]at h
   subst h
   exfalso
   exact AR hr
 · simp only[Option.some.injEq]at h
   rcases lB o with⟨t,fQ,gF,ho,e⟩|e
   · rw[e]at h;simp at h
   · rw[e]at h
     simp only[Ro.raw.injEq]at h
     exact⟨h.1.symm,h.2.symm⟩
theorem yX.wpOp {ops:Array Oper} {o:Oper} {i:Nat} {x:Ro} {g:Option (Nat×Bool)} {ctr:Nat} {K:TS→HS→Nat→Prop} (hi:ops[i]? =some o) (hx:aZ P o=some x)
 (hd:gZ st.n o.dst=true) (hg:aX ops o st.tmps=some true) (h:yX P st.n ⟨o.dst,g,x⟩ st.tmps st.heap ctr K):lT P ops i (o7 st.n K) st ctr:=by
 unfold lT
 simp only[hi]
 refine⟨hd,?_⟩
 simp only[hg]
 unfold yX at h
 split at h
 · rename_i f args lJ
   simp only at lJ
   subst lJ
   obtain⟨fQ,gF,ho,rfl,od⟩:=mv hx
   simp only[qd]at h
   split at h
   · rename_i us gO
     obtain⟨v,aG,c',hc,hK⟩:=h
     rw[dZ,ku,ja]at hK
     have yN:bQ st.get o=some (f,us):=by
      unfold bQ
      rw[ho]
      simp only[St.get,V.ofValue,gO]
      rfl
     exact .inl ⟨f,us,yN,od,v,aG,c',hc,by rw[vO];exact⟨rfl,hK⟩⟩
   · exact h.elim
 · rename_i y args lJ
   simp only at lJ
   subst lJ
   obtain⟨t,fQ,gF,ho,rfl,rfl⟩:=kP hx
   simp only[qd]at h
   split at h
   · rename_i us gO
     split at h
     · rename_i f fU hf
       obtain⟨od,v,aG,c',hc,hK⟩:=h
       rw[dZ,ku,ja]at hK
       have hv:st.get (.tmp t)=(ej.t t).get st.tmps:=(bi st (.tmp t)).symm
       have yN:bQ st.get o=some (f,fU):=by
        unfold bQ
        rw[ho]
        unfold ZH at hf
        split at hf
        · rename_i kB
          simp only[Option.some.injEq,Prod.mk.injEq]at hf
          obtain⟨rfl,rfl⟩:=hf
          simp only[hv,kB,gO]
        · rename_i kB
          simp only[Option.some.injEq,Prod.mk.injEq]at hf
          obtain⟨rfl,rfl⟩:=hf
          simp only[hv,kB,gO,nR,Option.map_some]
        · rename_i kB
          simp only[Option.some.injEq,Prod.mk.injEq]at hf
          obtain⟨rfl,rfl⟩:=hf
          simp only[hv,kB,gO,nR,Option.map_some]
        · rename_i kB
          simp only[hv,kB,gO]
          exact hf
        · simp at hf
       exact .inl ⟨f,fU,yN,od,v,aG,c',hc,by rw[vO];exact⟨rfl,hK⟩⟩
     · exact h.elim
   · exact h.elim
 · rename_i op ty lJ
   simp only at lJ
   subst lJ
   obtain⟨rfl,rfl⟩:=kq hx
   obtain⟨v,aG,TF,hK⟩:=h
   rw[dZ,ku,ja]at hK
   exact .inr ⟨v,aG,TF o rfl rfl,by rw[vO];exact⟨rfl,hK⟩⟩
 · simp only[ku,ja]at h
   obtain⟨h1,v,heap',h2,h3⟩:=xY hx h
   exact .inr ⟨v,heap',mI h2,by rw[vO];exact⟨rfl,h3⟩⟩
theorem Rel.lit {n:Nat} {tm:TS} {hp:HS} {d:Nat} {b c:Bool} (h:Rel M A ρ F ⟨n,tm,hp⟩ a w) (hf:find tm d=some (bV b)) (hb:b=c):Rel M A ρ F ⟨n,(d,bV c)::tm,hp⟩ a w:=by
 subst hb
 refine h.forget rfl (fun t v hv=>?_) (fun _ _ h=>h)
 simp only[aA]at hv
 split at hv
 · rename_i e;subst e;rw[←hv];exact hf
 · exact hv
theorem NE.sound {ops:Array Oper} {o:Oper} {i n:Nat} {x:Ro} {g:Option (Nat×Bool)} {ctr:Nat} {tm:TS} {hp:HS} {K:TS→HS→Nat→Prop} {Q:Exit→Act→World→Prop} {K':Act→World→Prop}
 (hi:ops[i]? =some o) (hx:aZ P o=some x) (hgd:(o.guard=none∧g=none)∨ ∃j want d,o.guard=some (j,want)∧(ops[j]?).bind (·.dst)=some d∧g=some (d,want))
 (h:NE P n ⟨o.dst,g,x⟩ tm hp ctr K) (hr:Rel M A ρ (bu ctr) ⟨n,tm,hp⟩ a w) (hk: ∀a' w',Post M A ρ w (o7 n K) a' w'→K' a' w'):wpOp P ops Q i K' a w:=by
 unfold NE at h
 split at h
 · exact h.elim
 · rename_i hd
   simp only at hd
   have ix: ∀ {bg:TS},Rel M A ρ (bu ctr) ⟨n,bg,hp⟩ a w→aX ops o bg=some false→K (fk bg o.dst (.eW [])) hp ctr→wpOp P ops Q i K' a w:=by
    intro bg dB jI hK
    refine lT.sound (K:=o7 n K) (ctr:=ctr) ?_ dB hk
    unfold lT
    simp only[hi]
    refine⟨hd,?_⟩
    simp only[jI,lC]
    exact⟨rfl,hK⟩
   have wanted: ∀ {bg:TS},Rel M A ρ (bu ctr) ⟨n,bg,hp⟩ a w→aX ops o bg=some true→yX P n ⟨o.dst,g,x⟩ bg hp ctr K→wpOp P ops Q i K' a w:=by
    intro bg dB jI hX
    exact lT.sound (K:=o7 n K) (ctr:=ctr) (yX.wpOp (st:=⟨n,bg,hp⟩) hi hx hd jI hX) dB hk
   rcases hgd with⟨B1,rfl⟩|⟨j,want,d,B1,hj,rfl⟩
   · simp only at h
     exact wanted hr (by simp[aX,B1]) h
   · have fB: ∀ {bg:TS} {b:Bool},find bg d=some (bV b)→aX ops o bg=some (b==want):=by
      intro bg b hf
      simp only[aX,B1,hj,hf]
     simp only at h
     split at h
     · rename_i b hf
       split at h
       · rcases jG h with⟨hb,h⟩|⟨hb,h⟩
         · exact wanted (hr.lit hf hb) (by rw[fB (b:=true) (by simp[aA])];rfl) h
         · exact ix (hr.lit hf hb) (by rw[fB (b:=false) (by simp[aA])];rfl) h
       · rcases jG h with⟨hb,h⟩|⟨hb,h⟩
         · exact ix (hr.lit hf hb) (by rw[fB (b:=true) (by simp[aA])];rfl) h
         · exact wanted (hr.lit hf hb) (by rw[fB (b:=false) (by simp[aA])];rfl) h
     · rename_i hf
       exact ix hr (by simp only[aX,B1,hj,hf]) h
     · exact h.elim
theorem vI.sound {ops:Array Oper} {n:Nat} {K:TS→HS→Nat→Prop} {Q:Exit→Act→World→Prop}: ∀ {l:List Oper} {rs:List lU} {k:Nat} {M A:Nat→Prop} {ρ:Env} {tm:TS} {hp:HS} {a:Act} {w:World} {ctr:Nat},
 (∀j,ops[k+j]? =l[j]?)→aU P ops l=some rs→vI P n rs tm hp ctr K→Rel M A ρ (bu ctr) ⟨n,tm,hp⟩ a w→(∀a' w',Post M A ρ w (o7 n K) a' w'→Q .normal a' w')→
 wpOps P ops Q (List.range' k l.length) a w
 | [],rs,k,M,A,ρ,tm,hp,a,w,ctr,hl,eO,h,hr,hq=>by
   simp only[aU,Option.some.injEq]at eO
   subst eO
   exact hq _ _ (Post.here hr ⟨rfl,h⟩)
 |o::l,rs,k,M,A,ρ,tm,hp,a,w,ctr,hl,eO,h,hr,hq=>by
  simp only[aU]at eO
  split at eO
  · rename_i x l' hx hl'
    have hi:ops[k]? =some o:=by simpa using hl 0
    have rest: ∀ {g:Option (Nat×Bool)},rs=⟨o.dst,g,x⟩::l'→((o.guard=none∧g=none)∨ ∃j want d,o.guard=some (j,want)∧(ops[j]?).bind (·.dst)=some d∧g=some (d,want))→wpOps P ops Q (List.range' k (l.length+1)) a w:=by
     intro g Ru hgd
     subst Ru
     simp only[vI]at h
     rw[List.range'_succ,wpOps_cons]
     refine NE.sound hi hx hgd h hr (fun a' w' aG=>?_)
     obtain⟨st',c',A',ρ',⟨h1,IG⟩,h2,h3,h4,h5⟩:=aG
     subst h1
     exact vI.sound (k:=k+1) (fun j=>by have:=hl (j+1);rw[show k+1+j=k+(j+1) by omega,this];simp) hl' IG h2 (fun a2 w2 hp2=>hq _ _ (hp2.trans h3 h4 h5))
    split at eO
    · rename_i hg
      simp only[Option.some.injEq]at eO
      exact rest eO.symm (.inl ⟨hg,rfl⟩)
    · rename_i j want hg
      split at eO
      · rename_i d hd
        simp only[Option.some.injEq]at eO
        exact rest eO.symm (.inr ⟨j,want,d,hg,hd,rfl⟩)
      · simp at eO
  · simp at eO
theorem CR (v:Value):(V.ofValue v).ids=[]:=by
 cases v with
 |agg cs=>
  simp only[V.ofValue]
  split
  · simp only[V.ids,W.ids,List.flatMap_eq_nil_iff,List.mem_map]
    rintro c ⟨x,_,rfl⟩
    rfl
  · rfl
 |_=>rfl
theorem qy {place:Nat→Option (Nat×Nat)}: ∀ {ps:List (Nat×Operand)} {l:List (Nat×Nat×ej)},nW place ps=some l→ ∀p,p∈ps→dz p.2∈l.map (·.2.2)
 | [],l,h,p,hp=>by simp at hp
 |(i,x)::r,l,h,p,hp=>by
  simp only[nW]at h
  split at h
  · rename_i off size l' h1 h2
    simp only[Option.some.injEq]at h
    subst h
    rcases List.mem_cons.1 hp with rfl|hp
    · simp
    · simp only[List.map_cons,List.mem_cons];exact .inr (qy h2 p hp)
  · simp at h
theorem yt {o:Oper} {r:Ro} (h:aK P o=some r):(∀x,x∈o.op.operands→dz x∈r.iP∨ ∃f,x= .func f)∧(looks o.op=true→r.looks=true)∧(writes o.op=true→r.Zd=true):=by
 obtain⟨dst,op,ty,pos,after,guard⟩:=o
 cases op
 case call c=>
  obtain⟨callee,args,gF⟩:=c
  simp only[aK]at h
  split at h
  · split at h
    · rename_i x t hx ht
      split at h
      · simp only[Option.some.injEq]at h
        subst h
        refine⟨fun y hy=>?_,fun _=>rfl,fun hw=>by simp[writes]at hw⟩
        have:y∈args.toList:=by simpa[Op.operands,Call.operands]using hy
        rw[hx]at this
        simp only[List.mem_singleton]at this
        subst this
        exact .inl (by simp[Ro.iP])
      · simp only[Option.some.injEq]at h
        subst h
        refine⟨fun y hy=>?_,fun _=>rfl,fun hw=>by simp[writes]at hw⟩
        have:y∈args.toList:=by simpa[Op.operands,Call.operands]using hy
        rw[hx]at this
        simp only[List.mem_singleton]at this
        subst this
        exact .inl (by simp[Ro.iP])
      · simp at h
    · simp at h
  · split at h
    · rename_i x y hx
      simp only[Option.some.injEq]at h
      subst h
      refine⟨fun z hz=>?_,fun _=>rfl,fun hw=>by simp[writes]at hw⟩
      have:z∈args.toList:=by simpa[Op.operands,Call.operands]using hz
      rw[hx]at this
      simp only[List.mem_cons,List.not_mem_nil,or_false]at this
      rcases this with rfl|rfl
      · exact .inl (by simp[Ro.iP])
      · exact .inl (by simp[Ro.iP])
    · simp at h
  · split at h
    · rename_i x y hx
      simp only[Option.some.injEq]at h
      subst h
      refine⟨fun z hz=>?_,fun _=>rfl,fun hw=>by simp[writes]at hw⟩
      have:z∈args.toList:=by simpa[Op.operands,Call.operands]using hz
      rw[hx]at this
      simp only[List.mem_cons,List.not_mem_nil,or_false]at this
      rcases this with rfl|rfl
      · exact .inl (by simp[Ro.iP])
      · exact .inl (by simp[Ro.iP])
    · simp at h
  · split at h
    · rename_i s x t t' hx ht
      split at h
      · split at h
        · split at h
          · simp only[Option.some.injEq]at h
            subst h
            refine⟨fun y hy=>?_,fun _=>rfl,fun _=>rfl⟩
            have:y∈args.toList:=by simpa[Op.operands,Call.operands]using hy
            rw[hx]at this
            simp only[List.mem_cons,List.not_mem_nil,or_false]at this
            rcases this with rfl|rfl
            · exact .inl (by simp[Ro.iP])
            · exact .inl (by simp[Ro.iP])
          · simp at h
        · simp at h
      · simp at h
    · simp at h
  · rename_i f
    split at h
    · simp only[Option.some.injEq]at h
      subst h
      refine⟨fun y hy=>?_,fun _=>rfl,fun hw=>by simp[writes]at hw⟩
      simp only[Op.operands,Call.operands,Array.mem_append]at hy
      rcases hy with hy|hy
      · exact .inr ⟨f,by simpa using hy⟩
      · exact .inl (by simp only[Ro.iP,List.mem_map];exact⟨y,by simpa using hy,rfl⟩)
    · simp at h
  · simp at h
 case build t ps=>
  simp only[aK]at h
  split at h
  · split at h
    · simp only[Option.map_eq_some_iff]at h
      obtain⟨l,hl,rfl⟩:=h
      refine⟨fun y hy=>?_,fun hl=>by simp[looks]at hl,fun hw=>by simp[writes]at hw⟩
      simp[Op.operands]at hy
      obtain⟨i,hi⟩:=hy
      exact .inl (qy hl (i,y) (by simpa using hi))
    · simp at h
  · split at h
    · simp only[Option.map_eq_some_iff]at h
      obtain⟨l,hl,rfl⟩:=h
      refine⟨fun y hy=>?_,fun hl=>by simp[looks]at hl,fun hw=>by simp[writes]at hw⟩
      simp[Op.operands]at hy
      obtain⟨i,hi⟩:=hy
      exact .inl (qy hl (i,y) (by simpa using hi))
    · simp at h
  · simp at h
 case buildSlice t len ps=>
  simp only[aK]at h
  split at h
  · split at h
    · split at h
      · simp only[Option.some.injEq]at h
        subst h
        refine⟨fun y hy=>?_,fun hl=>by simp[looks]at hl,fun hw=>by simp[writes]at hw⟩
        simp[Op.operands]at hy
        obtain⟨i,hi⟩:=hy
        refine .inl ?_
        simp only[Ro.iP,List.map_map,List.mem_map]
        exact⟨(i,y),by simpa using hi,rfl⟩
      · simp at h
    · simp at h
  · simp at h
 case makeFunc fn first captured=>
  cases fn with
  |func f=>
   simp only[aK]at h
   split at h
   · rename_i hc
     simp only[Option.some.injEq]at h
     subst h
     simp only[Bool.and_eq_true,Array.isEmpty_iff]at hc
     obtain⟨rfl,_⟩:=hc
     refine⟨fun y hy=>?_,fun hl=>by simp[looks]at hl,fun hw=>by simp[writes]at hw⟩
     refine .inl ?_
     simp only[Ro.iP,List.mem_map]
     exact⟨y,by simpa[Op.operands]using hy,rfl⟩
   · simp at h
  |_=>simp[aK]at h
 case slice t x lo hi mx=>
  cases mx with
  |some m=>simp[aK]at h
  |none=>
   simp only[aK]at h
   split at h
   · simp only[Option.map_eq_some_iff]at h
     obtain⟨n,hn,rfl⟩:=h
     refine⟨fun y hy=>?_,fun hl=>by simp[looks]at hl,fun hw=>by simp[writes]at hw⟩
     refine .inl ?_
     cases lo<;>cases hi<;>simp[Op.operands,Ro.iP]at hy⊢ <;>(first|(rcases hy with rfl|rfl|rfl<;>simp)|(rcases hy with rfl|rfl<;>simp)|(subst hy;simp))
   · simp at h
 case unOp op t x=>
  cases op<;>simp only[aK]at h<;>try (simp at h;done)
  all_goals
   simp only[Option.some.injEq]at h
   subst h
   refine⟨fun y hy=>?_,fun hl=>by simp[looks]at hl,fun hw=>by simp[writes]at hw⟩
   simp[Op.operands]at hy
   subst hy
   simp[Ro.iP]
 all_goals
  simp only[aK]at h
  repeat' (split at h)
  all_goals first
   |contradiction
   |(simp at h;done)
   |(simp only[Option.some.injEq]at h
     subst h
     refine⟨fun y hy=>?_,fun hl=>by first|rfl|(simp[looks]at hl;done),fun hw=>by first|rfl|(simp[writes]at hw;done)⟩
     first
      |(simp[Op.operands]at hy;done)
      |(simp[Op.operands]at hy;rcases hy with rfl|rfl|rfl<;>simp[Ro.iP];done)
      |(simp[Op.operands]at hy;rcases hy with rfl|rfl<;>simp[Ro.iP];done)
      |(simp[Op.operands]at hy;subst hy;simp[Ro.iP];done))
   |(simp only[Option.map_eq_some_iff]at h
     obtain⟨q,hq,rfl⟩:=h
     refine⟨fun y hy=>?_,fun hl=>by first|rfl|(simp[looks]at hl;done),fun hw=>by first|rfl|(simp[writes]at hw;done)⟩
     first
      |(simp[Op.operands]at hy;done)
      |(simp[Op.operands]at hy;rcases hy with rfl|rfl|rfl<;>simp[Ro.iP];done)
      |(simp[Op.operands]at hy;rcases hy with rfl|rfl<;>simp[Ro.iP];done)
      |(simp[Op.operands]at hy;subst hy;simp[Ro.iP];done))
theorem PL.step {o:Oper} {x:Ro} {g:Option (Nat×Bool)} {n ctr:Nat} {tm:TS} {hp:HS} {K:TS→HS→Nat→Prop} (hx:aZ P o=some x) (h:PL P ⟨o.dst,g,x⟩ tm hp ctr K):
 ∃v aG,(match bQ (St.get ⟨n,tm,hp⟩) o with
  |some (g,us)=>enters P g=true∧eU P hp ctr g us v aG
  |none=>aj P (St.get ⟨n,tm,hp⟩) hp ctr o=some (v,aG))∧K (fk tm o.dst v) aG (ctr+4):=by
 unfold PL at h
 split at h
 · rename_i f args lJ
   simp only at lJ
   subst lJ
   obtain⟨fQ,gF,ho,rfl,od⟩:=mv hx
   have EI:=qd ⟨n,tm,hp⟩ fQ.toList
   simp only at EI
   rw[EI]at h
   split at h
   · rename_i us gO
     obtain⟨v,aG,hc,hK⟩:=h
     rw[dZ,ku,ja]at hK
     have yN:bQ (St.get ⟨n,tm,hp⟩) o=some (f,us):=by
      unfold bQ
      rw[ho]
      have hf:St.get ⟨n,tm,hp⟩ (.func f)= .w (.one (.t (.val (.func (.func f) #[] #[])))):=rfl
      simp only[hf,gO]
      rfl
     exact⟨v,aG,by rw[yN];exact⟨od,hc⟩,hK⟩
   · exact h.elim
 · rename_i y args lJ
   simp only at lJ
   subst lJ
   obtain⟨t,fQ,gF,ho,rfl,rfl⟩:=kP hx
   have EI:=qd ⟨n,tm,hp⟩ fQ.toList
   simp only at EI
   rw[EI]at h
   split at h
   · rename_i us gO
     split at h
     · rename_i f fU hf
       obtain⟨od,v,aG,hc,hK⟩:=h
       rw[dZ,ku,ja]at hK
       have hv:St.get ⟨n,tm,hp⟩ (.tmp t)=(ej.t t).get tm:=(bi ⟨n,tm,hp⟩ (.tmp t)).symm
       have yN:bQ (St.get ⟨n,tm,hp⟩) o=some (f,fU):=by
        unfold bQ
        rw[ho]
        unfold ZH at hf
        split at hf
        · rename_i kB
          simp only[Option.some.injEq,Prod.mk.injEq]at hf
          obtain⟨rfl,rfl⟩:=hf
          simp only[hv,kB,gO]
        · rename_i kB
          simp only[Option.some.injEq,Prod.mk.injEq]at hf
          obtain⟨rfl,rfl⟩:=hf
          simp only[hv,kB,gO,nR,Option.map_some]
        · rename_i kB
          simp only[Option.some.injEq,Prod.mk.injEq]at hf
          obtain⟨rfl,rfl⟩:=hf
          simp only[hv,kB,gO,nR,Option.map_some]
        · rename_i kB
          simp only[hv,kB,gO]
          exact hf
        · simp at hf
       exact⟨v,aG,by rw[yN];exact⟨od,hc⟩,hK⟩
     · exact h.elim
   · exact h.elim
 · rename_i op ty lJ
   simp only at lJ
   subst lJ
   obtain⟨rfl,rfl⟩:=kq hx
   obtain⟨v,aG,⟨yN,dU⟩,hK⟩:=h
   rw[dZ,ku,ja]at hK
   have agR:bQ (St.get ⟨n,tm,hp⟩) o=none:=by
    have:=yN (St.get ⟨n,tm,hp⟩)
    unfold bQ at this⊢
    exact this
   exact⟨v,aG,by rw[agR];exact dU n o rfl rfl,hK⟩
 · rename_i r hne
   simp only[ku,ja]at h
   obtain⟨h1,v,aG,h2,h3⟩:=xY (st:=⟨n,tm,hp⟩) hx h
   exact⟨v,aG,by rw[h1];exact h2,h3⟩
theorem AQ {o:Oper} {r:Ro} (h:aZ P o=some r):(∀x,x∈o.op.operands→dz x∈r.iP∨ ∃f,x= .func f)∧(looks o.op=true→r.looks=true)∧(writes o.op=true→r.Zd=true):=by
 unfold aZ at h
 split at h
 · rename_i r' dB
   replace dB:=dO dB
   simp only[Option.some.injEq]at h
   subst h
   exact yt dB
 · simp only[Option.some.injEq]at h
   subst h
   rcases lB o with⟨t,args,gF,ho,e⟩|e
   · rw[e,ho]
     refine⟨fun x hx=> .inl ?_,fun _=>rfl,fun hw=>by simp[writes]at hw⟩
     have hx':x= .tmp t∨x∈args:=by simpa[Op.operands,Call.operands]using hx
     simp only[Ro.iP,List.mem_cons,List.mem_map]
     rcases hx' with rfl|hx'
     · exact .inl rfl
     · exact .inr ⟨x,by simpa using hx',rfl⟩
   · rw[e]
     refine⟨fun x hx=> .inl ?_,fun hl=>hl,fun hw=>hw⟩
     simp only[Ro.iP,List.mem_map]
     exact⟨x,by simpa using hx,rfl⟩
theorem zX {ops:Array Oper} {o:Oper} {x:Ro} {g:Option (Nat×Bool)} {n ctr:Nat} {tm:TS} {hp:HS} (hx:aZ P o=some x)
 (hgd:(o.guard=none∧g=none)∨ ∃j want d,o.guard=some (j,want)∧(ops[j]?).bind (·.dst)=some d∧g=some (d,want)):
 (dN ⟨o.dst,g,x⟩ tm ctr).dst=o.dst∧(∀t,t∈names ops o→t∈ (dN ⟨o.dst,g,x⟩ tm ctr).nm)∧(∀k,k∈jv (St.get ⟨n,tm,hp⟩) o→k∈ (dN ⟨o.dst,g,x⟩ tm ctr).rd)∧
   (∀k,k∈vL (St.get ⟨n,tm,hp⟩) ctr o→k∈ (dN ⟨o.dst,g,x⟩ tm ctr).wr):=by
 obtain⟨h1,h2,h3⟩:=AQ hx
 have hrd: ∀k,k∈jv (St.get ⟨n,tm,hp⟩) o→k∈ (dN ⟨o.dst,g,x⟩ tm ctr).rd:=by
  intro k hk
  simp only[jv]at hk
  split at hk
  · rename_i hl
    simp only[dN,h2 hl,if_true,List.mem_flatMap]
    simp only[List.mem_flatMap]at hk
    obtain⟨y,hy,Zw⟩:=hk
    rw[←bi]at Zw
    rcases h1 y (by simpa using hy)with hm|⟨f,rfl⟩
    · exact⟨dz y,hm,Zw⟩
    · simp only[dz,ej.get,CR]at Zw
      simp at Zw
  · simp at hk
 refine⟨rfl,fun t ht=>?_,hrd,fun k hk=>?_⟩
 · simp only[names,List.mem_append,List.mem_filterMap]at ht
   simp only[dN,List.mem_append,List.mem_filterMap]
   rcases ht with⟨y,hy,hyt⟩|ht
   · left
     cases y with
     |tmp t'=>
      simp only[Option.some.injEq]at hyt
      subst hyt
      rcases h1 (.tmp t') (by simpa using hy)with hm|⟨f,hf⟩
      · exact⟨.t t',hm,rfl⟩
      · simp at hf
     |_=>simp at hyt
   · right
     rcases hgd with⟨hg,rfl⟩|⟨j,want,d,hg,hd,rfl⟩
     · simp[hg]at ht
     · simp only[hg,hd]at ht
       simpa using ht
 · simp only[vL,List.mem_append]at hk
   simp only[dN,List.mem_append]
   rcases hk with hk|hk
   · exact .inl hk
   · split at hk
     · rename_i hw
       right
       rw[if_pos (h3 hw)]
       exact hrd k hk
     · simp at hk
theorem K9.step {ops:Array Oper} {o:Oper} {n ctr:Nat} {x:Ro} {g:Option (Nat×Bool)} {tm:TS} {hp:HS} {K:iI→TS→HS→Nat→Prop}
 (hx:aZ P o=some x) (hgd:(o.guard=none∧g=none)∨ ∃j want d,o.guard=some (j,want)∧(ops[j]?).bind (·.dst)=some d∧g=some (d,want)) (h:K9 P n ⟨o.dst,g,x⟩ tm hp ctr K):
 ∃bg v aG,(∀t,find bg t=find tm t)∧fR P ops o n bg hp ctr v aG∧K (dN ⟨o.dst,g,x⟩ bg ctr) (fk bg o.dst v) aG (ctr+4):=by
 unfold K9 at h
 split at h
 · exact h.elim
 · rename_i hd
   simp only at hd
   have wanted: ∀ {bg:TS},(∀t,find bg t=find tm t)→aX ops o bg=some true→PL P ⟨o.dst,g,x⟩ bg hp ctr (K (dN ⟨o.dst,g,x⟩ bg ctr))→
    ∃bg v aG,(∀t,find bg t=find tm t)∧fR P ops o n bg hp ctr v aG∧K (dN ⟨o.dst,g,x⟩ bg ctr) (fk bg o.dst v) aG (ctr+4):=by
    intro bg he hg hX
    obtain⟨v,aG,h1,h2⟩:=PL.step (n:=n) hx hX
    exact⟨bg,v,aG,he,⟨hd,by rw[hg];exact h1⟩,h2⟩
   have ix: ∀ {bg:TS},(∀t,find bg t=find tm t)→aX ops o bg=some false→K (dN ⟨o.dst,g,x⟩ bg ctr) (fk bg o.dst (.eW [])) hp (ctr+4)→
    ∃bg v aG,(∀t,find bg t=find tm t)∧fR P ops o n bg hp ctr v aG∧K (dN ⟨o.dst,g,x⟩ bg ctr) (fk bg o.dst v) aG (ctr+4):=by
    intro bg he hg hK
    exact⟨bg, .eW [],hp,he,⟨hd,by rw[hg];exact⟨rfl,rfl⟩⟩,hK⟩
   rcases hgd with⟨B1,rfl⟩|⟨j,want,d,B1,hj,rfl⟩
   · simp only at h
     exact wanted (fun _=>rfl) (by simp[aX,B1]) h
   · have fB: ∀ {bg:TS} {b:Bool},find bg d=some (bV b)→aX ops o bg=some (b==want):=by
      intro bg b hf
      simp only[aX,B1,hj,hf]
     simp only at h
     split at h
     · rename_i b hf
       have lit: ∀ {c:Bool},b=c→ ∀t,find ((d,bV c)::tm) t=find tm t:=by
        intro c hb t
        subst hb
        simp only[aA]
        split
        · rename_i e;subst e;exact hf.symm
        · rfl
       split at h
       · rcases jG h with⟨hb,h⟩|⟨hb,h⟩
         · exact wanted (lit hb) (by rw[fB (b:=true) (by simp[aA])];rfl) h
         · exact ix (lit hb) (by rw[fB (b:=false) (by simp[aA])];rfl) h
       · rcases jG h with⟨hb,h⟩|⟨hb,h⟩
         · exact ix (lit hb) (by rw[fB (b:=true) (by simp[aA])];rfl) h
         · exact wanted (lit hb) (by rw[fB (b:=false) (by simp[aA])];rfl) h
     · rename_i hf
       exact ix (fun _=>rfl) (by simp only[aX,B1,hj,hf]) h
     · exact h.elim
theorem sc.trace {ops:Array Oper} {n base:Nat} {K:List iI→TS→HS→Nat→Prop}: ∀ {l:List Oper} {rs:List lU} {k:Nat} {H7:List iI} {tm:TS} {hp:HS},(∀j,ops[k+j]? =l[j]?)→aU P ops l=some rs→
 H7.length=k→sc P n rs H7 tm hp (base+4 * k) K→
 ∃ (tmT:Nat→TS) (hpT:Nat→HS) (v:Nat→V) (fs:List iI),K fs (tmT (k+l.length)) (hpT (k+l.length)) (base+4 * (k+l.length))∧(∀i,i < k→fs[i]? =H7[i]?)∧(∀t,find (tmT k) t=find tm t)∧hpT k=hp∧
  ∀j o,l[j]? =some o→fR P ops o n (tmT (k+j)) (hpT (k+j)) (base+4 * (k+j)) (v (k+j)) (hpT (k+j+1))∧(∀t,find (tmT (k+j+1)) t=find (fk (tmT (k+j)) o.dst (v (k+j))) t)∧
   ∃f,fs[k+j]? =some f∧f.dst=o.dst∧(∀t,t∈names ops o→t∈f.nm)∧(∀q,q∈jv (St.get ⟨n,tmT (k+j),hpT (k+j)⟩) o→q∈f.rd)∧(∀q,q∈vL (St.get ⟨n,tmT (k+j),hpT (k+j)⟩) (base+4 * (k+j)) o→q∈f.wr)
 | [],rs,k,H7,tm,hp,hl,eO,hk,h=>by
   simp only[aU,Option.some.injEq]at eO
   subst eO
   exact⟨fun _=>tm,fun _=>hp,fun _=> .undef,H7,by simpa[sc]using h,fun _ _=>rfl,fun _=>rfl,rfl,fun j o hj=>by simp at hj⟩
 |o::l,rs,k,H7,tm,hp,hl,eO,hk,h=>by
  simp only[aU]at eO
  split at eO
  · rename_i x l' hx hl'
    have hi:ops[k]? =some o:=by simpa using hl 0
    have jI: ∃g,rs=⟨o.dst,g,x⟩::l'∧((o.guard=none∧g=none)∨ ∃j want d,o.guard=some (j,want)∧(ops[j]?).bind (·.dst)=some d∧g=some (d,want)):=by
     split at eO
     · rename_i hg
       simp only[Option.some.injEq]at eO
       exact⟨_,eO.symm, .inl ⟨hg,rfl⟩⟩
     · rename_i j want hg
       split at eO
       · rename_i d hd
         simp only[Option.some.injEq]at eO
         exact⟨_,eO.symm, .inr ⟨j,want,d,hg,hd,rfl⟩⟩
       · simp at eO
    obtain⟨g,Ru,hgd⟩:=jI
    clear eO
    subst Ru
    · skip
      simp only[sc]at h
      obtain⟨bg,v0,aG,he,hst,hK⟩:=K9.step (ops:=ops) hx hgd h
      have J7:=zX (ops:=ops) (n:=n) (ctr:=base+4 * k) (tm:=bg) (hp:=hp) hx hgd
      rw[show base+4 * k+4=base+4 * (k+1) by omega]at hK
      obtain⟨tmT,hpT,v,fs,q1,q2,q3,q4,q5⟩:=sc.trace (k:=k+1) (fun j=>by have:=hl (j+1);rw[show k+1+j=k+(j+1) by omega,this];simp) hl' (by simp[hk]) hK
      have CY:fs[k]? =some (dN ⟨o.dst,g,x⟩ bg (base+4 * k)):=by
       rw[q2 k (by omega),List.getElem?_append_right (by omega),hk];simp
      refine⟨fun i=>if i=k then bg else tmT i,fun i=>if i=k then hp else hpT i,fun i=>if i=k then v0 else v i,fs,?_,?_,?_,?_,?_⟩
      · have e1:k+(o::l).length=k+1+l.length:=by simp;omega
        have e2:¬k+1+l.length=k:=by omega
        simp only[e1,e2,if_false]
        exact q1
      · intro i hi'
        rw[q2 i (by omega),List.getElem?_append_left (by omega)]
      · intro t;simp only[if_true];exact he t
      · simp
      · intro j oj hj
        cases j with
        |zero=>
         simp only[List.getElem?_cons_zero,Option.some.injEq]at hj
         subst hj
         have e2:¬k+1=k:=by omega
         simp only[Nat.add_zero,if_true,e2,if_false,q4]
         exact⟨hst,fun t=>q3 t,_,CY,J7⟩
        |succ j=>
         have:=q5 j oj (by simpa using hj)
         have e1:¬k+(j+1)=k:=by omega
         have e2:¬k+(j+1)+1=k:=by omega
         simp only[e1,e2,if_false]
         rw[show k+(j+1)=k+1+j by omega]
         exact this
  · simp at eO
theorem jE: ∀ {Es:List (List Nat)} {k:Nat},vU k Es=true→ ∀i es,Es[i]? =some es→ ∀e,e∈es→e < k+i
 | [],k,h,i,es,hi,e,he=>by simp at hi
 |x::r,k,h,i,es,hi,e,he=>by
  simp only[vU,Bool.and_eq_true]at h
  cases i with
  |zero=>
   simp only[List.getElem?_cons_zero,Option.some.injEq]at hi
   subst hi
   have:=List.all_eq_true.1 h.1 e he
   simpa using this
  |succ i=>
   have:=jE h.2 i es (by simpa using hi) e he
   omega
theorem Wp.IQ {c:Code} {Q:Exit→St→Nat→Prop} {ctr:Nat} {bg:TS} {aG:HS} {c':Nat} (hw:dK st.tmps st.heap ctr bg aG c') (h:Wp P c Q ⟨st.n,bg,aG⟩ c'):Wp P c Q st ctr:=by
 intro M A ρ a w hr
 obtain⟨A2,ρ2,w7,he,hg⟩:=hw M A ρ st.n a w hr
 exact wp_mono (h M A2 ρ2 a w w7) (fun e a' w' hp=>hp.trans (dj.refl _ _) he hg)
theorem Wp.post {c:Code} {Q Q':Exit→St→Nat→Prop} {ctr:Nat} (h:Wp P c Q st ctr)
 (hq: ∀e st' c',Q e st' c'→Q' e st' c'∨ ∃tm2 hp2 c2,dK st'.tmps st'.heap c' tm2 hp2 c2∧Q' e ⟨st'.n,tm2,hp2⟩ c2):Wp P c Q' st ctr:=by
 intro M A ρ a w hr
 refine wp_mono (h M A ρ a w hr) ?_
 rintro e a' w' ⟨st',c',A',ρ',h1,h2,h3,h4,h5⟩
 rcases hq e st' c' h1 with h1|⟨tm2,hp2,c2,hw,h1⟩
 · exact⟨st',c',A',ρ',h1,h2,h3,h4,h5⟩
 · obtain⟨A2,ρ2,w7,he,hg⟩:=hw M A' ρ' st'.n a' w' h2
   exact⟨_,c2,A2,ρ2,h1,w7,h3,h4.trans he,h5.trans hg h3.size⟩
theorem X.sound {n:Nat}: ∀ {c:Code} {r:Rc},aS P c=some r→ ∀ {Q:Exit→TS→HS→Nat→Prop} {tm:TS} {hp:HS} {ctr:Nat},X P n r Q tm hp ctr→Wp P c (fun e=>o7 n (Q e)) ⟨n,tm,hp⟩ ctr:=by
 intro c
 induction c with
 |skip=>
  intro r hr Q tm hp ctr h
  simp only[aS,Option.some.injEq]at hr
  subst hr
  exact Wp.skip ⟨rfl,h⟩
 |ret=>
  intro r hr Q tm hp ctr h
  simp only[aS,Option.some.injEq]at hr
  subst hr
  exact Wp.ret ⟨rfl,h⟩
 |exit id=>
  intro r hr Q tm hp ctr h
  simp only[aS,Option.some.injEq]at hr
  subst hr
  exact Wp.exit ⟨rfl,h⟩
 |seq x y JS JR=>
  intro r hr Q tm hp ctr h
  simp only[aS]at hr
  split at hr
  · rename_i rx ry hx hy
    simp only[Option.some.injEq]at hr
    subst hr
    simp only[X]at h
    refine Wp.seq ((JS hx h).mono ?_)
    rintro e st' c' ⟨h1,h2⟩
    subst h1
    cases e with
    |normal=>exact JR hy h2
    |_=>exact⟨rfl,h2⟩
  · simp at hr
 |cond c x y JS JR=>
  intro r hr Q tm hp ctr h
  simp only[aS]at hr
  split at hr
  · rename_i rx ry hx hy
    simp only[Option.some.injEq]at hr
    subst hr
    simp only[X]at h
    split at h
    · rename_i b hb
      have hb':((⟨n,tm,hp⟩:St).get c).ia =some b:=by rw[←bi];exact hb
      refine Wp.cond hb' ?_
      rcases jG h with⟨rfl,h⟩|⟨rfl,h⟩
      · exact JS hx h
      · exact JR hy h
    · exact h.elim
  · simp at hr
 |block id b ih=>
  intro r hr Q tm hp ctr h
  simp only[aS]at hr
  split at hr
  · rename_i rb hb
    simp only[Option.some.injEq]at hr
    subst hr
    simp only[X]at h
    refine Wp.block ((ih hb h).mono ?_)
    rintro e st' c' ⟨h1,h2⟩
    cases e with
    |exit id'=>
     simp only[Aw]at h2
     simp only[tM]
     split
     · rename_i e;rw[if_pos e]at h2;exact⟨h1,h2⟩
     · rename_i e;rw[if_neg e]at h2;exact⟨h1,h2⟩
    |_=>exact⟨h1,h2⟩
  · simp at hr
 |loop b ih=>
  intro r hr Q tm hp ctr h
  simp only[aS]at hr
  split at hr
  · rename_i rb hb
    simp only[Option.some.injEq]at hr
    subst hr
    simp only[X]at h
    obtain⟨I,od,EK⟩:=h
    obtain⟨uV,qR,c0,LH,m,hI⟩:=od.get
    refine Wp.IQ (st:=⟨n,tm,hp⟩) LH ?_
    refine Wp.loop (fun m=>o7 n (I m)) ?_ m _ _ ⟨rfl,hI⟩
    rintro m st' c' ⟨h1,h2⟩
    obtain⟨n',bg,aG⟩:=st'
    simp only at h1 h2
    subst h1
    refine Wp.post (ih hb (EK m bg aG c' h2)) ?_
    rintro e st2 c2 ⟨h3,h4⟩
    cases e with
    |normal=>
     obtain⟨tm3,hp3,c3,hw3,m',hm',XX⟩:=bU.get h4
     exact .inr ⟨tm3,hp3,c3,hw3,m',hm',h3,XX⟩
    |_=>exact .inl ⟨h3,h4⟩
  · simp at hr
 |region id ops d=>
  intro r hr Q tm hp ctr h
  cases d with
  |true=>
   simp only[aS]at hr
   split at hr
   · rename_i l hl
     split at hr
     · rename_i hc
       simp only[Bool.and_eq_true]at hc
       simp only[Option.some.injEq]at hr
       subst hr
       simp only[X]at h
       intro M A ρ a w cI
       obtain⟨tmT,hpT,v,fs,⟨q0,q1⟩,_,q3,q4,q5⟩:=sc.trace (P:=P) (ops:=ops) (n:=n) (base:=ctr) (k:=0) (fun j=>by simp) hl rfl (by simpa using h)
       simp only[Nat.zero_add]at q1 q5
       have CV:Rel M A ρ (bu ctr) ⟨n,tmT 0,hpT 0⟩ a w:=cI.forget rfl (fun t u hu=>by rw[←q3 t];exact hu) (fun k b hb=>by rw[q4]at hb;exact hb)
       refine xD hc.1 (fun i o ho=>q5 i o (by simpa using ho)) (fun i o ho e he=>?_) q0 CV ?_
       · have:=jE hc.2 i (bf o) (by simp[ho]) e he
         omega
       · rintro a' w' ⟨st',c',A',ρ',⟨rfl,rfl⟩,h2⟩
         exact⟨_,_,A',ρ',⟨rfl,by simpa using q1⟩,h2⟩
     · simp at hr
   · simp at hr
  |false=>
   simp only[aS]at hr
   split at hr
   · rename_i l hl
     simp only[Option.some.injEq]at hr
     subst hr
     simp only[X]at h
     intro M A ρ a w cI
     refine wp_region ?_
     have:=vI.sound (P:=P) (ops:=ops) (k:=0) (l:=ops.toList) (Q:=fun e a' w'=>Post M A ρ w (o7 n (Q e)) a' w') (fun j=>by simp) hl h cI (fun _ _ hp=>hp)
     rw[List.range_eq_range']
     simpa using this
   · simp at hr
 |_=>intro r hr;simp[aS]at hr
end Go.aT
end
section
namespace Go.aT
open Go
inductive Pn where
 |e
 |o (p:Pn)
 |i (p:Pn)
 deriving DecidableEq
def JM:Nat→Nat→Pn
 |0,_=> .e
 |f+1,n=>match n with
  |0=> .e
  |m+1=>match m % 2 with
   |0=> .o (JM f (m / 2))
   |_=> .i (JM f (m / 2))
def key (n:Nat):Pn:=JM n n
def Pn.dec:Pn→Nat
 | .e=>0
 | .o p=>2 * p.dec+1
 | .i p=>2 * p.dec+2
theorem rF: ∀ (f n:Nat),n≤f→(JM f n).dec=n
 |0,n,h=>by
  have:n=0:=by omega
  subst this
  rfl
 |f+1,0,_=>rfl
 |f+1,m+1,h=>by
  simp only[JM]
  have ih:=rF f (m / 2) (by omega)
  split
  · rename_i h0
    simp only[Pn.dec,ih]
    omega
  · rename_i h0
    simp only[Pn.dec,ih]
    have:m % 2≠0:=h0
    omega
theorem key_inj {a b:Nat} (h:key a=key b):a=b:=by
 have h1:=rF a a (Nat.le_refl _)
 have h2:=rF b b (Nat.le_refl _)
 unfold key at h
 rw[h,h2]at h1
 exact h1.symm
inductive Tr where
 |nil
 |node (v:Option V) (l r:Tr)
def Tr.get:Tr→Pn→Option V
 | .nil,_=>none
 | .node v l r,p=>match p with
   | .e=>v
   | .o q=>l.get q
   | .i q=>r.get q
def Tr.set:Pn→Tr→V→Tr
 | .e,t,x=>match t with
   | .nil=> .node (some x) .nil .nil
   | .node _ l r=> .node (some x) l r
 | .o p,t,x=>match t with
   | .nil=> .node none (Tr.set p .nil x) .nil
   | .node v l r=> .node v (Tr.set p l x) r
 | .i p,t,x=>match t with
   | .nil=> .node none .nil (Tr.set p .nil x)
   | .node v l r=> .node v l (Tr.set p r x)
def Tr.put {α:Type}:Pn→Tr→V→(Tr→α)→α
 | .e,t,x,k=>match t with
   | .nil=>k (.node (some x) .nil .nil)
   | .node _ l r=>k (.node (some x) l r)
 | .o p,t,x,k=>match t with
   | .nil=>Tr.put p .nil x fun l=>k (.node none l .nil)
   | .node v l r=>Tr.put p l x fun l=>k (.node v l r)
 | .i p,t,x,k=>match t with
   | .nil=>Tr.put p .nil x fun r=>k (.node none .nil r)
   | .node v l r=>Tr.put p r x fun r=>k (.node v l r)
theorem Tr.put_eq {α:Type}: ∀ (p:Pn) (t:Tr) (x:V) (k:Tr→α),Tr.put p t x k=k (Tr.set p t x)
 | .e,t,x,k=>by cases t<;>rfl
 | .o p,t,x,k=>by cases t<;>simp only[Tr.put,Tr.set,Tr.put_eq p]
 | .i p,t,x,k=>by cases t<;>simp only[Tr.put,Tr.set,Tr.put_eq p]
theorem Tr.vT (q:Pn):Tr.nil.get q=none:=by cases q<;>rfl
theorem Tr.Bz: ∀ (p:Pn) (t:Tr) (x:V) (q:Pn),(Tr.set p t x).get q=if q=p then some x else t.get q
 | .e,t,x,q=>by cases t<;>cases q<;>simp[Tr.set,Tr.get]
 | .o p,t,x,q=>by cases t<;>cases q<;>simp[Tr.set,Tr.get,Tr.Bz p,Tr.vT]
 | .i p,t,x,q=>by cases t<;>cases q<;>simp[Tr.set,Tr.get,Tr.Bz p,Tr.vT]
def fe (tr:Tr) (L:TS):Prop:= ∀t,find L t=tr.get (key t)
def kQ {α:Type} (tm:Tr) (dst:Option Nat) (v:V) (k:Tr→α):α:=
 match dst with
 |some d=>Tr.put (key d) tm v k
 |none=>k tm
def wy (tm:Tr) (dst:Option Nat) (v:V):Tr:=
 match dst with
 |some d=>Tr.set (key d) tm v
 |none=>tm
theorem iB {α:Type} (tm:Tr) (dst:Option Nat) (v:V) (k:Tr→α):kQ tm dst v k=k (wy tm dst v):=by
 cases dst<;>simp[kQ,wy,Tr.put_eq]
theorem fe.put {tr:Tr} {L:TS} (h:fe tr L) (dst:Option Nat) (v:V):fe (wy tr dst v) (fk L dst v):=by
 intro t
 cases dst with
 |none=>exact h t
 |some d=>
  simp only[wy,fk,Tr.Bz,aA]
  by_cases e:d=t
  · subst e;simp
  · have:¬key t=key d:=fun h'=>e (key_inj h').symm
    simp[e,this,h t]
def gT (tm:Tr):ej→V
 | .t n=>(tm.get (key n)).getD .undef
 | .c v=>v
theorem lN {tr:Tr} {L:TS} (h:fe tr L):gT tr=fun x=>x.get L:=by
 funext x
 cases x with
 |t n=>simp only[gT,ej.get,h n]
 |c v=>rfl
def oT {α:Sort _} (n:Nat) (k:Nat→α):α:=
 match n with
 |0=>k 0
 |m+1=>k (Nat.succ m)
theorem dM {α:Sort _} (n:Nat) (k:Nat→α):oT n k=k n:=by cases n<;>rfl
def H8 {α:Sort _} (n:Int) (k:Int→α):α:=
 match n with
 | .ofNat m=>oT m fun m=>k (.ofNat m)
 | .negSucc m=>oT m fun m=>k (.negSucc m)
theorem EU {α:Sort _} (n:Int) (k:Int→α):H8 n k=k n:=by cases n<;>simp[H8,dM]
def H9 {α:Sort _} (b:Bool) (k:Bool→α):α:=
 match b with
 |true=>k true
 |false=>k false
theorem qJ {α:Sort _} (b:Bool) (k:Bool→α):H9 b k=k b:=by cases b<;>rfl
def gR {α:Type} (b:Bool) (x y:α):α:=
 match b with
 |true=>x
 |false=>y
theorem bj {b:Bool} {x:Bool} (h:gR b x false=true):b=true∧x=true:=by cases b<;>simp_all[gR]
def nth {α:Type}:List α→Nat→Option α
 | [],_=>none
 |x::r,n=>match n with
  |0=>some x
  |m+1=>nth r m
theorem mB {α:Type}: ∀ (l:List α) (n:Nat),nth l n=l[n]?
 | [],n=>by simp[nth]
 |x::r,0=>by simp[nth]
 |x::r,n+1=>by simp[nth,mB r n]
theorem xT {a b:Nat} (h:Nat.blt a b=true):a < b:=Nat.le_of_ble_eq_true h
theorem Q6 {a b:Nat} (h:a < b):Nat.blt a b=true:=Nat.ble_eq_true_of_le h
theorem Gw (a b:Nat):Nat.blt a b=decide (a < b):=by
 by_cases h:a < b
 · rw[Q6 h,decide_eq_true h]
 · rw[decide_eq_false h]
   cases h':Nat.blt a b with
   |false=>rfl
   |true=>exact absurd (xT h') h
def og (k:IntKind) (n:Int):Int:=
 match k with
 | .i64=>match n with
   | .ofNat m=>gR (Nat.blt m 9223372036854775808) (.ofNat m) (IntKind.wrap .i64 (.ofNat m))
   | .negSucc m=>gR (Nat.blt m 9223372036854775808) (.negSucc m) (IntKind.wrap .i64 (.negSucc m))
 | .u64=>match n with
   | .ofNat m=> .ofNat (m % 18446744073709551616)
   | .negSucc m=>IntKind.wrap .u64 (.negSucc m)
 | .u32=>match n with
   | .ofNat m=> .ofNat (m % 4294967296)
   | .negSucc m=>IntKind.wrap .u32 (.negSucc m)
 |k=>k.wrap n
theorem aa {n:Int} (h0: -9223372036854775808≤n) (h1:n < 9223372036854775808):IntKind.i64.wrap n=n:=by
 simp[IntKind.wrap,IntKind.bits,IntKind.signed]
 omega
theorem Cj (k:IntKind) (b:Bool) (n:Int) (h:b=true→k.wrap n=n):gR b n (k.wrap n)=k.wrap n:=by
 cases b with
 |false=>rfl
 |true=>exact(h rfl).symm
theorem oe (k:IntKind) (n:Int):og k n=k.wrap n:=by
 unfold og
 split
 · split
   · rename_i m
     refine Cj .i64 _ _ fun h=>aa ?_ ?_
     · have:=xT h;simp only[Int.ofNat_eq_natCast];omega
     · have:=xT h;simp only[Int.ofNat_eq_natCast];omega
   · rename_i m
     refine Cj .i64 _ _ fun h=>aa ?_ ?_
     · have:=xT h;omega
     · have:=xT h;omega
 · split
   · rename_i m
     simp only[IntKind.wrap,IntKind.bits,IntKind.signed,Bool.false_and,Int.ofNat_eq_natCast]
     simp
   · rfl
 · split
   · rename_i m
     simp only[IntKind.wrap,IntKind.bits,IntKind.signed,Bool.false_and,Int.ofNat_eq_natCast]
     simp
   · rfl
 · rfl
def Hx (a b:Int):Bool:=
 match a,b with
 | .ofNat x, .ofNat y=>Nat.blt x y
 | .ofNat _, .negSucc _=>false
 | .negSucc _, .ofNat _=>true
 | .negSucc x, .negSucc y=>Nat.blt y x
theorem EC (a b:Int):Hx a b=decide (a < b):=by
 cases a with
 |ofNat x=>
  cases b with
  |ofNat y=>simp only[Hx,Gw];exact decide_eq_decide.2 (by simp only[Int.ofNat_eq_natCast];omega)
  |negSucc y=>simp only[Hx];exact(decide_eq_false (by simp only[Int.ofNat_eq_natCast];omega)).symm
 |negSucc x=>
  cases b with
  |ofNat y=>simp only[Hx];exact(decide_eq_true (by simp only[Int.ofNat_eq_natCast];omega)).symm
  |negSucc y=>simp only[Hx,Gw];exact decide_eq_decide.2 (by omega)
def Sr (a b:Int):Bool:=
 match a,b with
 | .ofNat x, .ofNat y=>Nat.beq x y
 | .negSucc x, .negSucc y=>Nat.beq x y
 |_,_=>false
theorem Kz (a b:Int):Sr a b=(a==b):=by
 rw[Bool.eq_iff_iff,beq_iff_eq]
 cases a<;>cases b<;>simp[Sr]
 omega
def ED:IntKind→Nat
 | .i8=>0| .i16=>1| .i32=>2| .i64=>3| .u8=>4| .u16=>5| .u32=>6| .u64=>7
theorem F3 {k k':IntKind} (h:Nat.beq (ED k) (ED k')=true):k=k':=by
 cases k<;>cases k'<;>first|rfl|simp[ED]at h
def QM (n:Nat):Int:= .ofNat (2 ^ n)
theorem Mu (n:Nat):QM n=(2:Int) ^ n:=by simp[QM]
def QA (a:Int) (n:Nat):Int:=
 match a with
 | .ofNat m=> .ofNat (m / 2 ^ n)
 |a=>a.fdiv (2 ^ n)
theorem Mk (a:Int) (n:Nat):QA a n=a.fdiv (2 ^ n):=by
 cases a with
 |ofNat m=>
  simp only[QA]
  rw[Int.fdiv_eq_ediv_of_nonneg _ (by exact_mod_cast Nat.zero_le _)]
  simp
 |negSucc m=>rfl
def orI (k:IntKind) (a b:Int):Int:=
 match a,b with
 | .ofNat x, .ofNat y=>gR (Nat.blt x (2 ^ k.bits)&&Nat.blt y (2 ^ k.bits)) (og k (.ofNat (x|||y))) (k.wrap (BitVec.ofInt k.bits (.ofNat x)|||BitVec.ofInt k.bits (.ofNat y)).toNat)
 |a,b=>k.wrap (BitVec.ofInt k.bits a|||BitVec.ofInt k.bits b).toNat
theorem kx {w x:Nat} (h:x < 2 ^ w):(BitVec.ofInt w (Int.ofNat x)).toNat=x:=by
 rw[BitVec.toNat_ofInt]
 show((x:Int) % ((2 ^ w:Nat):Int)).toNat=x
 rw[←Int.natCast_emod,Int.toNat_natCast,Nat.mod_eq_of_lt h]
theorem QT (k:IntKind) (a b:Int):orI k a b=k.wrap (BitVec.ofInt k.bits a|||BitVec.ofInt k.bits b).toNat:=by
 cases a<;>cases b<;>simp only[orI]
 rename_i x y
 cases h:(Nat.blt x (2 ^ k.bits)&&Nat.blt y (2 ^ k.bits))with
 |false=>rfl
 |true=>
  simp only[Bool.and_eq_true,Nat.blt,Nat.ble_eq]at h
  simp only[gR,oe,BitVec.toNat_or]
  rw[kx (by omega),kx (by omega)]
  rfl
def SV (k:IntKind) (a b:Int):Int:=
 match a,b with
 | .ofNat x, .ofNat y=>gR (Nat.blt x (2 ^ k.bits)&&Nat.blt y (2 ^ k.bits)) (og k (.ofNat (x&&& y))) (k.wrap (BitVec.ofInt k.bits (.ofNat x)&&& BitVec.ofInt k.bits (.ofNat y)).toNat)
 |a,b=>k.wrap (BitVec.ofInt k.bits a&&& BitVec.ofInt k.bits b).toNat
theorem ND (k:IntKind) (a b:Int):SV k a b=k.wrap (BitVec.ofInt k.bits a&&& BitVec.ofInt k.bits b).toNat:=by
 cases a<;>cases b<;>simp only[SV]
 rename_i x y
 cases h:(Nat.blt x (2 ^ k.bits)&&Nat.blt y (2 ^ k.bits))with
 |false=>rfl
 |true=>
  simp only[Bool.and_eq_true,Nat.blt,Nat.ble_eq]at h
  simp only[gR,oe,BitVec.toNat_and]
  rw[kx (by omega),kx (by omega)]
  rfl
end Go.aT
end
section
namespace Go.aT
open Go
def A4 {α:Type} (bad:α) (g:ej→V):List (Nat×ej)→(List (Nat×W)→α)→α
 | [],k=>k []
 |(i,x)::r,k=>match g x with
  | .w u=>A4 bad g r fun l=>k ((i,u)::l)
  |_=>bad
theorem zF {tm:TS}: ∀ {ps:List (Nat×ej)} {k:List (Nat×W)→Bool},A4 false (fun x=>x.get tm) ps k=true→ ∃l,sV tm ps=some l∧k l=true
 | [],k,h=>⟨[],rfl,h⟩
 |(i,x)::r,k,h=>by
  simp only[A4]at h
  split at h
  · rename_i u hu
    obtain⟨l,h1,h2⟩:=zF h
    exact⟨_,by simp only[sV,hu,h1],h2⟩
  · simp at h
def Gf {α:Type} (bad:α) (g:ej→V):List C→List (Nat×Nat×ej)→(List C→α)→α
 |cells,[],k=>k cells
 |cells,(off,size,x)::rest,k=>
  match g x with
  | .w u=>gR (Nat.beq (cellsOf u).length size&&Nat.ble (off+size) cells.length) (ii (aR cells off (cellsOf u)) fun cs=>Gf bad g cs rest k) bad
  |_=>bad
theorem De {tm:TS}: ∀ {ps:List (Nat×Nat×ej)} {cells:List C} {k:List C→Bool},Gf false (fun x=>x.get tm) cells ps k=true→ ∃l,xz tm cells ps=some l∧k l=true
 | [],cells,k,h=>⟨cells,rfl,h⟩
 |(off,size,x)::r,cells,k,h=>by
  simp only[Gf]at h
  split at h
  · rename_i u hu
    obtain⟨hc,h⟩:=bj h
    rw[cD]at h
    simp only[Bool.and_eq_true,Nat.beq_eq,Nat.ble_eq]at hc
    obtain⟨l,h1,h2⟩:=De h
    exact⟨l,by simp only[xz,hu,if_pos hc,h1],h2⟩
  · simp at h
def Gs {α:Type} (bad:α) (g:ej→V):List ej→(List (Nat×Nat×Nat×Nat)→α)→α
 | [],k=>k []
 |x::r,k=>match g x with
  | .w (.one (.ptr id sz i j))=>Gs bad g r fun l=>k ((id,sz,i,j)::l)
  |_=>bad
theorem DA {tm:TS}: ∀ {ps:List ej} {k:List (Nat×Nat×Nat×Nat)→Bool},Gs false (fun x=>x.get tm) ps k=true→ ∃l,Ac tm ps=some l∧k l=true
 | [],k,h=>⟨[],rfl,h⟩
 |x::r,k,h=>by
  simp only[Gs]at h
  split at h
  · rename_i id sz i j hu
    obtain⟨l,h1,h2⟩:=DA h
    exact⟨_,by simp only[Ac,hu,h1],h2⟩
  · simp at h
def Qj {α:Type} (bad:α) (g:ej→V):List ej→(List W→α)→α
 | [],k=>k []
 |x::r,k=>match g x with
  | .w u=>Qj bad g r fun l=>k (u::l)
  |_=>bad
theorem wc {tm:TS}: ∀ {ps:List ej} {k:List W→Bool},Qj false (fun x=>x.get tm) ps k=true→ ∃l,FA tm ps=some l∧k l=true
 | [],k,h=>⟨[],rfl,h⟩
 |x::r,k,h=>by
  simp only[Qj]at h
  split at h
  · rename_i u hu
    obtain⟨l,h1,h2⟩:=wc h
    exact⟨_,by simp only[FA,hu,h1],h2⟩
  · simp at h
def Ct {α:Type} (bad:α) (n:Option Nat) (cs:List C) (j:Nat) (K:V→α):α:=
 match n with
 |some n=>gR (Nat.ble (j+n) cs.length) (ii ((cs.drop j).take n) fun l=>K (.w (.agg l))) bad
 |none=>match nth cs j with
  |some c=>yO c fun c=>K (.w (.one c))
  |none=>bad
theorem rq {n:Option Nat} {cs:List C} {j:Nat} {K:V→Bool} (h:Ct false n cs j K=true):uf n cs j fun v=>K v=true:=by
 unfold Ct at h
 unfold uf
 split at h
 · obtain⟨hc,h⟩:=bj h
   simp only[Nat.ble_eq]at hc
   simp only[if_pos hc,cD]at h⊢
   exact h
 · split at h
   · rename_i c hc
     rw[mB]at hc
     simp only[hc,kF]at h⊢
     exact h
   · simp at h
def BJ {α:Type} (bad:α) (hp:HS) (c:C) (k:List C→Nat→α):α:=
 match c with
 | .ptr id sz i j=>match find hp id with
   |some (.row sz' xs)=>match nth xs i with
    |some e=>gR (Nat.beq sz' sz) (k e j) bad
    |none=>bad
   |_=>bad
 | .uc e j=>k (e.map .t) j
 |_=>bad
theorem Aa {hp:HS} {c:C} {k:List C→Nat→Bool} (h:BJ false hp c k=true): ∃cs j,deref hp c=some (cs,j)∧k cs j=true:=by
 unfold BJ at h
 split at h
 · split at h
   · rename_i hf
     split at h
     · rename_i e he
       obtain⟨hc,h⟩:=bj h
       rw[mB]at he
       simp only[Nat.beq_eq]at hc
       exact⟨_,_,by simp[deref,hf,hc,he],h⟩
     · simp at h
   · simp at h
 · exact⟨_,_,rfl,h⟩
 · simp at h
def WU {α:Type} (bad:α) (c:C) (k:Nat→α):α:=
 match c.wX with
 |some n=>oT n k
 |none=>bad
def SO {α:Type} (bad:α) (op:BinOp) (k:IntKind) (a b:Int) (K:V→α):α:=
 match op with
 | .add=>H8 (og k (a+b)) fun n=>K (iV k n)
 | .sub=>H8 (og k (a - b)) fun n=>K (iV k n)
 | .mul=>H8 (og k (a * b)) fun n=>K (iV k n)
 | .eql=>H9 (Sr a b) fun c=>K (bV c)
 | .neq=>H9 (!(Sr a b)) fun c=>K (bV c)
 | .lss=>H9 (Hx a b) fun c=>K (bV c)
 | .leq=>H9 (!(Hx b a)) fun c=>K (bV c)
 | .gtr=>H9 (Hx b a) fun c=>K (bV c)
 | .geq=>H9 (!(Hx a b)) fun c=>K (bV c)
 | .quo=>gR (!(Sr b 0)) (H8 (og k (a.tdiv b)) fun n=>K (iV k n)) bad
 | .rem=>gR (!(Sr b 0)) (H8 (a.tmod b) fun n=>K (iV k n)) bad
 | .shl=>gR (!(Hx b 0)) (H8 (og k (a * QM (min b.toNat k.bits))) fun n=>K (iV k n)) bad
 | .shr=>gR (!(Hx b 0)) (H8 (QA a (min b.toNat k.bits)) fun n=>K (iV k n)) bad
 | .and=>H8 (SV k a b) fun n=>K (iV k n)
 | .or=>H8 (orI k a b) fun n=>K (iV k n)
 |_=>bad
def ER {α:Type} (bad:α) (r:Ro) (g:ej→V) (hp:HS) (nid:Nat) (K:V→HS→α):α:=
 match r with
 | .WI x=>uB (g x) fun v=>K v hp
 | .pick c x y=>match(g c).ia with
   |some b=>gR b (uB (g x) fun v=>K v hp) (uB (g y) fun v=>K v hp)
   |none=>bad
 | .alloc z=>K (.w (.one (.ptr nid z.length 0 0))) ((nid, .row z.length [z])::hp)
 | .box x=>match g x with
   | .w u=>ii (cellsOf u) fun cs=>K (.w (.one (.ptr nid cs.length 0 0))) ((nid, .row cs.length [cs])::hp)
   |_=>bad
 | .build z ps=>Gf bad g z ps fun cs=>K (.w (.agg cs)) hp
 | .xR z len ps=>A4 bad g ps fun l=>match pW z.length (List.replicate len z) l with
    |some xs=>ii xs fun xs=>K (.w (.one (.own nid z.length 0 len))) ((nid, .row z.length xs)::hp)
    |none=>bad
 | .load n x=>match g x with
   | .w (.one c)=>BJ bad hp c fun cs j=>Ct bad n cs j fun v=>K v hp
   |_=>bad
 | .store n x y=>match g x,g y with
   | .w (.one (.ptr id sz i j)), .w u=>match find hp id with
     |some (.row sz' xs)=>match nth xs i with
      |some el=>gR (Nat.beq sz' sz&&Nat.beq (cellsOf u).length n&&Nat.ble (j+n) el.length)
        (ii (aR el j (cellsOf u)) fun DZ=>ii (xs.set i DZ) fun xs'=>ii (jN hp id (.row sz xs')) fun h=>K .undef h) bad
      |none=>bad
     |_=>bad
   |_,_=>bad
 | .Dg off x=>match g x with
   | .w (.one (.ptr id sz i j))=>oT (j+off) fun q=>K (.w (.one (.ptr id sz i q))) hp
   | .w (.one (.uc e j))=>oT (j+off) fun q=>K (.w (.one (.uc e q))) hp
   |_=>bad
 | .field off n x=>match g x with
   | .w (.agg cs)=>Ct bad n cs off fun v=>K v hp
   |_=>bad
 | .CS size x i=>match g x,(g i).gb with
   | .w (.one (.own id sz i0 len)),some (_, .ofNat n)=>gR (Nat.beq sz size&&Nat.blt n len) (oT (i0+n) fun q=>K (.w (.one (.ptr id sz q 0))) hp) bad
   | .w (.one (.t (.aB sz xs))),some (_, .ofNat n)=>match nth xs n with
     |some e=>gR (Nat.beq sz size) (K (.w (.one (.uc e 0))) hp) bad
     |none=>bad
   |_,_=>bad
 | .w5 len size x i=>match g x,(g i).gb with
   | .w (.one c),some (_, .ofNat n)=>match c.shift (n * size)with
     |some d=>gR (Nat.blt n len) (K (.w (.one d)) hp) bad
     |none=>bad
   |_,_=>bad
 | .slice size x lo hi=>match g x with
   | .w (.one c)=>match c.wX,c.Qt with
     |some len,some sz=>match gl (lo.map g) 0,gl (hi.map g) len with
       |some l,some h=>gR (Nat.beq sz size&&Nat.ble l h&&Nat.ble h len) (match BL c l h with
        |some d=>yO d fun d=>K (.w (.one d)) hp
        |none=>bad) bad
       |_,_=>bad
     |_,_=>bad
   |_=>bad
 | .make z bytes l c=>match(g l).gb,(g c).gb with
   |some (_, .ofNat l),some (_, .ofNat c)=>gR (Nat.ble l c&&Nat.ble c 4611686018427387904&&Nat.ble (c * bytes) 281474976710656)
     (ii (List.replicate l z) fun xs=>K (.w (.one (.own nid z.length 0 l))) ((nid, .row z.length xs)::hp)) bad
   |_,_=>bad
 | .extract x k=>match g x with
   | .eW ws=>match nth ws k with
     |some u=>uB (.w u) fun v=>K v hp
     |none=>bad
   |_=>bad
 | .jx f dc=>Gs bad g dc fun l=>K (.w (.one (.jx f l))) hp
 | .len x=>match g x with
   | .w (.one c)=>WU bad c fun n=>K (iV .i64 (.ofNat n)) hp
   |_=>bad
 | .append size bytes s x=>match g s,g x with
   | .w (.one s), .w (.one x)=>match BG hp x with
     |some (_,[])=>match s.wX with
      |some _=>yO s fun s=>K (.w (.one s)) hp
      |none=>bad
     |some (sz,y::ys)=>match s with
      | .own id sz' 0 len=>match find hp id with
        |some (.row dy xs)=>
         gR (Nat.beq sz size&&Nat.beq sz' size&&Nat.beq dy size&&Nat.beq len xs.length&&Nat.ble ((len+(ys.length+1)) * bytes) aW&&Nat.ble (len+(ys.length+1)) maxLen)
          (ii (del hp id) fun hp=>ii (xs++y::ys) fun zs=>oT (len+(ys.length+1)) fun q=>K (.w (.one (.own nid size 0 q))) ((nid, .row size zs)::hp)) bad
        |_=>bad
      | .t (.val (.slice none 0 0))=>gR (Nat.beq sz size&&Nat.ble ((ys.length+1) * bytes) aW&&Nat.ble (ys.length+1) maxLen)
         (ii (y::ys) fun zs=>oT (ys.length+1) fun q=>K (.w (.one (.own nid size 0 q))) ((nid, .row size zs)::hp)) bad
      |_=>bad
     |none=>bad
   |_,_=>bad
 | .bin op x y=>match g x,g y with
   | .w (.one (.t (.val (.int k a)))), .w (.one (.t (.val (.int k' b))))=>gR (Nat.beq (ED k) (ED k')) (SO bad op k a b fun v=>K v hp) bad
   | .w (.one (.t (.val (.string a)))), .w (.one (.t (.val (.string b))))=>match op with
     | .add=>gR (Nat.ble (a.data.toList.length+b.data.toList.length) 9223372036854775807) (ii (a.data.toList++b.data.toList) fun l=>K (.w (.one (.t (.val (.string ⟨⟨l⟩⟩))))) hp) bad
     | .eql=>H9 (a.data.toList==b.data.toList) fun c=>K (bV c) hp
     | .neq=>H9 (!(a.data.toList==b.data.toList)) fun c=>K (bV c) hp
     |_=>bad
   |_,_=>bad
 | .KU op x y=>match(g x).ia,(g y).ia with
   |some a,some b=>match op with
    | .eql=>H9 (a==b) fun c=>K (bV c) hp
    | .neq=>H9 (!(a==b)) fun c=>K (bV c) hp
    |_=>bad
   |_,_=>bad
 | .Ss neg ks x y=>match g x,g y with
   | .w (.agg cs), .w (.agg ds)=>match rQ ks cs ds with
     |some b=>H9 b fun b=>match neg with
      |true=>K (bV (!b)) hp
      |false=>K (bV b) hp
     |none=>bad
   |_,_=>bad
 | .G2 x y=>match(g x).gb,(g y).gb with
   |some (k,a),some (_,b)=>K (iV k (gR (Hx b a) b a)) hp
   |_,_=>bad
 | .G3 x y=>match(g x).gb,(g y).gb with
   |some (k,a),some (_,b)=>K (iV k (gR (Hx a b) b a)) hp
   |_,_=>bad
 | .G4 x=>match g x with
   | .w (.one (.t (.val (.string s))))=>oT s.data.toList.length fun n=>K (iV .i64 (.ofNat n)) hp
   |_=>bad
 | .I3 x i=>match g x,(g i).gb with
   | .w (.one (.t (.val (.string s)))),some (_, .ofNat n)=>match nth s.data.toList n with
     |some b=>oT b.toNat fun q=>K (iV .u8 (.ofNat q)) hp
     |none=>bad
   |_,_=>bad
 | .not x=>match(g x).ia with
   |some b=>H9 (!b) fun c=>K (bV c) hp
   |none=>bad
 | .neg x=>match(g x).gb with
   |some (k,n)=>H8 (og k (0 - n)) fun n=>K (iV k n) hp
   |none=>bad
 | .conv k x=>match(g x).gb with
   |some (_,n)=>H8 (og k n) fun n=>K (iV k n) hp
   |none=>bad
 |_=>bad
set_option maxHeartbeats 1000000
theorem NA {op:BinOp} {x y:ej} {k:IntKind} {a b:Int} {tm:TS} {hp:HS} {nid:Nat} {K:V→HS→Bool} (hx:x.get tm=iV k a) (hy:y.get tm=iV k b)
 (h:SO false op k a b (fun v=>K v hp)=true):XR (.bin op x y) tm hp nid fun v aG=>K v aG=true:=by
 simp only[XR,hx,hy,if_true]
 cases op<;>simp only[SO,EU,qJ,oe,Kz,EC,Mu,Mk,ND,QT]at h
 case add=>exact h
 case sub=>exact h
 case mul=>exact h
 case eql=>exact h
 case neq=>exact h
 case lss=>exact h
 case leq=>
  have e:(!decide (b < a))=decide (a≤b):=by rw[Bool.eq_iff_iff];simp
  rw[e]at h
  exact h
 case gtr=>exact h
 case geq=>
  have e:(!decide (a < b))=decide (a≥b):=by rw[Bool.eq_iff_iff];simp
  rw[e]at h
  exact h
 case quo=>
  obtain⟨h1,h2⟩:=bj h
  exact⟨by simpa using h1,h2⟩
 case rem=>
  obtain⟨h1,h2⟩:=bj h
  exact⟨by simpa using h1,h2⟩
 case shl=>
  obtain⟨h1,h2⟩:=bj h
  exact⟨by simpa using h1,h2⟩
 case shr=>
  obtain⟨h1,h2⟩:=bj h
  exact⟨by simpa using h1,h2⟩
 case and=>exact h
 case or=>exact h
 all_goals simp at h
theorem SQ (s:ByteArray) (n:Nat):s.data.toList[n]? =s[n]? :=by
 by_cases h:n < s.size
 · have h2:n < s.data.size:=h
   rw[getElem?_pos s n h]
   simp only[Array.getElem?_toList]
   rw[getElem?_pos s.data n h2]
   rfl
 · have h2:¬n < s.data.size:=h
   rw[getElem?_neg s n h]
   simp only[Array.getElem?_toList]
   rw[getElem?_neg s.data n h2]
theorem YY {r:Ro} {tm:TS} {hp:HS} {nid:Nat} {K:V→HS→Bool} (h:ER false r (fun x=>x.get tm) hp nid K=true):XR r tm hp nid fun v aG=>K v aG=true:=by
 cases r with
 |WI x=>simpa only[ER,XR,dZ]using h
 |pick c x y=>
  simp only[ER,XR,dZ]at h⊢
  split at h
  · rename_i b hb
    simp only[hb]
    cases b
    · exact h
    · exact h
  · simp at h
 |alloc z=>exact h
 |box x=>
  simp only[ER,XR,cD]at h⊢
  split at h
  · rename_i u hu;simp only[hu];exact h
  · simp at h
 |build z ps=>
  simp only[ER,XR,cD]at h⊢
  obtain⟨l,h1,h2⟩:=De h
  simp only[h1]
  exact h2
 |xR z len ps=>
  simp only[ER,XR,cD]at h⊢
  obtain⟨l,h1,h2⟩:=zF h
  simp only[h1]
  split at h2
  · rename_i xs hxs;simp only[hxs];exact h2
  · simp at h2
 |load n x=>
  simp only[ER,XR]at h⊢
  split at h
  · rename_i c hc
    simp only[hc]
    obtain⟨cs,j,h1,h2⟩:=Aa h
    cases c with
    |ptr id sz i j'=>
     simp only[deref]at h1
     split at h1
     · rename_i sz' xs hf
       simp only[hf]
       split at h1
       · rename_i hs
         rw[if_pos hs]
         simp only[Option.map_eq_some_iff,Prod.mk.injEq]at h1
         obtain⟨e,he,rfl,rfl⟩:=h1
         simp only[qu,he]
         exact rq h2
       · simp at h1
     · simp at h1
    |_=>simp only[h1];exact rq h2
  · simp at h
 |store n x y=>
  simp only[ER,XR,cD]at h⊢
  split at h
  · rename_i id sz i j u hx hy
    simp only[hx,hy]
    split at h
    · rename_i sz' xs hf
      simp only[hf]
      split at h
      · rename_i el hel
        rw[mB]at hel
        simp only[qu,hel]
        obtain⟨hc,h⟩:=bj h
        simp only[Bool.and_eq_true,Nat.beq_eq,Nat.ble_eq]at hc
        rw[if_pos ⟨hc.1.1,hc.1.2,hc.2⟩]
        exact h
      · simp at h
    · simp at h
  · simp at h
 |Dg off x=>
  simp only[ER,XR,dM]at h⊢
  split at h
  · rename_i hx;simp only[hx];exact h
  · rename_i hx;simp only[hx];exact h
  · simp at h
 |field off n x=>
  simp only[ER,XR]at h⊢
  split at h
  · rename_i hx;simp only[hx];exact rq h
  · simp at h
 |CS size x i=>
  simp only[ER,XR,dM]at h⊢
  split at h
  · rename_i id sz i0 len q n hx hi
    simp only[hx,hi]
    obtain⟨hc,h⟩:=bj h
    simp only[Bool.and_eq_true,Nat.beq_eq,Nat.blt,Nat.ble_eq]at hc
    rw[if_pos hc.1]
    refine⟨⟨Int.natCast_nonneg n,?_⟩,h⟩
    show(n:Int) < (len:Int)
    omega
  · rename_i sz xs q n hx hi
    simp only[hx,hi]
    split at h
    · rename_i e he
      rw[mB]at he
      obtain⟨hc,h⟩:=bj h
      simp only[Nat.beq_eq]at hc
      rw[if_pos hc]
      exact⟨Int.natCast_nonneg n,e,he,h⟩
    · simp at h
  · simp at h
 |w5 len size x i=>
  simp only[ER,XR]at h⊢
  split at h
  · rename_i c q n hx hi
    simp only[hx,hi]
    split at h
    · rename_i d hd
      obtain⟨hc,h⟩:=bj h
      have e:(Int.ofNat n).toNat=n:=rfl
      simp only[e,hd]
      simp only[Nat.blt,Nat.ble_eq]at hc
      refine⟨⟨Int.natCast_nonneg n,?_⟩,h⟩
      show(n:Int) < (len:Int)
      omega
    · simp at h
  · simp at h
 |slice size x lo hi=>
  simp only[ER,XR,kF]at h⊢
  split at h
  · rename_i c hc
    simp only[hc]
    split at h
    · rename_i len sz hl hs
      simp only[hl,hs]
      split at h
      · rename_i l hh h1 h2
        obtain⟨hc,h⟩:=bj h
        simp only[Bool.and_eq_true,Nat.beq_eq,Nat.ble_eq]at hc
        rw[if_pos hc.1.1]
        refine Gv h1 (Gv h2 ⟨⟨hc.1.2,hc.2⟩,?_⟩)
        split at h
        · rename_i d hd;simp only[xJ,hd];exact h
        · simp at h
      · simp at h
    · simp at h
  · simp at h
 |make z bytes l c=>
  simp only[ER,XR,cD]at h⊢
  split at h
  · rename_i q l' q' c' hl hc
    simp only[hl,hc]
    obtain⟨hh,h⟩:=bj h
    obtain⟨agD,hh3⟩:=Bool.and_eq_true _ _▸hh
    obtain⟨MU,RR⟩:=Bool.and_eq_true _ _▸agD
    have g1:=Nat.le_of_ble_eq_true MU
    have g2:=Nat.le_of_ble_eq_true RR
    have g3:=Nat.le_of_ble_eq_true hh3
    refine⟨⟨Int.natCast_nonneg l',Int.ofNat_le.2 g1,?_,?_⟩,h⟩
    · show(c':Int)≤_
      omega
    · show(c':Int) * (bytes:Int)≤_
      rw[←Int.natCast_mul]
      generalize c' * bytes=q at g3
      omega
  · simp at h
 |extract x k=>
  simp only[ER,XR,dZ]at h⊢
  split at h
  · rename_i ws hx
    simp only[hx]
    split at h
    · rename_i u hu
      rw[mB]at hu
      simp only[hu]
      exact h
    · simp at h
  · simp at h
 |jx f dc=>
  simp only[ER,XR]at h⊢
  obtain⟨l,h1,h2⟩:=DA h
  simp only[h1]
  exact h2
 |len x=>
  simp only[ER,XR,WU,dM]at h⊢
  split at h
  · rename_i c hc
    simp only[hc]
    split at h
    · rename_i n hn;simp only[hn];exact h
    · simp at h
  · simp at h
 |append size bytes s x=>
  simp only[ER,XR,cD,dM,kF]at h⊢
  split at h
  · rename_i s' x' hs hx
    simp only[hs,hx]
    split at h
    · rename_i sz he
      simp only[he]
      split at h
      · rename_i ln XC;simp only[XC];exact h
      · simp at h
    · rename_i sz y ys he
      simp only[he]
      split at h
      · rename_i id sz' len
        split at h
        · rename_i dy xs hf
          simp only[hf]
          obtain⟨hc,h⟩:=bj h
          simp only[Bool.and_eq_true,Nat.beq_eq,Nat.ble_eq]at hc
          obtain⟨⟨⟨⟨⟨h1,h2⟩,h3⟩,h4⟩,h5⟩,h6⟩:=hc
          subst h4
          rw[if_pos ⟨h1,h2,h3⟩]
          exact⟨⟨rfl,h5,h6⟩,h⟩
        · simp at h
      · obtain⟨hc,h⟩:=bj h
        simp only[Bool.and_eq_true,Nat.beq_eq,Nat.ble_eq]at hc
        obtain⟨⟨h1,h2⟩,h3⟩:=hc
        rw[if_pos h1]
        exact⟨⟨h2,h3⟩,h⟩
      · simp at h
    · simp at h
  · simp at h
 |bin op x y=>
  simp only[ER]at h
  split at h
  · rename_i k a k' b hx hy
    obtain⟨hc,h'⟩:=bj h
    have:=F3 hc
    subst this
    exact NA hx hy h'
  · rename_i a b hx hy
    simp only[XR,hx,hy]
    split at h
    · obtain⟨h1,h2⟩:=bj h
      rw[cD]at h2
      have e:(⟨⟨a.data.toList++b.data.toList⟩⟩:ByteArray)=a++b:=by
       apply ByteArray.ext
       rw[ByteArray.data_append]
       apply Array.ext'
       simp
      rw[e]at h2
      exact⟨by have h3:=Nat.le_of_ble_eq_true h1;rw[Array.length_toList,Array.length_toList]at h3;exact h3,h2⟩
    · simpa only[qJ,ByteArray.toList_eq]using h
    · simpa only[qJ,ByteArray.toList_eq]using h
    · simp at h
  · simp at h
 |KS x=>simp[ER]at h
 |Ss neg ks x y=>
  simp only[ER,XR]at h⊢
  split at h
  · rename_i cs ds hx hy
    simp only[hx,hy]
    split at h
    · rename_i b hb
      simp only[hb]
      rw[qJ]at h
      cases neg<;>exact h
    · simp at h
  · simp at h
 |KU op x y=>
  simp only[ER,XR]at h⊢
  split at h
  · rename_i a b hx hy
    simp only[hx,hy]
    split at h
    · simpa only[qJ]using h
    · simpa only[qJ]using h
    · simp at h
  · simp at h
 |G2 x y=>
  simp only[ER,XR,EC]at h⊢
  split at h
  · rename_i k a k' b hx hy
    simp only[hx,hy]
    have e:gR (decide (b < a)) b a=if b < a then b else a:=by by_cases hb:b < a<;>simp[gR,hb]
    rw[e]at h
    exact h
  · simp at h
 |G3 x y=>
  simp only[ER,XR,EC]at h⊢
  split at h
  · rename_i k a k' b hx hy
    simp only[hx,hy]
    have e:gR (decide (a < b)) b a=if b > a then b else a:=by by_cases hb:a < b<;>simp[gR,hb]
    rw[e]at h
    exact h
  · simp at h
 |G4 x=>
  simp only[ER,XR,dM]at h⊢
  split at h
  · rename_i s hx;simp only[hx];exact h
  · simp at h
 |I3 x i=>
  simp only[ER,XR,dM]at h⊢
  split at h
  · rename_i s q n hx hi
    simp only[hx,hi]
    split at h
    · rename_i b hb
      rw[mB]at hb
      refine⟨Int.natCast_nonneg n,b,?_,h⟩
      have e:(Int.ofNat n).toNat=n:=rfl
      rw[e, ←SQ]
      exact hb
    · simp at h
  · simp at h
 |not x=>
  simp only[ER,XR,qJ]at h⊢
  split at h
  · rename_i b hb;simp only[hb];exact h
  · simp at h
 |neg x=>
  simp only[ER,XR,EU,oe]at h⊢
  split at h
  · rename_i k n hx;simp only[hx];exact h
  · simp at h
 |conv k x=>
  simp only[ER,XR,EU,oe]at h⊢
  split at h
  · rename_i q n hx;simp only[hx];exact h
  · simp at h
 |call f xs=>simp[ER]at h
 |kJ x xs=>simp[ER]at h
 |raw op ty=>simp[ER]at h
end Go.aT
end
section
namespace Go.aT
open Go
variable {P:Program} {M A:Nat→Prop} {ρ:Env} {F:Nat→Prop} {st:St} {a:Act} {w:World}
abbrev bare (op:Op) (ty:TypeId):Oper:=⟨none,op,ty, "", #[],none⟩
theorem uG (ev:Operand→Value) (o:Oper):execOp ev (bare o.op o.type)=execOp ev o:=by cases o;rfl
theorem yT (get:Operand→V) (o:Oper):aY P get (bare o.op o.type)=aY P get o:=by cases o;rfl
theorem uH (get:Operand→V) (hp:HS) (nid:Nat) (o:Oper):aj P get hp nid (bare o.op o.type)=aj P get hp nid o:=by cases o;rfl
theorem AM {w:World} {b:Nat} {en en':Array MapEntry} {c c':Nat} (hb:w.heap[b]? =some (.map en c)) (k:Nat):({w with heap:=w.heap.setIfInBounds b (.map en' c')}:World).shape? k=w.shape? k:=by
 simp only[World.shape?]
 by_cases hk:b=k
 · subst hk
   have hlt:b < w.heap.size:=by
    rcases Nat.lt_or_ge b w.heap.size with h|h
    · exact h
    · simp[Array.getElem?_eq_none h]at hb
   have e:(w.heap.setIfInBounds b (.map en' c'))[b]? =some (.map en' c'):=by simp[hlt]
   rw[e,hb]
 · rw[Array.getElem?_setIfInBounds_ne hk]
theorem Rel.wx (h:Rel M A ρ F st a w) {id clock clock':Nat} {es es':List (Value×C×Nat)} {b:Nat} {en en':Array MapEntry}
 (hf:find st.heap id=some (.mp es clock)) (hρ:ρ id=some (.gz b)) (hb:w.heap[b]? =some (.map en clock)) (hs:en'.size=es'.length)
 (hc: ∀ (i:Nat) (k:Value) (c:C) (n:Nat),es'[i]? =some (k,c,n)→ ∃e,en'[i]? =some e∧e.key=k∧e.born=n∧RC w A ρ c e.val∧Av c e.val):
 Rel M A ρ F {st with heap:=jN st.heap id (.mp es' clock')} a {w with heap:=w.heap.setIfInBounds b (.map en' clock')}∧dj M w {w with heap:=w.heap.setIfInBounds b (.map en' clock')}:=by
 obtain⟨hlt,hM,hA⟩:=(h.heap id _ hf).lt hρ
 have RA: ∀k,k≠b→(w.heap.setIfInBounds b (.map en' clock'))[k]? =w.heap[k]? :=fun k hk=>Array.getElem?_setIfInBounds_ne (fun e=>hk e.symm)
 have hk:eK A A w {w with heap:=w.heap.setIfInBounds b (.map en' clock')}:=⟨by simp,fun k _ hn=>⟨RA k (fun e=>hn (e▸hA)),hn⟩⟩
 have hsh: ∀k,k < w.heap.size→({w with heap:=w.heap.setIfInBounds b (.map en' clock')}:World).shape? k=w.shape? k:=fun k _=>AM hb k
 have dU:dj M w {w with heap:=w.heap.setIfInBounds b (.map en' clock')}:=⟨rfl,rfl,rfl,by simp,fun k _ ho=>RA k (fun e=>ho (e▸hM)),hsh⟩
 refine⟨⟨h.size,h.defers,fun t v hv=>(h.tmps t v hv).keeps hk hsh (cZ.refl _),?_,?_,h.fresh,?_,?_,h.ep.Ig dU (fun _ _ h=>h)⟩,dU⟩
 · intro k blk CY
   simp only[bO]at CY
   split at CY
   · rename_i ek
     subst ek
     simp only[hf,Option.map_some,Option.some.injEq]at CY
     subst CY
     refine⟨b,en',hρ,hM,hA,by simp[hlt],hs,fun i k c n hi=>?_⟩
     obtain⟨e,h1,h2,h3,h4,h5⟩:=hc i k c n hi
     exact⟨e,h1,h2,h3,h4.keeps hk hsh (cZ.refl _),h5⟩
   · rename_i ek
     refine(h.heap k blk CY).keeps hk hsh (cZ.refl _) (fun _ h=>h) (fun b' hb'=>RA b' (fun e=>ek ?_))
     subst e
     exact h.inj k id blk _ b' CY hf hb' hρ
 · intro k k' blk gf b' h1 h2 r1 r2
   have g: ∀q bl,find (jN st.heap id (.mp es' clock')) q=some bl→ ∃Ah,find st.heap q=some Ah:=by
    intro q bl hq
    simp only[bO]at hq
    split at hq
    · rename_i e;subst e;exact⟨_,hf⟩
    · exact⟨_,hq⟩
   obtain⟨Yw,g1⟩:=g k blk h1
   obtain⟨TU,g2⟩:=g k' gf h2
   exact h.inj k k' Yw TU b' g1 g2 r1 r2
 · intro q hq;simpa using h.bound q hq
 · intro q hq;exact h.may q (by simpa using hq)
theorem Rel.Jz (h:Rel M A ρ F st a w) {nid:Nat} (hn:F nid):
 Rel M (fun b=>A b∨b=w.heap.size) (dl ρ nid (.gz w.heap.size)) (Sub F nid) {st with heap:=(nid, .mp [] 0)::st.heap} a (w.alloc (.map #[] 0))∧cZ ρ (dl ρ nid (.gz w.heap.size)):=by
 have hρ:=h.fresh nid hn
 have cJ:cZ ρ (dl ρ nid (.gz w.heap.size)):=cZ.jN hρ
 have hk:=uq (A:=A) (w:=w) (.map #[] 0)
 have hs:=nM (w:=w) (.map #[] 0)
 have hnew:(w.alloc (.map #[] 0)).heap[w.heap.size]? =some (.map #[] 0):=heap_alloc_new w _
 refine⟨⟨h.size,h.defers,fun t v hv=>(h.tmps t v hv).keeps hk hs cJ,?_,?_,?_,?_,?_,h.ep.Ig (dj.alloc _ _ _) (fun b hb h=>h.elim id (fun e=>by omega))⟩,cJ⟩
 · intro id blk hf
   simp only[aA]at hf
   split at hf
   · rename_i e'
     subst e'
     simp only[Option.some.injEq]at hf
     subst hf
     exact⟨w.heap.size, #[],by simp[dl],h.may _ (Nat.le_refl _), .inr rfl,hnew,rfl,fun i k c n hi=>by simp at hi⟩
   · have hb:=h.heap id blk hf
     exact hb.keeps hk hs cJ (fun b hb=> .inl hb) (fun b DW=>RowKit.Below.heap_alloc w _ b (hb.lt DW).1)
 · intro id id' blk gf b hf mD hr dB
   simp only[aA]at hf mD
   simp only[dl]at hr dB
   by_cases e1:nid=id<;>by_cases e2:nid=id'
   · omega
   · simp only[e2,if_false]at mD
     have:¬id'=nid:=fun e=>e2 e.symm
     simp only[this,if_false]at dB
     simp only[e1.symm,if_true,Option.some.injEq,Loc.gz.injEq]at hr
     have:=((h.heap id' gf mD).lt dB).1
     omega
   · simp only[e1,if_false]at hf
     have:¬id=nid:=fun e=>e1 e.symm
     simp only[this,if_false]at hr
     simp only[e2.symm,if_true,Option.some.injEq,Loc.gz.injEq]at dB
     have:=((h.heap id blk hf).lt hr).1
     omega
   · simp only[e1,e2,if_false]at hf mD
     have n1:¬id=nid:=fun e=>e1 e.symm
     have n2:¬id'=nid:=fun e=>e2 e.symm
     simp only[n1,n2,if_false]at hr dB
     exact h.inj id id' blk gf b hf mD hr dB
 · intro id hi
   have:¬id=nid:=fun e=>hi.2 ⟨by omega,by omega⟩
   simp only[dl,this,if_false]
   exact h.fresh id hi.1
 · intro b hb
   simp only[World.alloc,Array.size_push]
   rcases hb with hb|hb
   · have:=h.bound b hb;omega
   · omega
 · intro b hb
   refine h.may b ?_
   simp only[World.alloc,Array.size_push]at hb
   omega
theorem Rel.MC (h:Rel M A ρ F st a w) (o:Obj):Rel M A ρ F st a (w.alloc o)∧dj M w (w.alloc o):=by
 have hk:eK A A w (w.alloc o):=⟨by simp,fun b hlt hn=>⟨RowKit.Below.heap_alloc w o b hlt,hn⟩⟩
 have hs:=nM (w:=w) o
 refine⟨⟨h.size,h.defers,fun t v hv=>(h.tmps t v hv).keeps hk hs (cZ.refl _),fun id blk hf=>?_,h.inj,h.fresh,fun b hb=>?_,fun b hb=>?_,h.ep.Ig (dj.alloc _ _ _) (fun _ _ h=>h)⟩,dj.alloc M w o⟩
 · have hb:=h.heap id blk hf
   exact hb.keeps hk hs (cZ.refl _) (fun _ h=>h) (fun b DW=>RowKit.Below.heap_alloc w _ b (hb.lt DW).1)
 · have:=h.bound b hb
   simp only[World.alloc,Array.size_push];omega
 · simp only[World.alloc,Array.size_push]at hb
   exact h.may b (by omega)
theorem Rel.VV (h:Rel M A ρ F st a w) {id sz:Nat} {xs:List (List C)} (hf:find st.heap id=some (.row sz xs)) (n:Nat):Rel M A ρ F {st with heap:=jN st.heap id (.row sz (xs.take n))} a w:=by
 refine⟨h.size,h.defers,h.tmps,fun k blk hk=>?_,fun k k' blk gf b h1 h2 r1 r2=>?_,h.fresh,h.bound,h.may,h.ep⟩
 · simp only[bO]at hk
   split at hk
   · rename_i ek
     subst ek
     simp only[hf,Option.map_some,Option.some.injEq]at hk
     subst hk
     obtain⟨h1,h2⟩:=h.heap k _ hf
     refine⟨fun e he=>h1 e (List.mem_of_mem_take he),?_⟩
     rcases h2 with⟨b,c,e,k1,k2,k3,k4,k5,k6⟩|⟨k1,k2⟩
     · refine .inl ⟨b,c,e,k1,k2,k3,k4,?_,fun i el j q hi hj=>?_⟩
       · have:(xs.take n).length * sz≤xs.length * sz:=Nat.mul_le_mul_right _ (by simp;omega)
         omega
       · have hi':xs[i]? =some el:=by
          rw[List.getElem?_take]at hi
          split at hi
          · exact hi
          · simp at hi
         exact k6 i el j q hi' hj
     · exact .inr ⟨k1,by simp[k2]⟩
   · exact h.heap k blk hk
 · have g: ∀q bl,find (jN st.heap id (.row sz (xs.take n))) q=some bl→ ∃Ah,find st.heap q=some Ah:=by
    intro q bl hq
    simp only[bO]at hq
    split at hq
    · rename_i e;subst e;exact⟨_,hf⟩
    · exact⟨_,hq⟩
   obtain⟨Yw,g1⟩:=g k blk h1
   obtain⟨TU,g2⟩:=g k' gf h2
   exact h.inj k k' Yw TU b g1 g2 r1 r2
end Go.aT
end
section
namespace Go.aT
open Go
variable {P:Program} {M A:Nat→Prop} {ρ:Env} {F:Nat→Prop} {st:St} {a:Act} {w:World}
def eN:List C→Option (List T)
 | []=>some []
 | .t x::r=>(eN r).map (x:: ·)
 |_::_=>none
def recv (v:V):Option (Bool×List T):=
 match v with
 | .w (.one (.t t))=>some (false,[t])
 | .w (.agg cs)=>(eN cs).map fun ts=>(true,ts)
 |_=>none
def mvC:V→Option C
 | .w (.one c)=>some c
 | .w (.agg cs)=>(eN cs).map .pk
 |_=>none
def EX {α:Type} (P:Program) (bad:α) (op:Op) (ty:TypeId) (g:ej→V) (hp:HS) (ctr:Nat) (K:V→HS→α):α:=
 let other:=match aj P (fun x=>g (dz x)) hp ctr (bare op ty)with
  |some (v,aG)=>uB v fun v=>K v aG
  |none=>match aY P (fun x=>g (dz x)) (bare op ty)with
   |some v=>uB v fun v=>K v hp
   |none=>bad
 match op with
 | .makeMap _ none=>K (.w (.one (.map ctr))) ((ctr, .mp [] 0)::hp)
 | .mapUpdate t m k x=>match g (dz m),(g (dz k)).val?,mvC (g (dz x))with
   | .w (.one (.map id)),some kv,some c=>match P.underlying t,find hp id with
     |some (.map kt _),some (.mp es clock)=>match jg P false kt kv es with
      |some (some i)=>match nth es i with
       |some (old,_,born)=>gR (Instr.sameBits 10000 old kv) (ii (es.set i (kv,c,born)) fun es'=>ii (jN hp id (.mp es' clock)) fun h=>K .undef h) bad
       |none=>bad
      |some none=>ii (es++[(kv,c,clock)]) fun es'=>oT (clock+1) fun q=>ii (jN hp id (.mp es' q)) fun h=>K .undef h
      |none=>bad
     |_,_=>bad
   |_,_,_=>bad
 | .lookup t m k ok=>match g (dz m),(g (dz k)).val? with
   | .w (.one (.map id)),some kv=>match P.underlying t,find hp id with
     |some (.map kt et),some (.mp es _)=>match jg P es.isEmpty kt kv es with
      |some (some i)=>match nth es i with
       |some (_,c,_)=>yO c fun c=>K (match ok with|true=> .eW [cw c,bT true]|false=> .w (cw c)) hp
       |none=>bad
      |some none=>match nq P et with
       |some z=>yO (.t (.val z)) fun c=>K (match ok with|true=> .eW [.one c,bT false]|false=> .w (.one c)) hp
       |none=>bad
      |none=>bad
     |_,_=>bad
   |_,_=>bad
 | .call ⟨.builtin .len,args,gF⟩=>match args.toList,gF.toList with
   | [x],[t]=>match g (dz x)with
     | .w (.one (.map id))=>match P.underlying t,find hp id with
       |some (.map _ _),some (.mp es _)=>oT es.length fun n=>K (iV .i64 (.ofNat n)) hp
       |_,_=>bad
     |_=>other
   |_,_=>other
 | .call ⟨.builtin .delete,args,gF⟩=>match args.toList,gF.toList with
   | [m,k],[t,_]=>match g (dz m),(g (dz k)).val? with
     | .w (.one (.map id)),some kv=>match P.underlying t,find hp id with
       |some (.map kt _),some (.mp es clock)=>match jg P es.isEmpty kt kv es with
        |some (some i)=>ii (es.eraseIdx i) fun es'=>ii (jN hp id (.mp es' clock)) fun h=>K (.eW []) h
        |some none=>K (.eW []) hp
        |none=>bad
       |_,_=>bad
     |_,_=>bad
   |_,_=>bad
 | .range t x=>match g (dz x)with
   | .w (.one (.map id))=>match P.underlying t,find hp id with
     |some (.map _ _),some (.mp _ _)=>K (.w (.one (.it id))) hp
     |_,_=>bad
   |_=>bad
 | .next x false=>match g (dz x)with
   | .w (.one (.it id))=>match find hp id with
     |some (.mp [] _)=>K (.eW [bT false]) hp
     |_=>bad
   |_=>bad
 | .makeFunc (.func f) first dc=>match first.toList,dc.toList with
   | [x],[]=>match recv (g (dz x))with
     |some (b,ts)=>K (.w (.one (.lR f b ts))) hp
     |none=>bad
   |_,_=>other
 | .call ⟨.builtin .append,args,gF⟩=>match args.toList,gF.toList with
   | [s,x],[t,t']=>match P.underlying t' with
     |some (.int _)=>match g (dz s),(g (dz x)).gb,P.underlying t with
      | .w (.one (.t (.val (.slice none 0 0)))),some (.i64, .ofNat (n+1)),some (.slice e)=>match ov P e,jL P e with
        |some (size,bytes),some z=>gR (Nat.beq z.length size&&Nat.ble ((n+1) * bytes) 70368744177664&&Nat.ble (n+1) 70368744177664)
          (ii (List.replicate (n+1) z) fun zs=>K (.w (.one (.own ctr size 0 (n+1)))) ((ctr, .row size zs)::hp)) bad
        |_,_=>bad
      |_,_,_=>bad
     |_=>other
   |_,_=>other
 | .binOp bo t x y _=>match g (dz x),g (dz y),P.underlying t with
   | .w (.one (.ptr _ _ _ _)), .w (.one (.t (.val (.pointer none)))),some (.pointer _)=>match bo with
     | .eql=>K (bV false) hp
     | .neq=>K (bV true) hp
     |_=>bad
   |_,_,_=>other
 |_=>other
def Fg (P:Program) (n:Nat) (o:Oper) (tm:Tr) (hp:HS) (ctr:Nat) (v:V) (aG:HS):Prop:=
 ∀ (M A:Nat→Prop) (ρ:Env) (a:Act) (w:World) (L:TS),fe tm L→Rel M A ρ (bu ctr) ⟨n,L,hp⟩ a w→pE M A ρ (bu (ctr+4)) a w ((execOp a.eval o).run P w) ⟨n,L,aG⟩ v
theorem cP {ctr:Nat}: ∀id,bu (ctr+4) id→bu ctr id:=fun id h=>by simp only[bu]at *;omega
theorem get_eq {tm:Tr} {L:TS} (hL:fe tm L) (n:Nat) (hp:HS):(fun x=>gT tm (dz x))=St.get ⟨n,L,hp⟩:=by
 funext x
 rw[lN hL]
 exact bi ⟨n,L,hp⟩ x
theorem RV.at {tm:Tr} {L:TS} {n:Nat} {hp:HS} (hL:fe tm L) (hr:Rel M A ρ F ⟨n,L,hp⟩ a w) (x:Operand):RV w A ρ (gT tm (dz x)) (a.eval x):=by
 have:=hr.get x
 rw[←congrFun (get_eq hL n hp) x]at this
 exact this
theorem Dh {n:Nat} {o:Oper} {tm:Tr} {hp aG:HS} {ctr:Nat} {v:V} (h:aj P (fun x=>gT tm (dz x)) hp ctr (bare o.op o.type)=some (v,aG)):Fg P n o tm hp ctr v aG:=by
 intro M A ρ a w L hL hr
 rw[uH,get_eq hL n hp]at h
 obtain⟨x,w',A',ρ',h1,h2,h3⟩:=mH (st:=⟨n,L,hp⟩) h hr (Nat.le_refl ctr)
 exact⟨x,w',A',ρ',h1,h2.sub iw,h3⟩
theorem yS {n:Nat} {o:Oper} {tm:Tr} {hp:HS} {ctr:Nat} {v:V} (h:aY P (fun x=>gT tm (dz x)) (bare o.op o.type)=some v):Fg P n o tm hp ctr v hp:=by
 intro M A ρ a w L hL hr
 rw[yT,get_eq hL n hp]at h
 exact iE (st:=⟨n,L,hp⟩) h hr cP
theorem mg: ∀ {cs:List C} {ts:List T},eN cs=some ts→cs=ts.map .t
 | [],ts,h=>by simp only[eN,Option.some.injEq]at h;subst h;rfl
 | .t x::r,ts,h=>by
   simp only[eN,Option.map_eq_some_iff]at h
   obtain⟨l,hl,rfl⟩:=h
   simp[mg hl]
 | .own .. ::_,ts,h=>by simp[eN]at h
 | .ptr .. ::_,ts,h=>by simp[eN]at h
 | .uc .. ::_,ts,h=>by simp[eN]at h
 | .jx .. ::_,ts,h=>by simp[eN]at h
 | .map _::_,ts,h=>by simp[eN]at h
 | .it _::_,ts,h=>by simp[eN]at h
 | .lR .. ::_,ts,h=>by simp[eN]at h
 | .pk .. ::_,ts,h=>by simp[eN]at h
 | .any::_,ts,h=>by simp[eN]at h
theorem CD {v:V} {c:C} {x:Value} (h:mvC v=some c) (hr:RV w A ρ v x):RC w A ρ c x∧Av c x:=by
 unfold mvC at h
 split at h
 · simp only[Option.some.injEq]at h
   subst h
   exact⟨hr.1, .inl hr.2⟩
 · simp only[Option.map_eq_some_iff]at h
   obtain⟨l,hl,rfl⟩:=h
   have:=mg hl
   subst this
   exact Av.pk hr
 · simp at h
theorem Hf {v:V} {b:Bool} {ts:List T} {x:Value} (h:recv v=some (b,ts)) (hr:RV w A ρ v x):RF w A b ts x:=by
 unfold recv at h
 split at h
 · simp only[Option.some.injEq,Prod.mk.injEq]at h
   obtain⟨rfl,rfl⟩:=h
   exact⟨_,rfl,hr.1,hr.2⟩
 · simp only[Option.map_eq_some_iff,Prod.mk.injEq]at h
   obtain⟨l,hl,rfl,rfl⟩:=h
   have:=mg hl
   subst this
   obtain⟨vs,rfl,h1,h2⟩:=hr
   exact⟨vs,rfl,by simpa using h1,fun k t y ht hy=>h2 k (.t t) y (by simp[ht]) hy⟩
 · simp at h
theorem lu {t t' ty e:TypeId} {ik:IntKind} {i:TypeInfo} {z:Value} (ht:P.underlying t=some (.slice e)) (ht':P.underlying t'=some (.int ik)) (hi:P.info? e=some i) (hz:i.zero=some z)
 (n:Nat) (h0:0 < n) (hsz:0 < i.size) (hn:n≤70368744177664) (h48:n * i.bytes≤70368744177664) (w:World):
 (Builtin.append_ #[t,t'] ty #[.slice none 0 0, .int .i64 (n:Int)]).run P w=
   .ok (.slice (some ⟨w.heap.size,0,none⟩) n (grownCap w n 0 e)) (w.drew.alloc (.cells (Builtin.zeroCells z.cells n++Builtin.zeroCells z.cells (grownCap w n 0 e - n)) e)):=by
 have LK:n≠0:=by omega
 have hs0:i.size≠0:=by omega
 have ahJ:¬ (9223372036854775807 < (n:Int)):=by omega
 have ahK:¬ (281474976710656 < Builtin.nextslicecap n 0 * i.bytes):=by rw[nextslicecap_zero h0];omega
 have hw:IntKind.i64.wrap (n:Int)=(n:Int):=wrap_i64 (by omega) (by omega)
 have hneg:¬ ((n:Int) < 0):=by omega
 have agW:¬ (281474976710656 < (n:Int) * (i.bytes:Int)):=by rw[←Int.natCast_mul];generalize n * i.bytes=q at h48;omega
 simp[Builtin.append_,run_underlying ht,run_underlying ht',sizeOf,typeInfo,zeroValue,hi,hz,asInt,asIntOf,hw,hneg,agW,LK,hs0,ahJ,ahK,Question.forced,run_firstCells_none,newRow,grownCap]
 intro h
 rcases Nat.mul_eq_zero.1 h with h|h
 · exact absurd h LK
 · exact absurd h hs0
set_option maxHeartbeats 1000000
theorem Lq {n:Nat} {o:Oper} {tm:Tr} {hp:HS} {ctr:Nat} {K:V→HS→Bool} (h:EX P false o.op o.type (gT tm) hp ctr K=true): ∃v aG,Fg P n o tm hp ctr v aG∧K v aG=true:=by
 obtain⟨op,hop⟩: ∃op,op=o.op:=⟨_,rfl⟩
 have other:(match aj P (fun x=>gT tm (dz x)) hp ctr (bare o.op o.type)with
  |some (v,aG)=>uB v fun v=>K v aG
  |none=>match aY P (fun x=>gT tm (dz x)) (bare o.op o.type)with
   |some v=>uB v fun v=>K v hp
   |none=>false)=true→ ∃v aG,Fg P n o tm hp ctr v aG∧K v aG=true:=by
  intro h
  split at h
  · rename_i v aG he
    rw[dZ]at h
    exact⟨v,aG,Dh he,h⟩
  · split at h
    · rename_i v he
      rw[dZ]at h
      exact⟨v,hp,yS he,h⟩
    · simp at h
 have lK: ∀ (ev:Operand→Value),execOp ev o=execOp ev (bare op o.type):=fun ev=>by rw[hop,uG]
 rw[←hop]at h other
 unfold EX at h
 simp only at h
 split at h
 ·
  rename_i t
  refine⟨_,_,?_,h⟩
  intro M A ρ a w L hL hr
  obtain⟨r1,r2⟩:=Rel.Jz (st:=⟨n,L,hp⟩) hr (Nat.le_refl ctr)
  refine⟨.map (some w.heap.size),w.alloc (.map #[] 0),_,_, .inl ?_,r1.sub iw,⟨⟨w.heap.size,by simp[dl],rfl⟩,rfl⟩,dj.alloc M w _,r2,bH.new A w⟩
  rw[lK]
  simp[execOp,Instr.makeMap]
 ·
  rename_i t m k x
  split at h
  · rename_i id kv c hm hk hx
    split at h
    · rename_i kt et es clock hu hf
      split at h
      · rename_i i rJ
        split at h
        · rename_i old c0 born Bp
          obtain⟨lV,h⟩:=bj h
          rw[cD,cD]at h
          rw[mB]at Bp
          refine⟨_,_,?_,h⟩
          intro M A ρ a w L hL hr
          have vm:=RV.at hL hr m
          rw[hm]at vm
          have vk:=V.bk hk (RV.at hL hr k)
          have vx:=CD hx (RV.at hL hr x)
          obtain⟨b,en,q1,q2,q3,q4,q5⟩:=iR hr hf vm
          obtain⟨c1,o2,c2,c3,c4⟩:=dP rJ (gG (id:=id) (clock:=clock) q4 q5) w
          cases o2 with
          |none=>simp at c3
          |some p=>
           obtain⟨j,v⟩:=p
           simp only[Option.map_some,Option.some.injEq]at c3
           subst c3
           obtain⟨e0,e1,e2,e3,_⟩:=q5 j old c0 born Bp
           have hi:j < en.size:=(Array.getElem?_eq_some_iff.1 e1).1
           have he0:en[j]=e0:=by simpa[hi]using e1
           obtain⟨r1,r2⟩:=Rel.wx (st:=⟨n,L,hp⟩) (clock':=clock) (es':=es.set j (kv,c,born)) (en':=en.modify j fun e=>{e with key:=kv,val:=a.eval x}) hr hf q1 q3 (by simp[q4]) (fun i k' c' n' hi'=>by
            by_cases hij:j=i
            · subst hij
              rw[List.getElem?_set_self (by rw[←q4];exact hi)]at hi'
              simp only[Option.some.injEq,Prod.mk.injEq]at hi'
              obtain⟨rfl,rfl,rfl⟩:=hi'
              refine⟨{e0 with key:=kv,val:=a.eval x},by simp[Array.getElem?_modify,e1],rfl,e3,vx.1,vx.2⟩
            · rw[List.getElem?_set_ne hij]at hi'
              obtain⟨e,g1,g2,g3,g4,g5⟩:=q5 i k' c' n' hi'
              exact⟨e,by simp[Array.getElem?_modify,hij,g1],g2,g3,g4,g5⟩)
           refine⟨undef,_,A,ρ, .inr ⟨?_,rfl⟩,r1.sub cP,trivial,r2,cZ.refl _,bH.refl _ _⟩
           have hks:(Instr.keyThatStays (((en[j]?).map (·.key)).getD kv) kv).run P w= .ok kv w:=by
            simp[Instr.keyThatStays,e1,e2,lV]
           rw[lK]
           simp only[execOp,Instr.mapUpdate,Sem.run_bind,run_underlying hu,Result.andThen_ok,q2,qw q3,vk,c1,c2,hks,Ho _ q3,Sem.run_pure]
        · simp at h
      · rename_i rJ
        rw[cD,dM,cD]at h
        refine⟨_,_,?_,h⟩
        intro M A ρ a w L hL hr
        have vm:=RV.at hL hr m
        rw[hm]at vm
        have vk:=V.bk hk (RV.at hL hr k)
        have vx:=CD hx (RV.at hL hr x)
        obtain⟨b,en,q1,q2,q3,q4,q5⟩:=iR hr hf vm
        obtain⟨c1,o2,c2,c3,c4⟩:=dP rJ (gG (id:=id) (clock:=clock) q4 q5) w
        cases o2 with
        |some p=>simp at c3
        |none=>
         obtain⟨r1,r2⟩:=Rel.wx (st:=⟨n,L,hp⟩) (clock':=clock+1) (es':=es++[(kv,c,clock)]) (en':=en.push {key:=kv,val:=a.eval x,born:=clock}) hr hf q1 q3 (by simp[q4]) (fun i k' c' n' hi'=>by
          by_cases hlt:i < es.length
          · rw[List.getElem?_append_left hlt]at hi'
            obtain⟨e,g1,g2,g3,g4,g5⟩:=q5 i k' c' n' hi'
            exact⟨e,by rw[Array.getElem?_push,if_neg (by omega)];exact g1,g2,g3,g4,g5⟩
          · rw[List.getElem?_append_right (by omega)]at hi'
            have hz:i - es.length=0:=by
             have:=(List.getElem?_eq_some_iff.1 hi').1
             simp at this
             omega
            rw[hz]at hi'
            simp only[List.getElem?_cons_zero,Option.some.injEq,Prod.mk.injEq]at hi'
            obtain⟨rfl,rfl,rfl⟩:=hi'
            exact⟨⟨kv,a.eval x,clock⟩,by rw[Array.getElem?_push,if_pos (by omega)],rfl,rfl,vx.1,vx.2⟩)
         refine⟨undef,_,A,ρ, .inr ⟨?_,rfl⟩,r1.sub cP,trivial,r2,cZ.refl _,bH.refl _ _⟩
         rw[lK]
         simp only[execOp,Instr.mapUpdate,Sem.run_bind,run_underlying hu,Result.andThen_ok,q2,qw q3,vk,c1,c2,Ho _ q3,Sem.run_pure]
      · simp at h
    · simp at h
  · simp at h
 ·
  rename_i t m k ok
  split at h
  · rename_i id kv hm hk
    split at h
    · rename_i kt et es clock hu hf
      split at h
      · rename_i i rJ
        split at h
        · rename_i k0 c born Bp
          rw[kF]at h
          rw[mB]at Bp
          refine⟨_,_,?_,h⟩
          intro M A ρ a w L hL hr
          have vm:=RV.at hL hr m
          rw[hm]at vm
          have vk:=V.bk hk (RV.at hL hr k)
          obtain⟨b,en,q1,q2,q3,q4,q5⟩:=iR hr hf vm
          obtain⟨c1,o2,c2,c3,c4⟩:=dP rJ (gG (id:=id) (clock:=clock) q4 q5) w
          cases o2 with
          |none=>simp at c3
          |some p=>
           obtain⟨j,v⟩:=p
           simp only[Option.map_some,Option.some.injEq]at c3
           subst c3
           obtain⟨e0,e1,e2,e3,e4,e5⟩:=q5 j k0 c born Bp
           obtain⟨e',g1,rfl⟩:=c4 j v rfl
           rw[e1]at g1
           simp only[Option.some.injEq]at g1
           subst g1
           have hrun:(execOp a.eval o).run P w= .ok (.value (if ok then .tuple #[e0.val, .bool true]else e0.val)) w:=by
            rw[lK]
            simp only[execOp,Instr.lookup,Sem.run_bind,run_underlying hu,Result.andThen_ok,q2,qw q3,Sem.run_pure,vk,fP q4,c1,c2]
           refine⟨_,w,A,ρ, .inl hrun,hr.sub cP,?_,dj.refl _ _,cZ.refl _,bH.refl _ _⟩
           cases ok with
           |true=>exact GW (e5.rw e4)
           |false=>exact e5.rw e4
        · simp at h
      · rename_i rJ
        split at h
        · rename_i z hz
          rw[kF]at h
          refine⟨_,_,?_,h⟩
          intro M A ρ a w L hL hr
          have vm:=RV.at hL hr m
          rw[hm]at vm
          have vk:=V.bk hk (RV.at hL hr k)
          obtain⟨b,en,q1,q2,q3,q4,q5⟩:=iR hr hf vm
          obtain⟨c1,o2,c2,c3,c4⟩:=dP rJ (gG (id:=id) (clock:=clock) q4 q5) w
          cases o2 with
          |some p=>simp at c3
          |none=>
           obtain⟨W7,w6⟩:=sC hz w
           have hrun:(execOp a.eval o).run P w= .ok (.value (if ok then .tuple #[z, .bool false]else z)) w:=by
            rw[lK]
            simp only[execOp,Instr.lookup,Sem.run_bind,run_underlying hu,Result.andThen_ok,q2,qw q3,Sem.run_pure,vk,fP q4,c1,c2,W7]
           refine⟨_,w,A,ρ, .inl hrun,hr.sub cP,?_,dj.refl _ _,cZ.refl _,bH.refl _ _⟩
           cases ok with
           |true=>exact GW (u0:= .one (.t (.val z))) ⟨RT.val w6,w6⟩
           |false=>exact⟨RT.val w6,w6⟩
        · simp at h
      · simp at h
    · simp at h
  · simp at h
 ·
  rename_i args gF
  split at h
  · rename_i x t hargs ji
    split at h
    · rename_i id hx
      split at h
      · rename_i kt et es clock hu hf
        rw[dM]at h
        refine⟨_,_,?_,h⟩
        intro M A ρ a w L hL hr
        have vm:=RV.at hL hr x
        rw[hx]at vm
        obtain⟨b,en,q1,q2,q3,q4,q5⟩:=iR hr hf vm
        have ea:args= #[x]:=by rw[←Array.toArray_toList (xs:=args),hargs]
        have et:gF= #[t]:=by rw[←Array.toArray_toList (xs:=gF),ji]
        subst ea
        subst et
        have hrun:(execOp a.eval o).run P w= .ok (.value (goInt en.size)) w:=by
         rw[lK]
         simp[execOp,resolve,invoke,builtin,Builtin.len_,run_underlying hu,q2,qw q3]
        refine⟨_,w,A,ρ, .inl hrun,hr.sub cP,?_,dj.refl _ _,cZ.refl _,bH.refl _ _⟩
        rw[q4]
        exact RV.ofValue w A ρ (goInt es.length)
      · simp at h
    · exact other h
  · exact other h
 ·
  rename_i args gF
  split at h
  · rename_i m k t t' hargs ji
    split at h
    · rename_i id kv hm hk
      split at h
      · rename_i kt et es clock hu hf
        have ea:args= #[m,k]:=by rw[←Array.toArray_toList (xs:=args),hargs]
        have et:gF= #[t,t']:=by rw[←Array.toArray_toList (xs:=gF),ji]
        subst ea
        subst et
        split at h
        · rename_i i rJ
          rw[cD,cD]at h
          refine⟨_,_,?_,h⟩
          intro M A ρ a w L hL hr
          have vm:=RV.at hL hr m
          rw[hm]at vm
          have vk:=V.bk hk (RV.at hL hr k)
          obtain⟨b,en,q1,q2,q3,q4,q5⟩:=iR hr hf vm
          obtain⟨c1,o2,c2,c3,c4⟩:=dP rJ (gG (id:=id) (clock:=clock) q4 q5) w
          cases o2 with
          |none=>simp at c3
          |some p=>
           obtain⟨j,v⟩:=p
           simp only[Option.map_some,Option.some.injEq]at c3
           subst c3
           obtain⟨e',g1,_⟩:=c4 j v rfl
           have hj:j < en.size:=(Array.getElem?_eq_some_iff.1 g1).1
           obtain⟨r1,r2⟩:=Rel.wx (st:=⟨n,L,hp⟩) (clock':=clock) (es':=es.eraseIdx j) (en':=en.eraseIdxIfInBounds j) hr hf q1 q3
            (by rw[Array.eraseIdxIfInBounds,dif_pos hj,Array.size_eraseIdx,List.length_eraseIdx,if_pos (by omega),q4]) (fun i k' c' n' hi'=>by
            rw[List.getElem?_eraseIdx]at hi'
            have he:(en.eraseIdxIfInBounds j)[i]? =if i < j then en[i]? else en[i+1]? :=by
             rw[Array.eraseIdxIfInBounds,dif_pos hj,Array.getElem?_eraseIdx]
            rw[he]
            split at hi'
            · rename_i hlt;rw[if_pos hlt];exact q5 i k' c' n' hi'
            · rename_i hlt;rw[if_neg hlt];exact q5 (i+1) k' c' n' hi')
           have hrun:(execOp a.eval o).run P w= .ok (.value (.tuple #[])) {w with heap:=w.heap.setIfInBounds b (.map (en.eraseIdxIfInBounds j) clock)}:=by
            rw[lK]
            simp only[execOp,resolve,invoke,builtin,Builtin.delete_]
            simp[run_underlying hu,q2,qw q3,vk,fP q4,c1,c2,Ho _ q3]
           exact⟨_,_,A,ρ, .inl hrun,r1.sub cP,⟨#[],rfl,rfl,by simp⟩,r2,cZ.refl _,bH.refl _ _⟩
        · rename_i rJ
          refine⟨_,_,?_,h⟩
          intro M A ρ a w L hL hr
          have vm:=RV.at hL hr m
          rw[hm]at vm
          have vk:=V.bk hk (RV.at hL hr k)
          obtain⟨b,en,q1,q2,q3,q4,q5⟩:=iR hr hf vm
          obtain⟨c1,o2,c2,c3,c4⟩:=dP rJ (gG (id:=id) (clock:=clock) q4 q5) w
          cases o2 with
          |some p=>simp at c3
          |none=>
           have XS:b < w.heap.size:=by
            rcases Nat.lt_or_ge b w.heap.size with hl|hg
            · exact hl
            · simp[Array.getElem?_eq_none hg]at q3
           have Xp:({w with heap:=w.heap.setIfInBounds b (.map en clock)}:World)=w:=by
            have:w.heap.setIfInBounds b (.map en clock)=w.heap:=by
             apply Array.ext_getElem?
             intro i
             by_cases hi:b=i
             · subst hi;simp[XS,q3];simpa[XS]using q3.symm
             · rw[Array.getElem?_setIfInBounds_ne hi]
            rw[this]
           have hrun:(execOp a.eval o).run P w= .ok (.value (.tuple #[])) w:=by
            rw[lK]
            simp only[execOp,resolve,invoke,builtin,Builtin.delete_]
            simp[run_underlying hu,q2,qw q3,vk,fP q4,c1,c2,Ho _ q3,Xp]
           exact⟨_,_,A,ρ, .inl hrun,hr.sub cP,⟨#[],rfl,rfl,by simp⟩,dj.refl _ _,cZ.refl _,bH.refl _ _⟩
        · simp at h
      · simp at h
    · simp at h
  · simp at h
 ·
  rename_i t x
  split at h
  · rename_i id hx
    split at h
    · rename_i kt et es clock hu hf
      refine⟨_,_,?_,h⟩
      intro M A ρ a w L hL hr
      have vm:=RV.at hL hr x
      rw[hx]at vm
      obtain⟨b,en,q1,q2,q3,q4,q5⟩:=iR hr hf vm
      obtain⟨r1,r2⟩:=Rel.MC hr (.mapIter (some b) clock #[] clock)
      have hrun:(execOp a.eval o).run P w= .ok (.value (.pointer (some ⟨w.heap.size,0,none⟩))) (w.alloc (.mapIter (some b) clock #[] clock)):=by
       rw[lK]
       simp[execOp,Instr.range,run_underlying hu,q2,qw q3]
      refine⟨_,_,A,ρ, .inl hrun,r1.sub cP,⟨⟨b,w.heap.size,clock,clock,q1,rfl,by simp,fun hA=>?_,heap_alloc_new w _⟩,rfl⟩,r2,cZ.refl _,bH.refl _ _⟩
      have:=hr.bound _ hA
      omega
    · simp at h
  · simp at h
 ·
  rename_i x
  split at h
  · rename_i id hx
    split at h
    · rename_i clock hf
      refine⟨_,_,?_,h⟩
      intro M A ρ a w L hL hr
      have vi:=RV.at hL hr x
      rw[hx]at vi
      obtain⟨b,r,since,last,k1,k2,k3,k4,k5⟩:=vi.1
      obtain⟨b',en,g1,g2,g3,g4,g5,g6⟩:=hr.heap id _ hf
      rw[k1]at g1
      simp only[Option.some.injEq,Loc.gz.injEq]at g1
      subst g1
      have od:en= #[]:=by
       apply Array.eq_empty_of_size_eq_zero
       simpa using g5
      subst od
      have EO:(getObj r).run P w= .ok (.mapIter (some b) since #[] last) w:=by simp[getObj,Sem.run,k5]
      have hrun:(execOp a.eval o).run P w= .ok (.value (.tuple #[.bool false])) w:=by
       rw[lK]
       simp only[execOp,Instr.next,k2]
       simp[EO,qw g4,Question.forced]
      exact⟨_,_,A,ρ, .inl hrun,hr.sub cP,⟨_,rfl,rfl,fun k u y hu hy=>by
       match k with
       |0=>simp at hu hy;subst hu;subst hy;exact RW.bT false
       |k+1=>simp at hu⟩,dj.refl _ _,cZ.refl _,bH.refl _ _⟩
    · simp at h
  · simp at h
 ·
  rename_i f first dc
  split at h
  · rename_i x xd XP
    split at h
    · rename_i b ts LJ
      refine⟨_,_,?_,h⟩
      intro M A ρ a w L hL hr
      have vx:=RV.at hL hr x
      have ea:first= #[x]:=by rw[←Array.toArray_toList (xs:=first),xd]
      have et:dc= #[]:=by rw[←Array.toArray_toList (xs:=dc),XP]
      subst ea
      subst et
      have hrun:(execOp a.eval o).run P w= .ok (.value (.func (.func f) #[a.eval x] #[])) w:=by
       rw[lK]
       simp[execOp,Instr.makeFunc]
      exact⟨_,_,A,ρ, .inl hrun,hr.sub cP,⟨⟨_,rfl,Hf LJ vx⟩,rfl⟩,dj.refl _ _,cZ.refl _,bH.refl _ _⟩
    · simp at h
  · exact other h
 ·
  rename_i args gF
  split at h
  · rename_i s x t t' hargs ji
    split at h
    · rename_i ik Bl
      split at h
      · rename_i m e hs hx hu
        split at h
        · rename_i size bytes z hT hz
          obtain⟨hc,h⟩:=bj h
          rw[cD]at h
          refine⟨_,_,?_,h⟩
          intro M A ρ a w L hL hr
          have vs:=RV.at hL hr s
          rw[hs]at vs
          have vx:=V.iT hx (RV.at hL hr x)
          have Xj:a.eval s= .slice none 0 0:=V.bk (v:= .slice none 0 0) rfl vs
          have ea:args= #[s,x]:=by rw[←Array.toArray_toList (xs:=args),hargs]
          have et:gF= #[t,t']:=by rw[←Array.toArray_toList (xs:=gF),ji]
          subst ea
          subst et
          obtain⟨inf,zv,z1,z2,z3,z4,z5,z6⟩:=mJ hT
          obtain⟨adV,zv',y1,y2,y3,y4,y5⟩:=fE hz w A ρ
          rw[z1]at y1
          simp only[Option.some.injEq]at y1
          subst y1
          rw[z2]at y2
          simp only[Option.some.injEq]at y2
          subst y2
          obtain⟨agV,hc3⟩:=Bool.and_eq_true _ _▸hc
          obtain⟨ph,Bv⟩:=Bool.and_eq_true _ _▸agV
          have g2:=Nat.le_of_ble_eq_true Bv
          have g3:=Nat.le_of_ble_eq_true hc3
          have hsize:z.length=size:=by rw[←y4];exact z3
          have hrun:=lu (P:=P) (ty:=o.type) hu Bl z1 z2 (m+1) (by omega) (by omega) g3 (by rw[z4];exact g2) w
          have hge:=grownCap_ge w (m+1) 0 e
          obtain⟨e1,e2,e3⟩:=nn y5 (m+1)
          have hlen:(List.replicate (m+1) z).length=m+1:=by simp
          obtain⟨A',ρ',r1,r2,r3,r4,r5⟩:=jX (st:=⟨n,L,hp⟩) (e:=e) (z:=zv.cells) (cap:=grownCap w (m+1) 0 e) (zs:=List.replicate (m+1) z) (vs:=(Builtin.zeroCells zv.cells (m+1)).toList) (size:=size) hr (Nat.le_refl ctr) z5
           (fun el hel=>by rw[List.eq_of_mem_replicate hel];exact hsize)
           (by rw[Array.length_toList,size_zeroCells,z5,hlen]) (by rw[hlen];exact hge)
           (fun i el j k hi hj=>by
             obtain⟨y,hy,kC,w7⟩:=e3 i el j k hi hj
             refine⟨y,?_,kC,w7⟩
             rw[Array.getElem?_toList, ←hsize]
             have ez:Builtin.zeroCells zv.cells (m+1)=(Array.range ((m+1) * z.length)).map fun k=>zv.cells[k % zv.cells.size]! :=by
              unfold Builtin.zeroCells
              have:zv.cells.size=z.length:=by rw[y3,y4]
              rw[this]
             rw[ez]
             exact hy)
          rw[hlen]at r1 r2 r3
          simp only[Array.toArray_toList]at r1 r2 r3
          refine⟨_,_,A',ρ', .inl ?_,r1.sub iw,r2,r3,r4,r5⟩
          rw[lK]
          have Xa:a.eval x= .int .i64 ((m+1:Nat):Int):=vx
          have RZ:(execOp a.eval (bare (Op.call ⟨.builtin .append, #[s,x], #[t,t']⟩) o.type)).run P w=((Builtin.append_ #[t,t'] o.type #[a.eval s,a.eval x]).run P w).andThen fun v w'=> .ok (.value v) w':=by
           simp[execOp,resolve,invoke,builtin]
          rw[RZ,Xj,Xa,hrun]
          rfl
        · simp at h
      · simp at h
    · exact other h
  · exact other h
 ·
  rename_i bo t x y t'
  split at h
  · rename_i id sz i j e hx hy hu
    have V9: ∀ (b:Addr) (w:World),(Op.equal t (.pointer (some b)) (.pointer none)).run P w= .ok false w:=by
     intro b w
     show(Op.equalIn 10000 t (.pointer (some b)) (.pointer none)).run P w=_
     unfold Op.equalIn
     simp[run_underlying hu]
    have fin: ∀ (c:Bool),(∀ (b:Addr) (w:World),(binOp bo t (.pointer (some b)) (.pointer none)).run P w= .ok (.bool c) w)→Fg P n o tm hp ctr (bV c) hp:=by
     intro c hc M A ρ a w L hL hr
     have vx:=RV.at hL hr x
     rw[hx]at vx
     have vy:=RV.at hL hr y
     rw[hy]at vy
     obtain⟨b,_,hb⟩:=vx.1
     have Zl:a.eval y= .pointer none:=V.bk (v:= .pointer none) rfl vy
     have hg:(eqGuard bo t x y (.pointer (some ⟨b,i * sz+j,none⟩)) (.pointer none)).run P w= .ok () w:=by
      unfold eqGuard
      cases bo<;>simp
     have hrun:(execOp a.eval o).run P w= .ok (.value (.bool c)) w:=by
      rw[lK]
      simp only[execOp,hb,Zl,Sem.run_bind,hg,Result.andThen_ok,hc,Sem.run_pure]
     exact⟨_,w,A,ρ, .inl hrun,hr.sub cP,RV.ofValue w A ρ (.bool c),dj.refl _ _,cZ.refl _,bH.refl _ _⟩
    split at h
    · exact⟨_,_,fin false (fun b w=>by simp[binOp,V9]),h⟩
    · exact⟨_,_,fin true (fun b w=>by simp[binOp,V9]),h⟩
    · simp at h
  · exact other h
 · exact other h
end Go.aT
end
section
namespace Go.aT
open Go
variable {P:Program} {M A:Nat→Prop} {ρ:Env} {F:Nat→Prop} {st:St} {a:Act} {w:World}
def FN (bits:List Nat) (lo:Nat) (fs:List iI):Bool:=
 (List.range fs.length).all fun j=>match fs[j]? with
   |some g=>(List.range j).all fun i=>match fs[i]? with
    |some f=>(bits.getD (lo+j) 0).testBit (lo+i)||f.apart g
    |none=>true
   |none=>true
theorem wA {bits:List Nat} {lo:Nat} {fs:List iI} (h:FN bits lo fs=true) {i j:Nat} {f g:iI} (hij:i < j) (hf:fs[i]? =some f) (hg:fs[j]? =some g):
 (bits.getD (lo+j) 0).testBit (lo+i)=true∨f.apart g=true:=by
 unfold FN at h
 have hj:j < fs.length:=(List.getElem?_eq_some_iff.1 hg).1
 have:=List.all_eq_true.1 h j (List.mem_range.2 hj)
 simp only[hg]at this
 have:=List.all_eq_true.1 this i (List.mem_range.2 hij)
 simp only[hf,Bool.or_eq_true]at this
 exact this
theorem G6 {ops:Array Oper} {n base lo m:Nat} {tmT:Nat→TS} {hpT:Nat→HS} {v:Nat→V} {fs:List iI} {Q:Exit→Act→World→Prop}
 (hlm:lo+m≤ops.size)
 (hstep: ∀i o,i < m→ops[lo+i]? =some o→fR P ops o n (tmT i) (hpT i) (base+4 * i) (v i) (hpT (i+1))∧(∀t,find (tmT (i+1)) t=find (fk (tmT i) o.dst (v i)) t)∧
   ∃f,fs[i]? =some f∧f.dst=o.dst∧(∀t,t∈names ops o→t∈f.nm)∧(∀k,k∈jv (St.get ⟨n,tmT i,hpT i⟩) o→k∈f.rd)∧(∀k,k∈vL (St.get ⟨n,tmT i,hpT i⟩) (base+4 * i) o→k∈f.wr))
 (hE: ∀i o,ops[i]? =some o→ ∀e,e∈bf o→e < i)
 (hok:FN (kX (ops.toList.map bf) []) lo fs=true)
 (EM: ∀k,lo+m≤k→k < ops.size→ ∀i,i < m→((kX (ops.toList.map bf) []).getD k 0).testBit (lo+i)=true)
 (cI:Rel M A ρ (bu base) ⟨n,tmT 0,hpT 0⟩ a w)
 (J3: ∀ (fuel:Nat) (listed:Array Bool) (a':Act) (w':World),listed.size=ops.size→(∀i,i < ops.size→listed.getD i false=decide (i < lo+m))→ops.size - (lo+m)≤fuel→
   GH M A ρ w (fun st c=>st=⟨n,tmT m,hpT m⟩∧c=base+4 * m) a' w'→wpAny P .any ops Q fuel listed a' w'):
 ∀ (fuel:Nat) (listed:Array Bool),listed.size=ops.size→(∀i,i < ops.size→listed.getD i false=decide (i < lo))→ops.size - lo≤fuel→wpAny P .any ops Q fuel listed a w:=by
 let N:=m
 let dst:Nat→Option Nat:=fun i=>(ops[lo+i]?).bind (·.dst)
 let wr:Nat→List Nat:=fun i=>((ops[lo+i]?).map fun o=>vL (St.get ⟨n,tmT i,hpT i⟩) (base+4 * i) o).getD []
 have hop: ∀i,i < N→ ∃o,ops[lo+i]? =some o:=fun i hi=>by
  have:lo+i < ops.size:=by simp only[N]at hi;omega
  exact⟨ops[lo+i],by simp[this]⟩
 have xf: ∀i o,ops[lo+i]? =some o→dst i=o.dst:=fun i o h=>by simp only[dst,h,Option.bind_some]
 have hwr: ∀i o,ops[lo+i]? =some o→wr i=vL (St.get ⟨n,tmT i,hpT i⟩) (base+4 * i) o:=by
  intro i o h
  simp only[wr,h,Option.map_some,Option.getD_some]
 have w9: ∀i,i < N→ ∀k,¬k∈wr i→find (hpT (i+1)) k=find (hpT i) k:=by
  intro i hi k hk
  obtain⟨o,ho⟩:=hop i hi
  obtain⟨h1,_⟩:=hstep i o hi ho
  obtain⟨_,_,h3⟩:=h1.loc (tm2:=tmT i) (hp2:=hpT i) (fun _ _=>rfl) (fun _ _=>rfl) (fun _ _=>rfl)
  rw[hwr i o ho]at hk
  exact(h3.2 k hk).1
 have JV: ∀i,i < N→ ∀t,find (tmT (i+1)) t=find (fk (tmT i) (dst i) (v i)) t:=by
  intro i hi t
  obtain⟨o,ho⟩:=hop i hi
  rw[(hstep i o hi ho).2.1 t,xf i o ho]
 have X2: ∀ (i:Nat) (es:List Nat),(ops.toList.map bf)[i]? =some es→ ∀e,e∈es→e < i:=by
  intro i es h e he
  simp only[List.getElem?_map,Array.getElem?_toList,Option.map_eq_some_iff]at h
  obtain⟨o,ho,rfl⟩:=h
  exact hE i o ho e he
 let Lg:Array Bool→Nat→Bool:=fun listed i=>listed.getD i false
 let de:Array Bool→Nat→Bool:=fun listed i=>listed.getD (lo+i) false
 let Fr:(Nat→Bool)→Nat→Prop:=fun L k=>base+4 * N≤k∨ ∃j,j < N∧L j=false∧base+4 * j≤k∧k < base+4 * j+4
 have iY: ∀ {L:Nat→Bool} {i:Nat},i < ops.size→(∀k o,ops[k]? =some o→L k=true→ ∀e,e∈bf o→L e=true)→(∀o,ops[i]? =some o→ ∀e,e∈bf o→L e=true)→
  ∀j,((kX (ops.toList.map bf) []).getD i 0).testBit j=true→L j=true:=by
  intro L i hi eF LP j hb
  refine(qP X2 i (by simpa using hi) (fun k es _ HX j9 e he=>?_) (fun es j9 e he=>?_) j hb).1
  · simp only[List.getElem?_map,Array.getElem?_toList,Option.map_eq_some_iff]at j9
    obtain⟨o,ho,rfl⟩:=j9
    exact eF k o ho HX e he
  · simp only[List.getElem?_map,Array.getElem?_toList,Option.map_eq_some_iff]at j9
    obtain⟨o,ho,rfl⟩:=j9
    exact LP o ho e he
 have finish: ∀ (fuel:Nat) (listed:Array Bool) (a':Act) (w':World) (A':Nat→Prop) (ρ':Env),listed.size=ops.size→(∀i,i < lo→Lg listed i=true)→(∀i,lo+m≤i→i < ops.size→Lg listed i=false)→ops.size - (lo+m)≤fuel→(∀i,i < N→de listed i=true)→
  Rel M A' ρ' (Fr (de listed)) ⟨n,o6 dst v (tmT 0) (de listed) N,o9 wr hpT (hpT 0) (de listed) N⟩ a' w'→dj M w w'→cZ ρ ρ'→bH A A' w→wpAny P .any ops Q fuel listed a' w':=by
  intro fuel listed a' w' A' ρ' hsz EQ Kc IF hall hr dU cJ hg
  refine J3 fuel listed a' w' hsz (fun i hi=>?_) IF ⟨⟨n,tmT m,hpT m⟩,base+4 * m,A',ρ',⟨rfl,rfl⟩,?_,dU,cJ,hg⟩
  · by_cases h1:i < lo
    · rw[show listed.getD i false=true from EQ i h1];simp;omega
    · by_cases h2:i < lo+m
      · have:=hall (i - lo) (by simp only[N];omega)
        simp only[de]at this
        rw[show lo+(i - lo)=i by omega]at this
        rw[this];simp[h2]
      · rw[show listed.getD i false=false from Kc i (by omega) hi];simp;omega
  have h1:Rel M A' ρ' (Fr (de listed)) ⟨n,tmT m,hpT m⟩ a' w':=hr.forget rfl (fun t u hu=>by
   rw[show find (⟨n,o6 dst v (tmT 0) (de listed) N,o9 wr hpT (hpT 0) (de listed) N⟩:St).tmps t=find (tmT N) t from qV dst v (tmT 0) tmT N rfl JV (de listed) t N (Nat.le_refl _) hall];exact hu) (fun k b hb=>by
   rw[show find (⟨n,o6 dst v (tmT 0) (de listed) N,o9 wr hpT (hpT 0) (de listed) N⟩:St).heap k=find (hpT N) k from rH wr hpT (hpT 0) N rfl w9 (de listed) k N (Nat.le_refl _) hall];exact hb)
  exact h1.sub (fun k hk=> .inl hk)
 have main: ∀ (c fuel:Nat) (listed:Array Bool) (a':Act) (w':World) (A':Nat→Prop) (ρ':Env),listed.size=ops.size→(∀i,i < lo→Lg listed i=true)→(∀i,lo+m≤i→i < ops.size→Lg listed i=false)→oy (de listed) N=c→c+(ops.size - (lo+m))≤fuel→
  (∀k o,ops[k]? =some o→Lg listed k=true→ ∀e,e∈bf o→Lg listed e=true)→
  Rel M A' ρ' (Fr (de listed)) ⟨n,o6 dst v (tmT 0) (de listed) N,o9 wr hpT (hpT 0) (de listed) N⟩ a' w'→dj M w w'→cZ ρ ρ'→bH A A' w→
  wpAny P .any ops Q fuel listed a' w':=by
  intro c
  induction c with
  |zero=>
   intro fuel listed a' w' A' ρ' hsz EQ Kc HV IF eF hr dU cJ hg
   exact finish fuel listed a' w' A' ρ' hsz EQ Kc (by omega) (tK HV) hr dU cJ hg
  |succ c ih=>
   intro fuel listed a' w' A' ρ' hsz EQ Kc HV IF eF hr dU cJ hg
   obtain⟨fuel,rfl⟩: ∃f,fuel=f+1:=⟨fuel - 1,by omega⟩
   have hex: ∃i,i < N∧de listed i=false:=by
    by_cases h: ∃i,i < N∧de listed i=false
    · exact h
    · exfalso
      have: ∀i,i < N→de listed i=true:=fun i hi=>by cases h':de listed i with|true=>rfl|false=>exact absurd ⟨i,hi,h'⟩ h
      have h0: ∀k,k≤N→oy (de listed) k=0:=by
       intro k
       induction k with
       |zero=>intro _;rfl
       |succ k ihk=>intro hk;simp only[oy,ihk (by omega),this k (by omega)];rfl
      rw[h0 N (Nat.le_refl _)]at HV
      omega
   refine⟨fun CX=>?_,fun ig hi=>?_⟩
   · exfalso
     obtain⟨i,hi,hL,EL⟩:=exists_least hex
     obtain⟨o,ho⟩:=hop i hi
     have:lo+i∈Region.ready .any ops listed:=by
      rw[mem_ready]
      refine⟨?_,o,ho,fun e he hb=>?_⟩
      · simp only[de,Array.getD_eq_getD_getElem?]at hL⊢
        have kg:lo+i < listed.size:=by have:=(Array.getElem?_eq_some_iff.1 ho).1;omega
        simpa[kg]using hL
      · have hm:e.on∈bf o:=by simp only[bf,List.mem_map,List.mem_filter];exact⟨e,⟨by simpa using he,hb⟩,rfl⟩
        have hlt:=hE (lo+i) o ho _ hm
        by_cases h1:e.on < lo
        · exact EQ _ h1
        · have:=EL (e.on - lo) (by omega)
          simp only[de]at this
          rw[show lo+(e.on - lo)=e.on by omega]at this
          exact this
     rw[CX]at this
     simp at this
   · rw[mem_ready]at hi
     obtain⟨h0,o,TJ,xe⟩:=hi
     have RO:ig < ops.size:=(Array.getElem?_eq_some_iff.1 TJ).1
     have M5:Lg listed ig=false:=by
      simp only[Lg,Array.getD_eq_getD_getElem?]at h0⊢
      have kg:ig < listed.size:=by omega
      simpa[kg]using h0
     have LP: ∀e,e∈bf o→Lg listed e=true:=by
      intro e he
      simp only[bf,List.mem_map,List.mem_filter]at he
      obtain⟨ed,⟨h1,h2⟩,rfl⟩:=he
      exact xe ed (by simpa using h1) h2
     have hge:lo≤ig:=by
      rcases Nat.lt_or_ge ig lo with h|h
      · rw[EQ ig h]at M5;simp at M5
      · exact h
     have hlt:ig < lo+m:=by
      rcases Nat.lt_or_ge ig (lo+m)with h|h
      · exact h
      · exfalso
        obtain⟨i,hi,hL⟩:=hex
        have hb:=EM ig h RO i hi
        have:=iY RO eF (fun o' yh=>by rw[TJ]at yh;simp only[Option.some.injEq]at yh;subst yh;exact LP) _ hb
        simp only[de]at hL
        rw[show Lg listed (lo+i)=false from hL]at this
        simp at this
     obtain⟨i,rfl⟩: ∃i,ig=lo+i:=⟨ig - lo,by omega⟩
     have Bq:i < N:=by simp only[N];omega
     have ho:ops[lo+i]? =some o:=TJ
     have HY:de listed i=false:=M5
     obtain⟨hst,aeM,f,hf,fd,fn,fr,fw⟩:=hstep i o Bq ho
     have order: ∀j oj g,j≠i→j < N→ops[lo+j]? =some oj→fs[j]? =some g→(f.apart g=true∨g.apart f=true)∨(j < i∧de listed j=true)∨(i < j∧de listed j=false):=by
      intro j oj g fT hjN qF jI
      have hjS:lo+j < ops.size:=(Array.getElem?_eq_some_iff.1 qF).1
      rcases Nat.lt_or_gt_of_ne fT with hlt|hgt
      · rcases wA hok hlt jI hf with hb|hb
        · exact .inr (.inl ⟨hlt,iY RO eF (fun o' yh=>by rw[ho]at yh;simp only[Option.some.injEq]at yh;subst yh;exact LP) (lo+j) hb⟩)
        · exact .inl (.inr hb)
      · rcases wA hok hgt hf jI with hb|hb
        · refine .inr (.inr ⟨hgt,?_⟩)
          cases hLj:de listed j with
          |false=>rfl
          |true=>
           have:=iY hjS eF (fun o' yh=>eF (lo+j) o' yh hLj) (lo+i) hb
           rw[M5]at this
           simp at this
        · exact .inl (.inl hb)
     have xq: ∀j,j < N→ ∃oj g,ops[lo+j]? =some oj∧fs[j]? =some g∧g.dst=dst j∧ ∀k,k∈wr j→k∈g.wr:=by
      intro j hj
      obtain⟨oj,qF⟩:=hop j hj
      obtain⟨_,_,g,g1,g2,_,_,g5⟩:=hstep j oj hj qF
      exact⟨oj,g,qF,g1,by rw[g2,xf j oj qF],fun k hk=>g5 k (by rw[hwr j oj qF]at hk;exact hk)⟩
     have apart_spec: ∀ {f g:iI},(f.apart g=true∨g.apart f=true)→(∀t,f.dst=some t→g.dst=some t→False)∧(∀t,g.dst=some t→t∈f.nm→False)∧(∀k,k∈g.wr→k∈f.rd→False)∧(∀k,k∈g.wr→k∈f.wr→False):=by
      intro f g h
      rcases h with h|h<;>simp only[iI.apart,Bool.and_eq_true]at h<;>obtain⟨⟨⟨⟨⟨h1,h2⟩,h3⟩,h4⟩,h5⟩,h6⟩:=h
      · exact⟨fun t a b=>cN (x:=t) h3 (by simp[a]) (by simp[b]),fun t a b=>cN (x:=t) h2 (by simp[a]) b,fun k a b=>cN h5 a b,fun k a b=>cN h6 b a⟩
      · exact⟨fun t a b=>cN (x:=t) h3 (by simp[b]) (by simp[a]),fun t a b=>cN (x:=t) h1 (by simp[a]) b,fun k a b=>cN h4 a b,fun k a b=>cN h6 a b⟩
     have Fe: ∀t,t∈names ops o→find (o6 dst v (tmT 0) (de listed) N) t=find (tmT i) t:=by
      intro t ht
      rw[nD dst v (tmT 0) (de listed) (fun j=>decide (j < i)) t N ?_,wk dst v (tmT 0) i t N (Nat.le_of_lt Bq),qV dst v (tmT 0) tmT N rfl JV _ t i (Nat.le_of_lt Bq) (fun j hj=>by simpa using hj)]
      intro j hj Bt
      by_cases fT:j=i
      · subst fT;rw[HY];simp
      · obtain⟨oj,g,qF,jI,gd,gw⟩:=xq j hj
        rcases order j oj g fT hj qF jI with hap|⟨h1,h2⟩|⟨h1,h2⟩
        · exact((apart_spec hap).2.1 t (by rw[gd,Bt]) (fn t ht)).elim
        · rw[h2];simp[h1]
        · rw[h2];simp;omega
     have xX: ∀k,(k∈f.rd∨k∈f.wr)→find (o9 wr hpT (hpT 0) (de listed) N) k=find (hpT i) k:=by
      intro k hk
      rw[oa wr hpT (hpT 0) (de listed) (fun j=>decide (j < i)) k N ?_,w8 wr hpT (hpT 0) i k N (Nat.le_of_lt Bq),rH wr hpT (hpT 0) N rfl w9 _ k i (Nat.le_of_lt Bq) (fun j hj=>by simpa using hj)]
      intro j hj Bt
      by_cases fT:j=i
      · subst fT;rw[HY];simp
      · obtain⟨oj,g,qF,jI,gd,gw⟩:=xq j hj
        rcases order j oj g fT hj qF jI with hap|⟨h1,h2⟩|⟨h1,h2⟩
        · rcases hk with hk|hk
          · exact((apart_spec hap).2.2.1 k (gw k Bt) hk).elim
          · exact((apart_spec hap).2.2.2 k (gw k Bt) hk).elim
        · rw[h2];simp[h1]
        · rw[h2];simp;omega
     have J6: ∀k,k∈four (base+4 * i)→k∈f.wr:=fun k hk=>fw k (by simp only[vL,List.mem_append];exact .inl hk)
     obtain⟨ob,Rr,LO⟩:=hst.loc (tm2:=o6 dst v (tmT 0) (de listed) N) (hp2:=o9 wr hpT (hpT 0) (de listed) N) Fe (fun k hk=>xX k (.inl (fr k hk))) (fun k hk=>xX k (.inr (J6 k hk)))
     rw[←hwr i o ho]at LO
     refine fR.sound ho Rr hr (fun k h1 h2=> .inr ⟨i,Bq,HY,h1,h2⟩) ?_
     intro a2 w2 A2 ρ2 r1 r2 r3 r4
     have JZ: ∀j,de (listed.setIfInBounds (lo+i) true) j=if j=i then true else de listed j:=by
      intro j
      by_cases fT:j=i
      · subst fT
        have:lo+j < listed.size:=by omega
        simp[de,Array.getD_eq_getD_getElem?,this]
      · simp only[de,fT,if_false]
        exact getD_set_ne false (fun e=>fT (by omega))
     have JY: ∀k,k≠lo+i→Lg (listed.setIfInBounds (lo+i) true) k=Lg listed k:=fun k hk=>getD_set_ne false (fun e=>hk e.symm)
     have xj:de (listed.setIfInBounds (lo+i) true) i=true:=by rw[JZ];simp
     have mW: ∀j,j≠i→de (listed.setIfInBounds (lo+i) true) j=de listed j:=fun j hj=>by rw[JZ,if_neg hj]
     have later: ∀j,i < j→j < N→(∀oj g,ops[lo+j]? =some oj→fs[j]? =some g→(f.apart g=true∨g.apart f=true)→False)→de (listed.setIfInBounds (lo+i) true) j=false:=by
      intro j h1 h2 h3
      obtain⟨oj,g,qF,jI,gd,gw⟩:=xq j h2
      rw[mW j (by omega)]
      rcases order j oj g (by omega) h2 qF jI with hap|⟨h4,_⟩|⟨_,h5⟩
      · exact(h3 oj g qF jI hap).elim
      · omega
      · exact h5
     refine ih fuel (listed.setIfInBounds (lo+i) true) a2 w2 A2 ρ2 (by simpa using hsz) (fun k hk=>by rw[JY k (by omega)];exact EQ k hk) (fun k hk hk'=>by rw[JY k (by omega)];exact Kc k hk hk') ?_ (by omega) ?_ ?_ (dU.trans r2) (cJ.trans r3) (hg.trans r4 dU.size)
     · have:=xL (L:=de listed) (L':=de (listed.setIfInBounds (lo+i) true)) HY xj mW (k:=N) Bq
       omega
     · intro k ok' vp HX e he
       by_cases rJ:k=lo+i
       · subst rJ
         rw[ho]at vp
         simp only[Option.some.injEq]at vp
         subst vp
         exact getD_set_true (LP e he)
       · rw[JY k rJ]at HX
         exact getD_set_true (eF k ok' vp HX e he)
     · refine(Rel.forget (st':=⟨n,o6 dst v (tmT 0) (de (listed.setIfInBounds (lo+i) true)) N,o9 wr hpT (hpT 0) (de (listed.setIfInBounds (lo+i) true)) N⟩) r1 rfl (fun t u hu=>?_) (fun k b hb=>?_)).sub (fun k hk=>?_)
       · simp only[gX]
         split
         · rename_i hd
           have pR:=AC dst v (tmT 0) (de (listed.setIfInBounds (lo+i) true)) t i (by rw[xf i o ho];exact hd) xj N Bq (fun j h1 h2 h3=>later j h1 h2 (fun oj g qF jI hap=>by
            obtain⟨_,g',_,zS,gd,_⟩:=xq j h2
            rw[jI]at zS
            simp only[Option.some.injEq]at zS
            subst zS
            exact(apart_spec hap).1 t (by rw[fd];exact hd) (by rw[gd];exact h3)))
           rw[←pR];exact hu
         · rename_i hd
           rw[nD dst v (tmT 0) (de listed) (de (listed.setIfInBounds (lo+i) true)) t N (fun j hj Bt=>by
            by_cases fT:j=i
            · subst fT;rw[xf j o ho]at Bt;exact absurd Bt hd
            · exact(mW j fT).symm)]
           exact hu
       · by_cases hk:k∈wr i
         · have hkw:k∈f.wr:=fw k (by rw[←hwr i o ho];exact hk)
           have pR:=Bm wr hpT (hpT 0) (de (listed.setIfInBounds (lo+i) true)) k i hk xj N Bq (fun j h1 h2 h3=>later j h1 h2 (fun oj g qF jI hap=>by
            obtain⟨_,g',_,zS,_,gw⟩:=xq j h2
            rw[jI]at zS
            simp only[Option.some.injEq]at zS
            subst zS
            exact(apart_spec hap).2.2.2 k (gw k h3) hkw))
           rw[LO.1 k hk, ←pR];exact hb
         · rw[(LO.2 k hk).2,oa wr hpT (hpT 0) (de listed) (de (listed.setIfInBounds (lo+i) true)) k N (fun j hj Bt=>by
            by_cases fT:j=i
            · subst fT;exact absurd Bt hk
            · exact(mW j fT).symm)]
           exact hb
       · refine⟨?_,?_⟩
         · rcases hk with hk|⟨j,h1,h2,h3⟩
           · exact .inl hk
           · by_cases fT:j=i
             · subst fT;rw[xj]at h2;simp at h2
             · rw[mW j fT]at h2;exact .inr ⟨j,h1,h2,h3⟩
         · rintro⟨q1,q2⟩
           rcases hk with hk|⟨j,h1,h2,h3,h4⟩
           · omega
           · by_cases fT:j=i
             · subst fT;rw[xj]at h2;simp at h2
             · omega
 intro fuel listed hsz hl IF
 have hLf: ∀i,i < N→de listed i=false:=by
  intro i hi
  simp only[de]
  rw[hl (lo+i) (by simp only[N]at hi;omega)]
  simp
 have XO: ∀k,k≤N→oy (de listed) k=k:=by
  intro k
  induction k with
  |zero=>intro _;rfl
  |succ k ih=>intro hk;simp only[oy,ih (by omega),hLf k (by omega)];simp
 refine main m fuel listed a w A ρ hsz (fun i hi=>?_) (fun i hi hi'=>?_) (XO N (Nat.le_refl _)) (by omega) (fun k o ho HX e he=>?_) ?_ (dj.refl _ _) (cZ.refl _) (bH.refl _ _)
 · show listed.getD i false=true
   rw[hl i (by omega)];simp[hi]
 · show listed.getD i false=false
   rw[hl i hi'];simp;omega
 · have hk:k < ops.size:=(Array.getElem?_eq_some_iff.1 ho).1
   have h1:k < lo:=by
    have:listed.getD k false=true:=HX
    rw[hl k hk]at this
    simpa using this
   have h2:=hE k o ho e he
   show listed.getD e false=true
   rw[hl e (by omega)];simp;omega
 · have eT: ∀k,k≤N→o6 dst v (tmT 0) (de listed) k=tmT 0:=by
    intro k
    induction k with
    |zero=>intro _;rfl
    |succ k ih=>intro hk;simp only[o6,hLf k (by omega),Bool.false_eq_true,if_false,ih (by omega)]
   have eH: ∀k,k≤N→o9 wr hpT (hpT 0) (de listed) k=hpT 0:=by
    intro k
    induction k with
    |zero=>intro _;rfl
    |succ k ih=>intro hk;simp only[o9,hLf k (by omega),Bool.false_eq_true,if_false,ih (by omega)]
   rw[eT N (Nat.le_refl _),eH N (Nat.le_refl _)]
   refine cI.sub (fun k hk=>?_)
   simp only[bu]
   rcases hk with hk|⟨j,_,_,h3,_⟩<;>omega
end Go.aT
end
section
namespace Go.aT
open Go
abbrev uT (α:Type):=FuncId→List W→HS→Nat→(V→HS→Nat→α)→α
abbrev uU (α:Type):=FuncId→List W→HS→Nat→(V→HS→α)→α
section
variable {α:Type} (bad:α) (call:uT α) (dG:uU α)
def Kl (v:V) (us:List W) (k:FuncId→List W→α):α:=
 match v with
 | .w (.one (.jx f dc))=>k f (us++dc.map fun p=> .one (.ptr p.1 p.2.1 p.2.2.1 p.2.2.2))
 | .w (.one (.lR f true ts))=>k f (.agg (ts.map .t)::us)
 | .w (.one (.lR f false [t]))=>k f (.one (.t t)::us)
 | .w (.one (.t (.val (.func (.func f) first dc))))=>gR (first.isEmpty&&dc.isEmpty) (k f us) bad
 |_=>bad
def EGo (P:Program) (o:lU) (tm:Tr) (hp:HS) (ctr:Nat) (K:Tr→HS→Nat→α):α:=
 match o.op with
 | .call f args=>Qj bad (gT tm) args fun us=>call f us hp ctr fun v aG bz=>uB v fun v=>kQ tm o.dst v fun tm=>K tm aG bz
 | .kJ x args=>Qj bad (gT tm) args fun us=>Kl bad (gT tm x) us fun f us=>gR (enters P f) (call f us hp ctr fun v aG bz=>uB v fun v=>kQ tm o.dst v fun tm=>K tm aG bz) bad
 | .raw op ty=>EX P bad op ty (gT tm) hp ctr fun v aG=>kQ tm o.dst v fun tm=>oT (ctr+4) fun c=>K tm aG c
 | .append size bytes s x=>match gT tm s with
   | .w (.one (.own id sz 0 len))=>match find hp id with
     |some (.row dy xs)=>ii (jN hp id (.row dy (xs.take len))) fun hp=>ER bad (.append size bytes s x) (gT tm) hp ctr fun v aG=>kQ tm o.dst v fun tm=>oT (ctr+4) fun c=>K tm aG c
     |_=>bad
   |_=>ER bad (.append size bytes s x) (gT tm) hp ctr fun v aG=>kQ tm o.dst v fun tm=>oT (ctr+4) fun c=>K tm aG c
 | .slice size x lo hi=>match gT tm x with
   | .w (.one (.t (.val (.slice none 0 0))))=>match gl (lo.map (gT tm)) 0,gl (hi.map (gT tm)) 0 with
     |some 0,some 0=>kQ tm o.dst (.w (.one (.t (.val (.slice none 0 0))))) fun tm=>oT (ctr+4) fun c=>K tm hp c
     |_,_=>bad
   |_=>ER bad (.slice size x lo hi) (gT tm) hp ctr fun v aG=>kQ tm o.dst v fun tm=>oT (ctr+4) fun c=>K tm aG c
 |r=>ER bad r (gT tm) hp ctr fun v aG=>kQ tm o.dst v fun tm=>oT (ctr+4) fun c=>K tm aG c
def EOp (P:Program) (o:lU) (tm:Tr) (hp:HS) (ctr:Nat) (K:Tr→HS→Nat→α):α:=
 match o.guard with
 |none=>EGo bad call P o tm hp ctr K
 |some (d,want)=>
  match tm.get (key d)with
  |some (.w (.one (.t (.val (.bool b)))))=>gR (b==want) (EGo bad call P o tm hp ctr K) (kQ tm o.dst (.eW []) fun tm=>K tm hp ctr)
  |some (.eW [])=>kQ tm o.dst (.eW []) fun tm=>K tm hp ctr
  |_=>bad
def N4 (P:Program):List lU→Tr→HS→Nat→(Tr→HS→Nat→α)→α
 | [],tm,hp,ctr,K=>K tm hp ctr
 |o::r,tm,hp,ctr,K=>EOp bad call P o tm hp ctr fun tm hp ctr=>N4 P r tm hp ctr K
def N5 (P:Program) (o:lU) (tm:Tr) (hp:HS) (ctr:Nat) (K:Tr→HS→Nat→α):α:=
 match o.op with
 | .call f args=>Qj bad (gT tm) args fun us=>dG f us hp ctr fun v aG=>uB v fun v=>kQ tm o.dst v fun tm=>oT (ctr+4) fun c=>K tm aG c
 | .kJ x args=>Qj bad (gT tm) args fun us=>Kl bad (gT tm x) us fun f us=>gR (enters P f) (dG f us hp ctr fun v aG=>uB v fun v=>kQ tm o.dst v fun tm=>oT (ctr+4) fun c=>K tm aG c) bad
 | .raw op ty=>match aj P (fun x=>gT tm (dz x)) hp ctr (bare op ty)with
   |some (v,aG)=>uB v fun v=>kQ tm o.dst v fun tm=>oT (ctr+4) fun c=>K tm aG c
   |none=>bad
 |r=>ER bad r (gT tm) hp ctr fun v aG=>kQ tm o.dst v fun tm=>oT (ctr+4) fun c=>K tm aG c
def Ga (o:lU) (tm:Tr) (ctr:Nat):iI:=
 let rd:=if o.op.looks then o.op.iP.flatMap fun x=>(gT tm x).ids else []
 ⟨o.dst,o.op.iP.filterMap Wo++(o.guard.map (·.1)).toList,rd,four ctr++if o.op.Zd then rd else []⟩
def Tq (P:Program) (o:lU) (tm:Tr) (hp:HS) (ctr:Nat) (K:Tr→HS→Nat→α):α:=
 match o.guard with
 |none=>N5 bad dG P o tm hp ctr K
 |some (d,want)=>
  match tm.get (key d)with
  |some (.w (.one (.t (.val (.bool b)))))=>gR (b==want) (N5 bad dG P o tm hp ctr K) (kQ tm o.dst (.eW []) fun tm=>oT (ctr+4) fun c=>K tm hp c)
  |some (.eW [])=>kQ tm o.dst (.eW []) fun tm=>oT (ctr+4) fun c=>K tm hp c
  |_=>bad
def DN (P:Program):List lU→List iI→Tr→HS→Nat→(List iI→Tr→HS→Nat→α)→α
 | [],fs,tm,hp,ctr,K=>K fs tm hp ctr
 |o::r,fs,tm,hp,ctr,K=>Tq bad dG P o tm hp ctr fun bg aG bz=>DN P r (fs++[Ga o tm ctr]) bg aG bz K
def CM (bits:List Nat) (N j:Nat):Bool:=
 (List.range j).all (fun i=>(bits.getD j 0).testBit i)&& (List.range (N - (j+1))).all (fun d=>(bits.getD (j+1+d) 0).testBit j)
def cv (bits:List Nat) (N:Nat):Nat→List lU→List lU×List lU
 |_,[]=>([],[])
 |j,o::r=>gR (CM bits N j) ([],o::r) (o::(cv bits N (j+1) r).1,(cv bits N (j+1) r).2)
def FY (bits:List Nat) (lo m N:Nat):Bool:=
 (List.range (N - (lo+m))).all fun d=>(List.range m).all fun i=>(bits.getD (lo+m+d) 0).testBit (lo+i)
def yf (P:Program) (bits:List Nat) (N:Nat):Nat→Nat→List lU→Tr→HS→Nat→(Tr→HS→Nat→α)→α
 |0,_,_,_,_,_,_=>bad
 |f+1,lo,ops,tm,hp,ctr,K=>
  DN bad dG P (cv bits N lo ops).1 [] tm hp ctr fun fs tm hp ctr=>
   gR (FN bits lo fs&&FY bits lo (cv bits N lo ops).1.length N)
    (match(cv bits N lo ops).2 with
    | []=>K tm hp ctr
    |o::r=>EOp bad call P o tm hp ctr fun tm hp ctr=>yf P bits N f (lo+(cv bits N lo ops).1.length+1) r tm hp ctr K) bad
def Kq (K:Tr→HS→Nat→α) (Q:Exit→Tr→HS→Nat→α):Exit→Tr→HS→Nat→α
 | .normal=>K
 |e=>Q e
def KC (id:Nat) (Q:Exit→Tr→HS→Nat→α):Exit→Tr→HS→Nat→α
 | .exit id'=>gR (Nat.beq id' id) (Q .normal) (Q (.exit id'))
 |e=>Q e
def Dl (body:(Tr→HS→Nat→α)→Tr→HS→Nat→α):Nat→Tr→HS→Nat→α
 |0=>fun _ _ _=>bad
 |n+1=>body (Dl body n)
def E (P:Program) (fuel:Nat):Rc→(Exit→Tr→HS→Nat→α)→Tr→HS→Nat→α
 | .skip,Q,tm,hp,ctr=>Q .normal tm hp ctr
 | .ret,Q,tm,hp,ctr=>Q .ret tm hp ctr
 | .exit id,Q,tm,hp,ctr=>Q (.exit id) tm hp ctr
 | .seq a b,Q,tm,hp,ctr=>E P fuel a (Kq (E P fuel b Q) Q) tm hp ctr
 | .cond c a b,Q,tm,hp,ctr=>
   match(gT tm c).ia with
   |some v=>gR v (E P fuel a Q tm hp ctr) (E P fuel b Q tm hp ctr)
   |none=>bad
 | .block id b,Q,tm,hp,ctr=>E P fuel b (KC id Q) tm hp ctr
 | .loop b,Q,tm,hp,ctr=>Dl bad (fun self=>E P fuel b (Kq self Q)) fuel tm hp ctr
 | .region ops,Q,tm,hp,ctr=>N4 bad call P ops tm hp ctr (Q .normal)
 | .draw ops es,Q,tm,hp,ctr=>yf bad call dG P (kX es []) ops.length (ops.length+1) 0 ops tm hp ctr (Q .normal)
end
def gk (n:Nat):Rc→Bool
 | .seq a b=>gk n a&&gk n b
 | .cond _ a b=>gk n a&&gk n b
 | .block _ b=>gk n b
 | .loop b=>gk n b
 | .region ops=>ops.all fun o=>gZ n o.dst
 | .draw ops _=>ops.all fun o=>gZ n o.dst
 |_=>true
variable {P:Program} {M A:Nat→Prop} {ρ:Env} {F:Nat→Prop} {st:St} {a:Act} {w:World}
def At (M A:Nat→Prop) (ρ:Env) (w:World) (n:Nat) (tm:Tr) (hp:HS) (ctr:Nat) (a':Act) (w':World):Prop:=
 ∃L A' ρ',fe tm L∧Rel M A' ρ' (bu ctr) ⟨n,L,hp⟩ a' w'∧dj M w w'∧cZ ρ ρ'∧bH A A' w
theorem At.trans {A1:Nat→Prop} {ρ1:Env} {w1 w':World} {n:Nat} {tm:Tr} {hp:HS} {ctr:Nat} {a':Act} (h:At M A1 ρ1 w1 n tm hp ctr a' w') (dU:dj M w w1) (cJ:cZ ρ ρ1) (hg:bH A A1 w):At M A ρ w n tm hp ctr a' w':=by
 obtain⟨L,A',ρ',h1,h2,h3,h4,h5⟩:=h
 exact⟨L,A',ρ',h1,h2,dU.trans h3,cJ.trans h4,hg.trans h5 dU.size⟩
theorem At.here {n:Nat} {L:TS} {tm:Tr} {hp:HS} {ctr:Nat} (ht:fe tm L) (h:Rel M A ρ (bu ctr) ⟨n,L,hp⟩ a w):At M A ρ w n tm hp ctr a w:=
 ⟨L,A,ρ,ht,h,dj.refl _ _,cZ.refl _,bH.refl _ _⟩
def TX (P:Program) (n:Nat) (c:Code) (tm:Tr) (hp:HS) (ctr:Nat) (e:Exit) (bg:Tr) (aG:HS) (bz:Nat):Prop:=
 ∀ (M A:Nat→Prop) (ρ:Env) (a:Act) (w:World) (L:TS),fe tm L→Rel M A ρ (bu ctr) ⟨n,L,hp⟩ a w→
  c.wp P (fun e2 a' w'=>e2=e∧At M A ρ w n bg aG bz a' w') a w
def oH (P:Program) (call:uT Bool):Prop:= ∀f us hp ctr K,call f us hp ctr K=true→ ∃v aG bz,gE P f us hp ctr v aG bz∧K v aG bz=true
def kN (P:Program) (dG:uU Bool):Prop:= ∀f us hp ctr K,dG f us hp ctr K=true→ ∃v aG,eU P hp ctr f us v aG∧K v aG=true
def iH (ops:Array Oper) (o:Oper) (g:Option (Nat×Bool)):Prop:=
 (o.guard=none∧g=none)∨ ∃j want d,o.guard=some (j,want)∧(ops[j]?).bind (·.dst)=some d∧g=some (d,want)
def xZ (P:Program) (n:Nat) (ops:Array Oper) (i:Nat) (tm:Tr) (hp:HS) (ctr:Nat) (bg:Tr) (aG:HS) (bz:Nat):Prop:=
 ∀ (M A:Nat→Prop) (ρ:Env) (a:Act) (w:World) (L:TS) (Q:Exit→Act→World→Prop) (K':Act→World→Prop),fe tm L→Rel M A ρ (bu ctr) ⟨n,L,hp⟩ a w→
  (∀a' w',At M A ρ w n bg aG bz a' w'→K' a' w')→wpOp P ops Q i K' a w
def sj (P:Program) (n:Nat) (ops:Array Oper) (o:Oper) (tm:Tr) (hp:HS) (ctr:Nat) (v:V) (aG:HS):Prop:=
 ∀L,fe tm L→fR P ops o n L hp ctr v aG
theorem sj.run {n:Nat} {ops:Array Oper} {o:Oper} {i:Nat} {tm:Tr} {hp aG:HS} {ctr:Nat} {v:V} (hi:ops[i]? =some o) (h:sj P n ops o tm hp ctr v aG):
 xZ P n ops i tm hp ctr (wy tm o.dst v) aG (ctr+4):=by
 intro M A ρ a w L Q K' hL hr hk
 refine fR.sound hi (h L hL) hr (fun k h1 _=>h1) ?_
 intro a' w' A' ρ' r1 r2 r3 r4
 exact hk a' w' ⟨_,A',ρ',hL.put o.dst v,r1.sub iw,r2,r3,r4⟩
theorem wm {n:Nat} {ops:Array Oper} {o:Oper} {g:Option (Nat×Bool)} {tm:Tr} {hp:HS} {ctr:Nat} (hd:gZ n o.dst=true) (hgd:iH ops o g)
 (hg: ∃d want,g=some (d,want)∧((∃b,tm.get (key d)=some (bV b)∧(b==want)=false)∨tm.get (key d)=some (.eW []))):sj P n ops o tm hp ctr (.eW []) hp:=by
 intro L hL
 obtain⟨d,want,rfl,hg⟩:=hg
 rcases hgd with⟨_,h⟩|⟨j,want',d',h1,h2,h3⟩
 · simp at h
 · simp only[Option.some.injEq,Prod.mk.injEq]at h3
   obtain⟨rfl,rfl⟩:=h3
   refine⟨hd,?_⟩
   rcases hg with⟨b,hb,hne⟩|hb
   · rw[←hL d]at hb
     simp only[aX,h1,h2,hb,hne]
     exact⟨trivial,trivial⟩
   · rw[←hL d]at hb
     simp only[aX,h1,h2,hb]
     exact⟨trivial,trivial⟩
theorem guard_true {ops:Array Oper} {o:Oper} {g:Option (Nat×Bool)} {tm:Tr} {L:TS} (hL:fe tm L) (hgd:iH ops o g)
 (hg:g=none∨ ∃d want b,g=some (d,want)∧tm.get (key d)=some (bV b)∧(b==want)=true):aX ops o L=some true:=by
 rcases hgd with⟨h0,rfl⟩|⟨j,want,d,h1,h2,rfl⟩
 · simp[aX,h0]
 · rcases hg with h|⟨d',want',b,h3,h4,h5⟩
   · simp at h
   · simp only[Option.some.injEq,Prod.mk.injEq]at h3
     obtain⟨rfl,rfl⟩:=h3
     rw[←hL d]at h4
     simp only[aX,h1,h2,h4,h5]
theorem GP {n:Nat} {ops:Array Oper} {o:Oper} {x:Ro} {g:Option (Nat×Bool)} {tm:Tr} {hp:HS} {ctr:Nat} {K:V→HS→Bool} (hx:aZ P o=some x) (hd:gZ n o.dst=true)
 (hgd:iH ops o g) (hg:g=none∨ ∃d want b,g=some (d,want)∧tm.get (key d)=some (bV b)∧(b==want)=true)
 (hE: ∃L,fe tm L) (h:ER false x (gT tm) hp ctr K=true): ∃v aG,sj P n ops o tm hp ctr v aG∧K v aG=true:=by
 obtain⟨L0,xh⟩:=hE
 rw[lN xh]at h
 obtain⟨h1,v,aG,h2,h3⟩:=xY (st:=⟨n,L0,hp⟩) hx (YY h)
 refine⟨v,aG,fun L hL=>⟨hd,?_⟩,h3⟩
 rw[guard_true hL hgd hg]
 have EO: ∀y,St.get ⟨n,L,hp⟩ y=St.get ⟨n,L0,hp⟩ y:=by
  intro y
  cases y with
  |tmp t=>simp only[St.get];rw[hL t,xh t]
  |_=>rfl
 have c1:bQ (St.get ⟨n,L,hp⟩) o=none:=by rw[rV (get':=St.get ⟨n,L0,hp⟩) (fun y _=>EO y)];exact h1
 simp only[c1]
 rw[rO (get':=St.get ⟨n,L0,hp⟩) (fun y _=>EO y)]
 exact h2
def Tr.toL:Tr→(Pn→Pn)→List (Nat×V)
 | .nil,_=>[]
 | .node v l r,f=>(match v with|some x=>[((f .e).dec,x)]|none=>[])++l.toL (fun p=>f (.o p))++r.toL (fun p=>f (.i p))
theorem rT: ∀ {p q:Pn},p.dec=q.dec→p=q
 | .e, .e,_=>rfl
 | .e, .o _,h=>by simp[Pn.dec]at h
 | .e, .i _,h=>by simp[Pn.dec]at h
 | .o _, .e,h=>by simp[Pn.dec]at h
 | .i _, .e,h=>by simp[Pn.dec]at h
 | .o p, .o q,h=>by simp only[Pn.dec]at h;rw[rT (p:=p) (q:=q) (by omega)]
 | .i p, .i q,h=>by simp only[Pn.dec]at h;rw[rT (p:=p) (q:=q) (by omega)]
 | .o p, .i q,h=>by simp only[Pn.dec]at h;omega
 | .i p, .o q,h=>by simp only[Pn.dec]at h;omega
theorem jD {β:Type}: ∀ {l:List (Nat×β)} {t:Nat},(∀p,p∈l→p.1≠t)→find l t=none
 | [],t,_=>rfl
 |(k,v)::r,t,h=>by
  rw[aA,if_neg (h (k,v) (by simp))]
  exact jD fun p hp=>h p (by simp[hp])
theorem toL_keys: ∀ (tr:Tr) (f:Pn→Pn) (p:Nat×V),p∈tr.toL f→ ∃q,p.1=(f q).dec
 | .nil,f,p,h=>by simp[Tr.toL]at h
 | .node v l r,f,p,h=>by
   simp only[Tr.toL,List.mem_append]at h
   rcases h with(h|h)|h
   · cases v with
     |none=>simp at h
     |some x=>simp only[List.mem_singleton]at h;subst h;exact⟨.e,rfl⟩
   · obtain⟨q,hq⟩:=toL_keys l _ p h;exact⟨.o q,hq⟩
   · obtain⟨q,hq⟩:=toL_keys r _ p h;exact⟨.i q,hq⟩
theorem xw: ∀ (tr:Tr) (f:Pn→Pn) (hf: ∀p q,f p=f q→p=q) (q:Pn),find (tr.toL f) (f q).dec=tr.get q
 | .nil,f,hf,q=>by rw[Tr.vT];rfl
 | .node v l r,f,hf,q=>by
   have hl:=xw l (fun p=>f (.o p)) (fun p q h=>by have:=hf _ _ h;simpa using this)
   have hr:=xw r (fun p=>f (.i p)) (fun p q h=>by have:=hf _ _ h;simpa using this)
   have nl: ∀q,(∀q',Pn.o q'≠q)→find (l.toL fun p=>f (.o p)) (f q).dec=none:=by
    intro q hq
    refine jD fun p hp he=>?_
    obtain⟨q',F5⟩:=toL_keys l _ p hp
    rw[F5]at he
    exact hq q' (hf _ _ (rT he))
   have nr: ∀q,(∀q',Pn.i q'≠q)→find (r.toL fun p=>f (.i p)) (f q).dec=none:=by
    intro q hq
    refine jD fun p hp he=>?_
    obtain⟨q',F5⟩:=toL_keys r _ p hp
    rw[F5]at he
    exact hq q' (hf _ _ (rT he))
   have nv: ∀q,q≠ .e→find (match v with|some x=>[((f .e).dec,x)]|none=>[]) (f q).dec=none:=by
    intro q hq
    refine jD fun p hp he=>?_
    cases v with
    |none=>simp at hp
    |some x=>
     simp only[List.mem_singleton]at hp
     subst hp
     exact hq (hf _ _ (rT he)).symm
   simp only[Tr.toL,cO]
   cases q with
   |e=>
    rw[nl .e (by simp),nr .e (by simp)]
    cases v with
    |none=>simp[find,Tr.get]
    |some x=>simp[find,Tr.get]
   |o q=>
    rw[nv (.o q) (by simp),nr (.o q) (by simp),hl q]
    simp[Tr.get]
   |i q=>
    rw[nv (.i q) (by simp),nl (.i q) (by simp),hr q]
    simp[Tr.get]
theorem FE (tr:Tr): ∃L,fe tr L:=by
 refine⟨tr.toL id,fun t=>?_⟩
 have h1:t=(id (key t)).dec:=by
  simp only[id]
  unfold key
  exact(rF t t (Nat.le_refl _)).symm
 have h2:=xw tr id (fun _ _ h=>h) (key t)
 rw[←h1]at h2
 exact h2
variable {call:uT Bool} {dG:uU Bool}
theorem wC {o:Oper} {size:Nat} {x:ej} {lo hi:Option ej} (h:aK P o=some (.slice size x lo hi)):
 ∃t x' lo' hi' e,o.op= .slice t x' lo' hi' none∧P.underlying t=some (.slice e)∧cF P e=some size∧x=dz x'∧lo=lo'.map dz∧hi=hi'.map dz:=by
 obtain⟨dst,op,ty,pos,after,guard⟩:=o
 cases op
 case slice t x' lo' hi' mx=>
  cases mx with
  |some m=>simp[aK]at h
  |none=>
   simp only[aK]at h
   split at h
   · rename_i e hu
     simp only[Option.map_eq_some_iff,Ro.slice.injEq]at h
     obtain⟨s,hs,rfl,rfl,rfl,rfl⟩:=h
     exact⟨t,x',lo',hi',e,rfl,hu,hs,rfl,rfl,rfl⟩
   · simp at h
 all_goals
  exfalso
  simp only[aK]at h
  repeat' split at h
  all_goals first|(simp at h;done)|simp_all
theorem yq {o:Oper} {size:Nat} {x:ej} {lo hi:Option ej} (h:aZ P o=some (.slice size x lo hi)):
 ∃t x' lo' hi' e,o.op= .slice t x' lo' hi' none∧P.underlying t=some (.slice e)∧cF P e=some size∧x=dz x'∧lo=lo'.map dz∧hi=hi'.map dz:=by
 unfold aZ at h
 split at h
 · rename_i r hr
   replace hr:=dO hr
   simp only[Option.some.injEq]at h
   subst h
   exact wC hr
 · simp only[Option.some.injEq]at h
   rcases lB o with⟨t,fQ,gF,ho,e⟩|e
   · rw[e]at h;simp at h
   · rw[e]at h;simp at h
theorem Di {get:Operand→V} {o:Oper} {p:FuncId×List W} {hp:HS} {nid:Nat} {r:V×HS} (hc:bQ get o=some p) (he:aj P get hp nid o=some r):False:=by
 obtain⟨dst,op,ty,pos,after,guard⟩:=o
 unfold bQ at hc
 simp only at hc
 split at hc
 · simp[aj]at he
 · simp at hc
theorem KT {tm:Tr} {L:TS} {n:Nat} {hp:HS} (hL:fe tm L) (hr:Rel M A ρ F ⟨n,L,hp⟩ a w) {lo:Option Operand} (h:gl ((lo.map dz).map (gT tm)) 0=some 0):lo.map a.eval=none∨ ∃k,lo.map a.eval=some (.int k 0):=by
 cases lo with
 |none=>exact .inl rfl
 |some x=>
  right
  simp only[Option.map_some,gl]at h
  split at h
  · rename_i k m hm
    split at h
    · rename_i h0
      simp only[Option.some.injEq]at h
      have:m=0:=by omega
      subst this
      exact⟨k,by rw[Option.map_some,V.iT hm (RV.at hL hr x)]⟩
    · simp at h
  · simp at h
theorem Bb {n:Nat} {o:Oper} {size:Nat} {x:ej} {lo hi:Option ej} {tm:Tr} {hp:HS} {ctr:Nat} (hx:aZ P o=some (.slice size x lo hi)) (hy:gT tm x= .w (.one (.t (.val (.slice none 0 0)))))
 (hlo:gl (lo.map (gT tm)) 0=some 0) (hhi:gl (hi.map (gT tm)) 0=some 0):Fg P n o tm hp ctr (.w (.one (.t (.val (.slice none 0 0))))) hp:=by
 obtain⟨t,x',lo',hi',e,ho,hu,hs,rfl,rfl,rfl⟩:=yq hx
 intro M A ρ a w L hL hr
 have vx:=RV.at hL hr x'
 rw[hy]at vx
 have hv:a.eval x'= .slice none 0 0:=V.bk (v:= .slice none 0 0) rfl vx
 have hrun:(execOp a.eval o).run P w= .ok (.value (.slice none 0 0)) w:=by
  rw[←uG,ho]
  rcases KT hL hr hlo with h1|⟨k1,h1⟩<;>rcases KT hL hr hhi with h2|⟨k2,h2⟩<;>
   simp[execOp,Instr.sliceAt,Instr.slice,hv,h1,h2,run_underlying hu,Instr.sliceBounds,Instr.sliceBound,asIntOf,run_sizeOf hs]
 exact⟨_,w,A,ρ, .inl hrun,hr.sub cP,RV.ofValue w A ρ (.slice none 0 0),dj.refl _ _,cZ.refl _,bH.refl _ _⟩
theorem xO {n:Nat} {ops:Array Oper} {o:Oper} {i:Nat} {f:FuncId} {g:Option (Nat×Bool)} {tm:Tr} {hp aG:HS} {ctr bz:Nat} {us:List W} {v:V}
 (hi:ops[i]? =some o) (od:enters P f=true) (hd:gZ n o.dst=true) (hgd:iH ops o g) (hg:g=none∨ ∃d want b,g=some (d,want)∧tm.get (key d)=some (bV b)∧(b==want)=true)
 (yN: ∀L,fe tm L→bQ (St.get ⟨n,L,hp⟩) o=some (f,us)) (hc:gE P f us hp ctr v aG bz):xZ P n ops i tm hp ctr (wy tm o.dst v) aG bz:=by
 intro M A ρ a w L Q K' hL hr hk
 have hgt:=guard_true hL hgd hg
 have JU:=da hr hgt
 obtain⟨xs,hxs,hxr⟩:=mM (P:=P) hr (yN L hL) od
 unfold wpOp
 simp only[hi,JU,if_true]
 refine .inl ?_
 simp only[Oper.wp,hxs,Oper.upon]
 refine(hc M A ρ a w n L xs hr hxr).mono ?_
 rintro e w' ⟨x,A',ρ',rfl,r1,r2,r3,r4,r5⟩
 refine hk _ _ ⟨_,A',ρ',hL.put o.dst v,?_,r3,r4,r5⟩
 have:=r1.put (dst:=o.dst) r2 (j4 hd)
 rw[lC]at this
 exact this
theorem FO {n:Nat} {ops:Array Oper} {o:Oper} {i:Nat} {g:Option (Nat×Bool)} {tm:Tr} {hp aG:HS} {ctr:Nat} {v:V}
 (hi:ops[i]? =some o) (hd:gZ n o.dst=true) (hgd:iH ops o g) (hg:g=none∨ ∃d want b,g=some (d,want)∧tm.get (key d)=some (bV b)∧(b==want)=true)
 (h:Fg P n o tm hp ctr v aG):xZ P n ops i tm hp ctr (wy tm o.dst v) aG (ctr+4):=by
 intro M A ρ a w L Q K' hL hr hk
 have hgt:=guard_true hL hgd hg
 have JU:=da hr hgt
 obtain⟨x,w',A',ρ',hrun,r1,r2,r3,r4,r5⟩:=h M A ρ a w L hL hr
 unfold wpOp
 simp only[hi,JU,if_true]
 refine .inl ?_
 have fin: ∀ {y:Value},RV w' A' ρ' v y→Rel M A' ρ' (bu (ctr+4)) ⟨n,fk L o.dst v,aG⟩ (a.put o.dst y) w':=by
  intro y hy
  have:=r1.put (dst:=o.dst) hy (j4 hd)
  rw[lC]at this
  exact this
 rcases hrun with hrun|⟨hrun,rfl⟩
 · simp only[Oper.wp,hrun,Oper.upon]
   exact hk _ _ ⟨_,A',ρ',hL.put o.dst v,fin r2,r3,r4,r5⟩
 · simp only[Oper.wp,hrun,Oper.upon]
   exact hk _ _ ⟨_,A',ρ',hL.put o.dst v,fin r2,r3,r4,r5⟩
theorem B7 {tm:Tr} {L L0:TS} (hL:fe tm L) (xh:fe tm L0) (l:List ej):FA L l=FA L0 l:=by
 have:(fun x=>ej.get L x)=fun x=>ej.get L0 x:=by rw[←lN hL, ←lN xh]
 induction l with
 |nil=>rfl
 |cons y r ih=>simp only[FA,ih,congrFun this y]
theorem uO {n:Nat} {o:Oper} {f:FuncId} {args:List ej} {tm:Tr} {L0:TS} {hp:HS} {us:List W} (hx:aZ P o=some (.call f args)) (xh:fe tm L0) (gO:FA L0 args=some us):
 enters P f=true∧ ∀L,fe tm L→bQ (St.get ⟨n,L,hp⟩) o=some (f,us):=by
 obtain⟨fQ,gF,ho,rfl,od⟩:=mv hx
 refine⟨od,fun L hL=>?_⟩
 have Zo:qf (St.get ⟨n,L,hp⟩) fQ.toList=some us:=by rw[←qd, ←gO];exact B7 hL xh _
 unfold bQ
 rw[ho]
 simp only[St.get,V.ofValue,Zo]
 rfl
theorem EV {v:V} {us:List W} {k:FuncId→List W→Bool} (h:Kl false v us k=true): ∃f fU,k f fU=true∧
 ∀ {get:Operand→V} {o:Oper} {t:Nat} {args:Array Operand} {gF:Array TypeId},o.op= .call ⟨.value (.tmp t),args,gF⟩→get (.tmp t)=v→qf get args.toList=some us→bQ get o=some (f,fU):=by
 unfold Kl at h
 split at h
 · exact⟨_,_,h,fun ho hv gO=>by unfold bQ;rw[ho];simp only[hv,gO]⟩
 · exact⟨_,_,h,fun ho hv gO=>by unfold bQ;rw[ho];simp only[hv,gO,nR,Option.map_some]⟩
 · exact⟨_,_,h,fun ho hv gO=>by unfold bQ;rw[ho];simp only[hv,gO,nR,Option.map_some]⟩
 · obtain⟨hc,h⟩:=bj h
   exact⟨_,_,h,fun ho hv gO=>by unfold bQ;rw[ho];simp only[hv,gO,hc,if_true]⟩
 · simp at h
theorem rW {n:Nat} {o:Oper} {x:ej} {args:List ej} {tm:Tr} {L0:TS} {hp:HS} {us:List W} {k:FuncId→List W→Bool} (hx:aZ P o=some (.kJ x args)) (xh:fe tm L0) (gO:FA L0 args=some us)
 (h:Kl false (gT tm x) us k=true): ∃f fU,k f fU=true∧ ∀L,fe tm L→bQ (St.get ⟨n,L,hp⟩) o=some (f,fU):=by
 obtain⟨t,fQ,gF,ho,rfl,rfl⟩:=kP hx
 obtain⟨f,fU,h1,h2⟩:=EV h
 refine⟨f,fU,h1,fun L hL=>h2 ho ?_ ?_⟩
 · rw[lN hL]
   exact(bi ⟨n,L,hp⟩ (.tmp t)).symm
 · rw[←qd, ←gO];exact B7 hL xh _
theorem Au (iN:oH P call) {n:Nat} {ops:Array Oper} {o:Oper} {i:Nat} {x:Ro} {g:Option (Nat×Bool)} {tm:Tr} {hp:HS} {ctr:Nat} {K:Tr→HS→Nat→Bool}
 (hi:ops[i]? =some o) (hx:aZ P o=some x) (hd:gZ n o.dst=true) (hgd:iH ops o g) (hg:g=none∨ ∃d want b,g=some (d,want)∧tm.get (key d)=some (bV b)∧(b==want)=true)
 (h:EGo false call P ⟨o.dst,g,x⟩ tm hp ctr K=true): ∃bg aG bz,xZ P n ops i tm hp ctr bg aG bz∧K bg aG bz=true:=by
 obtain⟨L0,xh⟩:=FE tm
 have plain: ∀ {hp:HS},ER false x (gT tm) hp ctr (fun v aG=>kQ tm o.dst v fun tm=>oT (ctr+4) fun c=>K tm aG c)=true→ ∃bg aG bz,xZ P n ops i tm hp ctr bg aG bz∧K bg aG bz=true:=by
  intro hp h
  obtain⟨v,aG,hs,hK⟩:=GP hx hd hgd hg ⟨L0,xh⟩ h
  rw[iB,dM]at hK
  exact⟨_,_,_,hs.run hi,hK⟩
 unfold EGo at h
 split at h
 · rename_i f args lJ
   simp only at lJ
   subst lJ
   rw[lN xh]at h
   obtain⟨us,gO,h⟩:=wc h
   obtain⟨v,aG,bz,hc,h⟩:=iN _ _ _ _ _ h
   rw[dZ,iB]at h
   obtain⟨od,yN⟩:=uO (n:=n) (hp:=hp) hx xh gO
   exact⟨_,_,_,xO hi od hd hgd hg yN hc,h⟩
 · rename_i y args lJ
   simp only at lJ
   subst lJ
   have h':=h
   rw[lN xh]at h'
   obtain⟨us,gO,h'⟩:=wc h'
   rw[←lN xh]at h'
   obtain⟨f,fU,h1,yN⟩:=rW (n:=n) (hp:=hp) hx xh gO h'
   obtain⟨od,h1⟩:=bj h1
   obtain⟨v,aG,bz,hc,h1⟩:=iN _ _ _ _ _ h1
   rw[dZ,iB]at h1
   exact⟨_,_,_,xO hi od hd hgd hg yN hc,h1⟩
 · rename_i op ty lJ
   simp only at lJ
   subst lJ
   obtain⟨rfl,rfl⟩:=kq hx
   obtain⟨v,aG,h1,h2⟩:=Lq (n:=n) h
   rw[iB,dM]at h2
   exact⟨_,_,_,FO hi hd hgd hg h1,h2⟩
 · rename_i size bytes s y lJ
   simp only at lJ
   subst lJ
   split at h
   · rename_i id sz len hs
     split at h
     · rename_i dy xs hf
       rw[cD]at h
       obtain⟨bg,aG,bz,h1,h2⟩:=plain h
       refine⟨bg,aG,bz,?_,h2⟩
       intro M A ρ a w L Q K' hL hr hk
       exact h1 M A ρ a w L Q K' hL (Rel.VV (st:=⟨n,L,hp⟩) hr hf len) hk
     · simp at h
   · exact plain h
 · rename_i size y lo hi' lJ
   simp only at lJ
   subst lJ
   split at h
   · rename_i hy
     split at h
     · rename_i hlo hhi
       rw[iB,dM]at h
       refine⟨_,_,_,FO hi hd hgd hg ?_,h⟩
       exact Bb hx hy hlo hhi
     · simp at h
   · exact plain h
 · exact plain h
theorem As (iN:oH P call) {n:Nat} {ops:Array Oper} {o:Oper} {i:Nat} {x:Ro} {g:Option (Nat×Bool)} {tm:Tr} {hp:HS} {ctr:Nat} {K:Tr→HS→Nat→Bool}
 (hi:ops[i]? =some o) (hx:aZ P o=some x) (hd:gZ n o.dst=true) (hgd:iH ops o g)
 (h:EOp false call P ⟨o.dst,g,x⟩ tm hp ctr K=true): ∃bg aG bz,xZ P n ops i tm hp ctr bg aG bz∧K bg aG bz=true:=by
 unfold EOp at h
 have skip:(∃d want,g=some (d,want)∧((∃b,tm.get (key d)=some (bV b)∧(b==want)=false)∨tm.get (key d)=some (.eW [])))→(kQ tm o.dst (.eW []) fun tm=>K tm hp ctr)=true→
  ∃bg aG bz,xZ P n ops i tm hp ctr bg aG bz∧K bg aG bz=true:=by
  intro hg h
  rw[iB]at h
  have hs:sj P n ops o tm hp ctr (.eW []) hp:=wm hd hgd hg
  refine⟨_,_,_,?_,h⟩
  intro M A ρ a w L Q K' hL hr hk
  have hst:=hs L hL
  unfold wpOp
  simp only[hi]
  obtain⟨d,want,rfl,hgg⟩:=hg
  have hgf:aX ops o L=some false:=by
   rcases hgd with⟨_,h0⟩|⟨j,want',d',h1,h2,h3⟩
   · simp at h0
   · simp only[Option.some.injEq,Prod.mk.injEq]at h3
     obtain⟨rfl,rfl⟩:=h3
     rcases hgg with⟨b,hb,hne⟩|hb
     · rw[←hL d]at hb
       simp only[aX,h1,h2,hb,hne]
     · rw[←hL d]at hb
       simp only[aX,h1,h2,hb]
  have:=da hr hgf
  simp only[this,Bool.false_eq_true,if_false]
  refine hk _ _ ⟨_,A,ρ,hL.put o.dst (.eW []),?_,dj.refl _ _,cZ.refl _,bH.refl _ _⟩
  have:=hr.put (dst:=o.dst) sF (j4 hd)
  rw[lC]at this
  exact this
 split at h
 · rename_i XI
   simp only at XI
   exact Au iN hi hx hd hgd (.inl XI) h
 · rename_i d want MV
   simp only at MV
   split at h
   · rename_i b hb
     cases M0:(b==want)with
     |true=>
      rw[M0]at h
      exact Au iN hi hx hd hgd (.inr ⟨d,want,b,MV,hb,M0⟩) h
     |false=>
      rw[M0]at h
      exact skip ⟨d,want,MV, .inl ⟨b,hb,M0⟩⟩ h
   · rename_i hb
     exact skip ⟨d,want,MV, .inr hb⟩ h
   · simp at h
theorem jV {ops:Array Oper} {o:Oper} {x:Ro} {l' rs:List lU}
 (eO:(match o.guard with
   |none=>some (⟨o.dst,none,x⟩::l')
   |some (j,want)=>
    match(ops[j]?).bind (·.dst)with
    |some d=>some (⟨o.dst,some (d,want),x⟩::l')
    |none=>none)=some rs): ∃g,rs=⟨o.dst,g,x⟩::l'∧iH ops o g:=by
 split at eO
 · rename_i hg
   simp only[Option.some.injEq]at eO
   exact⟨_,eO.symm, .inl ⟨hg,rfl⟩⟩
 · rename_i j want hg
   split at eO
   · rename_i d hd
     simp only[Option.some.injEq]at eO
     exact⟨_,eO.symm, .inr ⟨j,want,d,hg,hd,rfl⟩⟩
   · simp at eO
theorem yd (iN:oH P call) {n:Nat} {ops:Array Oper}: ∀ {l:List Oper} {rs:List lU} {k:Nat} {tm:Tr} {hp:HS} {ctr:Nat} {K:Tr→HS→Nat→Bool},
 (∀j,ops[k+j]? =l[j]?)→aU P ops l=some rs→(rs.all fun o=>gZ n o.dst)=true→N4 false call P rs tm hp ctr K=true→
 ∃bg aG bz,K bg aG bz=true∧ ∀ (M A:Nat→Prop) (ρ:Env) (a:Act) (w:World) (L:TS) (Q:Exit→Act→World→Prop),fe tm L→Rel M A ρ (bu ctr) ⟨n,L,hp⟩ a w→
  (∀a' w',At M A ρ w n bg aG bz a' w'→Q .normal a' w')→wpOps P ops Q (List.range' k l.length) a w
 | [],rs,k,tm,hp,ctr,K,hl,eO,hd,h=>by
   simp only[aU,Option.some.injEq]at eO
   subst eO
   refine⟨tm,hp,ctr,h,fun M A ρ a w L Q hL hr hq=>?_⟩
   exact hq _ _ (At.here hL hr)
 |o::l,rs,k,tm,hp,ctr,K,hl,eO,hd,h=>by
  simp only[aU]at eO
  split at eO
  · rename_i x l' hx hl'
    have hi:ops[k]? =some o:=by simpa using hl 0
    obtain⟨g,rfl,hgd⟩:=jV eO
    simp only[List.all_cons,Bool.and_eq_true]at hd
    simp only[N4]at h
    obtain⟨mX,hp1,c1,h1,h2⟩:=As (n:=n) iN hi hx hd.1 hgd h
    obtain⟨tm2,hp2,c2,h3,h4⟩:=yd iN (k:=k+1) (fun j=>by have:=hl (j+1);rw[show k+1+j=k+(j+1) by omega,this];simp) hl' hd.2 h2
    refine⟨tm2,hp2,c2,h3,fun M A ρ a w L Q hL hr hq=>?_⟩
    rw[List.length_cons,List.range'_succ,wpOps_cons]
    refine h1 M A ρ a w L Q _ hL hr fun a' w' vq=>?_
    obtain⟨L1,A1,ρ1,q1,q2,q3,q4,q5⟩:=vq
    exact h4 M A1 ρ1 a' w' L1 Q q1 q2 fun a2 w2 R4=>hq _ _ (R4.trans q3 q4 q5)
  · simp at eO
theorem Kk {tm:Tr} {L:TS} (hL:fe tm L) (o:lU) (ctr:Nat):Ga o tm ctr=dN o L ctr:=by
 unfold Ga dN
 rw[lN hL]
theorem ye (js:kN P dG) {n:Nat} {ops:Array Oper} {o:Oper} {x:Ro} {g:Option (Nat×Bool)} {tm:Tr} {hp:HS} {ctr:Nat} {K:Tr→HS→Nat→Bool}
 (hx:aZ P o=some x) (hd:gZ n o.dst=true) (hgd:iH ops o g) (hg:g=none∨ ∃d want b,g=some (d,want)∧tm.get (key d)=some (bV b)∧(b==want)=true)
 (h:N5 false dG P ⟨o.dst,g,x⟩ tm hp ctr K=true): ∃v aG,sj P n ops o tm hp ctr v aG∧K (wy tm o.dst v) aG (ctr+4)=true:=by
 obtain⟨L0,xh⟩:=FE tm
 unfold N5 at h
 split at h
 · rename_i f args lJ
   simp only at lJ
   subst lJ
   rw[lN xh]at h
   obtain⟨us,gO,h⟩:=wc h
   obtain⟨v,aG,hc,h⟩:=js _ _ _ _ _ h
   rw[dZ,iB,dM]at h
   obtain⟨od,yN⟩:=uO (n:=n) (hp:=hp) hx xh gO
   refine⟨v,aG,fun L hL=>⟨hd,?_⟩,h⟩
   rw[guard_true hL hgd hg]
   simp only[yN L hL]
   exact⟨od,hc⟩
 · rename_i y args lJ
   simp only at lJ
   subst lJ
   have h':=h
   rw[lN xh]at h'
   obtain⟨us,gO,h'⟩:=wc h'
   rw[←lN xh]at h'
   obtain⟨f,fU,h1,yN⟩:=rW (n:=n) (hp:=hp) hx xh gO h'
   obtain⟨od,h1⟩:=bj h1
   obtain⟨v,aG,hc,h1⟩:=js _ _ _ _ _ h1
   rw[dZ,iB,dM]at h1
   refine⟨v,aG,fun L hL=>⟨hd,?_⟩,h1⟩
   rw[guard_true hL hgd hg]
   simp only[yN L hL]
   exact⟨od,hc⟩
 · rename_i op ty lJ
   simp only at lJ
   subst lJ
   obtain⟨rfl,rfl⟩:=kq hx
   split at h
   · rename_i v aG he
     rw[dZ,iB,dM]at h
     refine⟨v,aG,fun L hL=>⟨hd,?_⟩,h⟩
     rw[guard_true hL hgd hg]
     rw[uH,get_eq hL n hp]at he
     have hno:bQ (St.get ⟨n,L,hp⟩) o=none:=by
      cases hc:bQ (St.get ⟨n,L,hp⟩) o with
      |none=>rfl
      |some p=>
       exfalso
       exact Di hc he
     simp only[hno]
     exact he
   · simp at h
 · obtain⟨v,aG,hs,hK⟩:=GP (n:=n) hx hd hgd hg ⟨L0,xh⟩ h
   rw[iB,dM]at hK
   exact⟨_,_,hs,hK⟩
theorem Fu (js:kN P dG) {n:Nat} {ops:Array Oper} {o:Oper} {x:Ro} {g:Option (Nat×Bool)} {tm:Tr} {hp:HS} {ctr:Nat} {K:Tr→HS→Nat→Bool}
 (hx:aZ P o=some x) (hd:gZ n o.dst=true) (hgd:iH ops o g)
 (h:Tq false dG P ⟨o.dst,g,x⟩ tm hp ctr K=true): ∃v aG,sj P n ops o tm hp ctr v aG∧K (wy tm o.dst v) aG (ctr+4)=true:=by
 unfold Tq at h
 have skip:(∃d want,g=some (d,want)∧((∃b,tm.get (key d)=some (bV b)∧(b==want)=false)∨tm.get (key d)=some (.eW [])))→(kQ tm o.dst (.eW []) fun tm=>oT (ctr+4) fun c=>K tm hp c)=true→
  ∃v aG,sj P n ops o tm hp ctr v aG∧K (wy tm o.dst v) aG (ctr+4)=true:=by
  intro hg h
  rw[iB,dM]at h
  exact⟨_,_,wm hd hgd hg,h⟩
 split at h
 · rename_i XI
   simp only at XI
   exact ye js hx hd hgd (.inl XI) h
 · rename_i d want MV
   simp only at MV
   split at h
   · rename_i b hb
     cases M0:(b==want)with
     |true=>
      rw[M0]at h
      exact ye js hx hd hgd (.inr ⟨d,want,b,MV,hb,M0⟩) h
     |false=>
      rw[M0]at h
      exact skip ⟨d,want,MV, .inl ⟨b,hb,M0⟩⟩ h
   · rename_i hb
     exact skip ⟨d,want,MV, .inr hb⟩ h
   · simp at h
theorem uS (js:kN P dG) {ops:Array Oper} {n base:Nat} {K:List iI→Tr→HS→Nat→Bool}: ∀ {l:List Oper} {rs:List lU} {k:Nat} {H7:List iI} {tm:Tr} {hp:HS},aU P ops l=some rs→
 (rs.all fun o=>gZ n o.dst)=true→H7.length=k→DN false dG P rs H7 tm hp (base+4 * k) K=true→
 ∃ (IS:Nat→Tr) (hpT:Nat→HS) (v:Nat→V) (fs:List iI),K fs (IS (k+l.length)) (hpT (k+l.length)) (base+4 * (k+l.length))=true∧(∀i,i < k→fs[i]? =H7[i]?)∧IS k=tm∧hpT k=hp∧
  ∀j o,l[j]? =some o→sj P n ops o (IS (k+j)) (hpT (k+j)) (base+4 * (k+j)) (v (k+j)) (hpT (k+j+1))∧IS (k+j+1)=wy (IS (k+j)) o.dst (v (k+j))∧
   ∃f,fs[k+j]? =some f∧f.dst=o.dst∧ ∀L,fe (IS (k+j)) L→(∀t,t∈names ops o→t∈f.nm)∧(∀q,q∈jv (St.get ⟨n,L,hpT (k+j)⟩) o→q∈f.rd)∧(∀q,q∈vL (St.get ⟨n,L,hpT (k+j)⟩) (base+4 * (k+j)) o→q∈f.wr)
 | [],rs,k,H7,tm,hp,eO,hd,hk,h=>by
   simp only[aU,Option.some.injEq]at eO
   subst eO
   exact⟨fun _=>tm,fun _=>hp,fun _=> .undef,H7,by simpa[DN]using h,fun _ _=>rfl,rfl,rfl,fun j o hj=>by simp at hj⟩
 |o::l,rs,k,H7,tm,hp,eO,hd,hk,h=>by
  simp only[aU]at eO
  split at eO
  · rename_i x l' hx hl'
    obtain⟨g,rfl,hgd⟩:=jV eO
    simp only[List.all_cons,Bool.and_eq_true]at hd
    simp only[DN]at h
    obtain⟨v0,aG,hst,hK⟩:=Fu (n:=n) (ops:=ops) js hx hd.1 hgd h
    rw[show base+4 * k+4=base+4 * (k+1) by omega]at hK
    obtain⟨IS,hpT,v,fs,q1,q2,q3,q4,q5⟩:=uS js (k:=k+1) hl' hd.2 (by simp[hk]) hK
    have CY:fs[k]? =some (Ga ⟨o.dst,g,x⟩ tm (base+4 * k)):=by
     rw[q2 k (by omega),List.getElem?_append_right (by omega),hk];simp
    refine⟨fun i=>if i=k then tm else IS i,fun i=>if i=k then hp else hpT i,fun i=>if i=k then v0 else v i,fs,?_,?_,?_,?_,?_⟩
    · have e1:k+(o::l).length=k+1+l.length:=by simp;omega
      have e2:¬k+1+l.length=k:=by omega
      simp only[e1,e2,if_false]
      exact q1
    · intro i hi'
      rw[q2 i (by omega),List.getElem?_append_left (by omega)]
    · simp
    · simp
    · intro j oj hj
      cases j with
      |zero=>
       simp only[List.getElem?_cons_zero,Option.some.injEq]at hj
       subst hj
       have e2:¬k+1=k:=by omega
       simp only[Nat.add_zero,if_true,e2,if_false,q4,q3]
       refine⟨hst,trivial,_,CY,rfl,fun L hL=>?_⟩
       have J7:=zX (ops:=ops) (n:=n) (ctr:=base+4 * k) (tm:=L) (hp:=hp) hx hgd
       rw[Kk hL]
       exact J7.2
      |succ j=>
       have:=q5 j oj (by simpa using hj)
       have e1:¬k+(j+1)=k:=by omega
       have e2:¬k+(j+1)+1=k:=by omega
       simp only[e1,e2,if_false]
       rw[show k+(j+1)=k+1+j by omega]
       exact this
  · simp at eO
theorem jQ {all:Array Oper}: ∀ {l:List Oper} {rs:List lU},aU P all l=some rs→rs.length=l.length
 | [],rs,h=>by simp only[aU,Option.some.injEq]at h;subst h;rfl
 |o::l,rs,h=>by
  simp only[aU]at h
  split at h
  · rename_i x l' hx hl'
    obtain⟨g,rfl,_⟩:=jV h
    simp[jQ hl']
  · simp at h
theorem pK (bits:List Nat) (N:Nat): ∀ (j:Nat) (rs:List lU),rs=(cv bits N j rs).1++(cv bits N j rs).2∧
 (∀o r,(cv bits N j rs).2=o::r→CM bits N (j+(cv bits N j rs).1.length)=true)
 |j,[]=>⟨rfl,fun o r h=>by simp[cv]at h⟩
 |j,x::q=>by
  obtain⟨h1,h2⟩:=pK bits N (j+1) q
  cases hp:CM bits N j with
  |true=>
   have e:cv bits N j (x::q)=([],x::q):=by simp only[cv,hp,gR]
   rw[e]
   exact⟨rfl,fun o r _=>by simpa using hp⟩
  |false=>
   have e:cv bits N j (x::q)=(x::(cv bits N (j+1) q).1,(cv bits N (j+1) q).2):=by simp only[cv,hp,gR]
   rw[e]
   refine⟨by simp only[List.cons_append, ←h1],fun o r h=>?_⟩
   have:=h2 o r h
   rw[show j+(x::(cv bits N (j+1) q).1).length=j+1+(cv bits N (j+1) q).1.length by simp;omega]
   exact this
theorem kr {all:Array Oper}: ∀ {a b:List lU} {l:List Oper},aU P all l=some (a++b)→ ∃l1 l2,l=l1++l2∧aU P all l1=some a∧aU P all l2=some b∧l1.length=a.length
 | [],b,l,h=>⟨[],l,rfl,rfl,h,rfl⟩
 |x::a,b,[],h=>by simp[aU]at h
 |x::a,b,o::l,h=>by
  simp only[aU]at h
  split at h
  · rename_i y l' hy hl'
    have XN: ∃g,(⟨o.dst,g,y⟩:lU)=x∧l'=a++b∧ ∀l'',(match o.guard with
     |none=>some ((⟨o.dst,none,y⟩:lU)::l'')
     |some (j,want)=>match(all[j]?).bind (·.dst)with
      |some d=>some ((⟨o.dst,some (d,want),y⟩:lU)::l'')
      |none=>none)=some ((⟨o.dst,g,y⟩:lU)::l''):=by
     split at h
     · rename_i hg
       simp only[List.cons_append,Option.some.injEq,List.cons.injEq]at h
       exact⟨none,h.1,h.2,fun l''=>by simp only[hg]⟩
     · rename_i j want hg
       split at h
       · rename_i d hd
         simp only[List.cons_append,Option.some.injEq,List.cons.injEq]at h
         exact⟨some (d,want),h.1,h.2,fun l''=>by simp only[hg,hd]⟩
       · simp at h
    obtain⟨g,rfl,rfl,hg⟩:=XN
    obtain⟨l1,l2,rfl,h1,h2,h3⟩:=kr hl'
    exact⟨o::l1,l2,rfl,by simp only[aU,hy,h1];exact hg a,h2,by simp[h3]⟩
  · simp at h
theorem rY {p:Nat→Bool} {n:Nat} (h:(List.range n).all p=true) {i:Nat} (hi:i < n):p i=true:=List.all_eq_true.1 h i (List.mem_range.2 hi)
theorem EE {bits:List Nat} {N j:Nat} (h:CM bits N j=true):(∀i,i < j→(bits.getD j 0).testBit i=true)∧ ∀k,j < k→k < N→(bits.getD k 0).testBit j=true:=by
 simp only[CM,Bool.and_eq_true]at h
 refine⟨fun i hi=>rY h.1 hi,fun k h1 h2=>?_⟩
 have:=rY h.2 (i:=k - (j+1)) (by omega)
 rw[show j+1+(k - (j+1))=k by omega]at this
 exact this
theorem B0 (iN:oH P call) (js:kN P dG) {n:Nat} {ops:Array Oper} (hE: ∀i o,ops[i]? =some o→ ∀e,e∈bf o→e < i): ∀ {f lo:Nat} {l:List Oper} {rs:List lU} {tm:Tr} {hp:HS} {ctr:Nat} {K:Tr→HS→Nat→Bool},
 (∀j,ops[lo+j]? =l[j]?)→lo+l.length=ops.size→aU P ops l=some rs→(rs.all fun o=>gZ n o.dst)=true→yf false call dG P (kX (ops.toList.map bf) []) ops.size f lo rs tm hp ctr K=true→
 ∃bg aG bz,K bg aG bz=true∧ ∀ (M A:Nat→Prop) (ρ:Env) (a:Act) (w:World) (L:TS) (Q:Exit→Act→World→Prop),fe tm L→Rel M A ρ (bu ctr) ⟨n,L,hp⟩ a w→
  (∀a' w',At M A ρ w n bg aG bz a' w'→Q .normal a' w')→ ∀ (fuel:Nat) (listed:Array Bool),listed.size=ops.size→(∀i,i < ops.size→listed.getD i false=decide (i < lo))→ops.size - lo≤fuel→wpAny P .any ops Q fuel listed a w:=by
 intro f
 induction f with
 |zero=>intro lo l rs tm hp ctr K _ _ _ _ h;simp[yf]at h
 |succ f ih=>
  intro lo l rs tm hp ctr K hl hlen eO hd h
  simp only[yf]at h
  obtain⟨hsp,J0⟩:=pK (kX (ops.toList.map bf) []) ops.size lo rs
  revert h
  generalize (cv (kX (ops.toList.map bf) []) ops.size lo rs).1=dI at hsp J0
  generalize (cv (kX (ops.toList.map bf) []) ops.size lo rs).2=rest at hsp J0
  intro h
  subst hsp
  obtain⟨l1,l2,rfl,kC,w7,TK⟩:=kr eO
  simp only[List.all_append,Bool.and_eq_true]at hd
  obtain⟨IS,hpT,v,fs,q1,_,q3,q4,q5⟩:=uS (P:=P) js (ops:=ops) (n:=n) (base:=ctr) (k:=0) (l:=l1) kC hd.1 rfl (by simpa using h)
  obtain⟨qc,q1⟩:=bj q1
  simp only[Bool.and_eq_true]at qc
  obtain⟨qs,ql⟩:=qc
  simp only[Nat.zero_add]at q1 q5
  have hlm:lo+l1.length≤ops.size:=by rw[←hlen];simp
  have hop: ∀i,i < l1.length→ops[lo+i]? =l1[i]? :=fun i hi=>by rw[hl i,List.getElem?_append_left hi]
  have EM: ∀k,lo+l1.length≤k→k < ops.size→ ∀i,i < l1.length→((kX (ops.toList.map bf) []).getD k 0).testBit (lo+i)=true:=by
   intro k hk hk' i hi
   unfold FY at ql
   rw[←TK]at ql
   have:=rY (rY ql (i:=k - (lo+l1.length)) (by omega)) hi
   rw[show lo+l1.length+(k - (lo+l1.length))=k by omega]at this
   exact this
  have FI: ∀ (M A:Nat→Prop) (ρ:Env) (a:Act) (w:World) (L:TS) (Q:Exit→Act→World→Prop),fe tm L→Rel M A ρ (bu ctr) ⟨n,L,hp⟩ a w→
   (∀ (fuel:Nat) (listed:Array Bool) (a':Act) (w':World),listed.size=ops.size→(∀i,i < ops.size→listed.getD i false=decide (i < lo+l1.length))→ops.size - (lo+l1.length)≤fuel→
     At M A ρ w n (IS l1.length) (hpT l1.length) (ctr+4 * l1.length) a' w'→wpAny P .any ops Q fuel listed a' w')→
   ∀ (fuel:Nat) (listed:Array Bool),listed.size=ops.size→(∀i,i < ops.size→listed.getD i false=decide (i < lo))→ops.size - lo≤fuel→wpAny P .any ops Q fuel listed a w:=by
   intro M A ρ a w L Q hL cI J3
   rw[←q3]at hL
   let Ls:Nat→TS:=fun i=>Nat.rec L (fun i l=>fk l ((l1[i]?).bind (·.dst)) (v i)) i
   have hLs: ∀i,i≤l1.length→fe (IS i) (Ls i):=by
    intro i
    induction i with
    |zero=>intro _;exact hL
    |succ i ihi=>
     intro hi
     have ho:l1[i]? =some l1[i]:=by simp[show i < l1.length by omega]
     have:=(q5 i l1[i] ho).2.1
     rw[this]
     have h2:=(ihi (by omega)).put (l1[i].dst) (v i)
     have e:Ls (i+1)=fk (Ls i) l1[i].dst (v i):=by
      show fk (Ls i) ((l1[i]?).bind (·.dst)) (v i)=_
      rw[ho];rfl
     rw[e]
     exact h2
   have CV:Rel M A ρ (bu ctr) ⟨n,Ls 0,hpT 0⟩ a w:=by rw[q4];exact cI
   refine G6 (v:=v) (tmT:=Ls) (hpT:=hpT) (base:=ctr) (fs:=fs) hlm (fun i o hi ho=>?_) hE qs EM CV ?_
   · rw[hop i hi]at ho
     obtain⟨s1,s2,f,f1,f2,f3⟩:=q5 i o ho
     refine⟨s1 _ (hLs i (by omega)),fun t=>?_,f,f1,f2,f3 _ (hLs i (by omega))⟩
     show find (fk (Ls i) ((l1[i]?).bind (·.dst)) (v i)) t=_
     rw[ho];rfl
   · rintro fuel listed a' w' hsz qG IF ⟨st',c',A',ρ',⟨rfl,rfl⟩,h2,h3,h4,h5⟩
     exact J3 fuel listed a' w' hsz qG IF ⟨_,A',ρ',hLs _ (Nat.le_refl _),h2,h3,h4,h5⟩
  cases rest with
  |nil=>
   simp only at q1
   have rI:l2=[]:=by
    cases l2 with
    |nil=>rfl
    |cons o r=>have:=jQ w7;simp at this
   subst rI
   simp only[List.append_nil]at hlen
   refine⟨_,_,_,q1,fun M A ρ a w L Q hL cI hQ fuel listed hsz qG IF=>FI M A ρ a w L Q hL cI (fun fuel listed a' w' hsz qG IF vq=>?_) fuel listed hsz qG IF⟩
   have hq:=hQ a' w' vq
   have CX:Region.ready .any ops listed=[]:=by
    apply List.eq_nil_iff_forall_not_mem.2
    intro i hi
    rw[mem_ready]at hi
    obtain⟨h0,o,ho,_⟩:=hi
    have hlt:i < ops.size:=(Array.getElem?_eq_some_iff.1 ho).1
    have:=qG i hlt
    simp only[Array.getD_eq_getD_getElem?]at this h0
    have kg:i < listed.size:=by omega
    simp[kg]at this h0
    simp[this]at h0
    omega
   cases fuel with
   |zero=>exact⟨CX,hq⟩
   |succ fuel=>exact⟨fun _=>hq,fun i hi=>by rw[CX]at hi;simp at hi⟩
  |cons p r=>
   simp only at q1
   cases l2 with
   |nil=>simp[aU]at w7
   |cons o l2=>
    simp only[aU]at w7
    split at w7
    · rename_i x l' hx hl'
      obtain⟨g,hpg,hgd⟩:=jV w7
      simp only[List.cons.injEq]at hpg
      obtain⟨rfl,rfl⟩:=hpg
      simp only[List.all_cons,Bool.and_eq_true]at hd
      have hi:ops[lo+l1.length]? =some o:=by rw[hl l1.length,List.getElem?_append_right (Nat.le_refl _)];simp
      obtain⟨mX,hp1,c1,r1,r2⟩:=As (n:=n) iN hi hx hd.2.1 hgd q1
      rw[←TK]at r2
      obtain⟨tm2,hp2,c2,r3,r4⟩:=ih (lo:=lo+l1.length+1) (l:=l2) (fun j=>by
       rw[show lo+l1.length+1+j=lo+(l1.length+(j+1)) by omega,hl,List.getElem?_append_right (by omega)]
       rw[show l1.length+(j+1) - l1.length=j+1 by omega]
       simp) (by rw[←hlen];simp;omega) hl' hd.2.2 r2
      have Xv:=EE (J0 _ _ rfl)
      rw[←TK]at Xv
      refine⟨tm2,hp2,c2,r3,fun M A ρ a w L Q hL cI hQ fuel listed hsz qG IF=>FI M A ρ a w L Q hL cI (fun fuel listed a' w' hsz qG IF vq=>?_) fuel listed hsz qG IF⟩
      have hps:lo+l1.length < ops.size:=(Array.getElem?_eq_some_iff.1 hi).1
      obtain⟨fuel,rfl⟩: ∃f,fuel=f+1:=⟨fuel - 1,by omega⟩
      obtain⟨L1,A1,ρ1,t1,t2,t3,t4,t5⟩:=vq
      have hclosed: ∀k o',ops[k]? =some o'→listed.getD k false=true→ ∀e,e∈bf o'→listed.getD e false=true:=by
       intro k o' yh hk e he
       have hks:k < ops.size:=(Array.getElem?_eq_some_iff.1 yh).1
       rw[qG k hks]at hk
       have:=hE k o' yh e he
       rw[qG e (by omega)]
       simp at hk⊢
       omega
      refine⟨fun CX=>?_,fun i hir=>?_⟩
      · exfalso
        have:lo+l1.length∈Region.ready .any ops listed:=by
         rw[mem_ready]
         refine⟨?_,o,hi,fun e he hb=>?_⟩
         · have:=qG _ hps
           simp only[Array.getD_eq_getD_getElem?]at this⊢
           have kg:lo+l1.length < listed.size:=by omega
           simp[kg]at this⊢
           exact this
         · have hm:e.on∈bf o:=by simp only[bf,List.mem_map,List.mem_filter];exact⟨e,⟨by simpa using he,hb⟩,rfl⟩
           have:=hE _ o hi _ hm
           rw[qG e.on (by omega)]
           simp
           omega
        rw[CX]at this
        simp at this
      · rw[mem_ready]at hir
        obtain⟨h0,oi,hoi,xe⟩:=hir
        have his:i < ops.size:=(Array.getElem?_eq_some_iff.1 hoi).1
        have HY:listed.getD i false=false:=by
         simp only[Array.getD_eq_getD_getElem?]at h0⊢
         have kg:i < listed.size:=by omega
         simpa[kg]using h0
        have hge:lo+l1.length≤i:=by
         rw[qG i his]at HY
         simp at HY
         omega
        have hip:i=lo+l1.length:=by
         rcases Nat.eq_or_lt_of_le hge with h|h
         · exact h.symm
         · exfalso
           have hb:=Xv.2 i h his
           have X2: ∀ (i:Nat) (es:List Nat),(ops.toList.map bf)[i]? =some es→ ∀e,e∈es→e < i:=by
            intro i es h e he
            simp only[List.getElem?_map,Array.getElem?_toList,Option.map_eq_some_iff]at h
            obtain⟨o,ho,rfl⟩:=h
            exact hE i o ho e he
           have:=(qP (L:=fun k=>listed.getD k false) X2 i (by simpa using his) (fun k es _ HX j9 e he=>by
            simp only[List.getElem?_map,Array.getElem?_toList,Option.map_eq_some_iff]at j9
            obtain⟨o,ho,rfl⟩:=j9
            exact hclosed k o ho HX e he) (fun es j9 e he=>by
            simp only[List.getElem?_map,Array.getElem?_toList,Option.map_eq_some_iff]at j9
            obtain⟨o',yh,rfl⟩:=j9
            rw[hoi]at yh
            simp only[Option.some.injEq]at yh
            subst yh
            simp only[bf,List.mem_map,List.mem_filter]at he
            obtain⟨ed,⟨g1,g2⟩,rfl⟩:=he
            exact xe ed (by simpa using g1) g2) _ hb).1
           rw[qG _ hps]at this
           simp at this
        subst hip
        refine r1 M A1 ρ1 a' w' L1 Q _ t1 t2 fun a2 w2 R4=>?_
        obtain⟨L2,A2,ρ2,u1,u2,u3,u4,u5⟩:=R4
        refine r4 M A2 ρ2 a2 w2 L2 Q u1 u2 (fun a3 w3 agY=>hQ a3 w3 ((agY.trans u3 u4 u5).trans t3 t4 t5)) fuel _ (by simpa using hsz) (fun k hk=>?_) (by omega)
        by_cases hk':k=lo+l1.length
        · subst hk'
          have kg:lo+l1.length < listed.size:=by omega
          simp[Array.getD_eq_getD_getElem?,kg]
        · have:=getD_set_ne (listed:=listed) false (fun e:lo+l1.length=k=>hk' e.symm)
          rw[this,qG k hk]
          simp only[decide_eq_decide]
          omega
    · simp at w7
theorem GO (iN:oH P call) (js:kN P dG) {n fuel:Nat}: ∀ {c:Code} {r:Rc},aS P c=some r→gk n r=true→ ∀ {Q:Exit→Tr→HS→Nat→Bool} {tm:Tr} {hp:HS} {ctr:Nat},E false call dG P fuel r Q tm hp ctr=true→
 ∃e bg aG bz,Q e bg aG bz=true∧TX P n c tm hp ctr e bg aG bz:=by
 intro c
 induction c with
 |skip=>
  intro r hr hd Q tm hp ctr h
  simp only[aS,Option.some.injEq]at hr
  subst hr
  exact⟨_,_,_,_,h,fun M A ρ a w L hL cI=>wp_skip ⟨rfl,At.here hL cI⟩⟩
 |ret=>
  intro r hr hd Q tm hp ctr h
  simp only[aS,Option.some.injEq]at hr
  subst hr
  exact⟨_,_,_,_,h,fun M A ρ a w L hL cI=>wp_ret ⟨rfl,At.here hL cI⟩⟩
 |exit id=>
  intro r hr hd Q tm hp ctr h
  simp only[aS,Option.some.injEq]at hr
  subst hr
  exact⟨_,_,_,_,h,fun M A ρ a w L hL cI=>wp_exit ⟨rfl,At.here hL cI⟩⟩
 |seq x y JS JR=>
  intro r hr hd Q tm hp ctr h
  simp only[aS]at hr
  split at hr
  · rename_i rx ry hx hy
    simp only[Option.some.injEq]at hr
    subst hr
    simp only[gk,Bool.and_eq_true]at hd
    simp only[E]at h
    obtain⟨e1,mX,hp1,c1,h1,h2⟩:=JS hx hd.1 h
    cases e1 with
    |normal=>
     obtain⟨e2,tm2,hp2,c2,h3,h4⟩:=JR hy hd.2 h1
     refine⟨e2,tm2,hp2,c2,h3,fun M A ρ a w L hL cI=>wp_seq (wp_mono (h2 M A ρ a w L hL cI) ?_)⟩
     rintro e a' w' ⟨rfl,L1,A1,ρ1,q1,q2,q3,q4,q5⟩
     exact wp_mono (h4 M A1 ρ1 a' w' L1 q1 q2) fun e a2 w2 ⟨he,vq⟩=>⟨he,vq.trans q3 q4 q5⟩
    |_=>
     refine⟨_,mX,hp1,c1,h1,fun M A ρ a w L hL cI=>wp_seq (wp_mono (h2 M A ρ a w L hL cI) ?_)⟩
     rintro e a' w' ⟨rfl,vq⟩
     exact⟨rfl,vq⟩
  · simp at hr
 |cond c x y JS JR=>
  intro r hr hd Q tm hp ctr h
  simp only[aS]at hr
  split at hr
  · rename_i rx ry hx hy
    simp only[Option.some.injEq]at hr
    subst hr
    simp only[gk,Bool.and_eq_true]at hd
    simp only[E]at h
    split at h
    · rename_i b hb
      have hb': ∀L,fe tm L→((⟨n,L,hp⟩:St).get c).ia =some b:=fun L hL=>by
       rw[←bi]
       rw[lN hL]at hb
       exact hb
      cases b with
      |true=>
       obtain⟨e1,mX,hp1,c1,h1,h2⟩:=JS hx hd.1 h
       exact⟨e1,mX,hp1,c1,h1,fun M A ρ a w L hL cI=>wp_cond (V.mN (hb' L hL) (cI.get c)) (h2 M A ρ a w L hL cI)⟩
      |false=>
       obtain⟨e1,mX,hp1,c1,h1,h2⟩:=JR hy hd.2 h
       exact⟨e1,mX,hp1,c1,h1,fun M A ρ a w L hL cI=>wp_cond (V.mN (hb' L hL) (cI.get c)) (h2 M A ρ a w L hL cI)⟩
    · simp at h
  · simp at hr
 |block id b ih=>
  intro r hr hd Q tm hp ctr h
  simp only[aS]at hr
  split at hr
  · rename_i rb hb
    simp only[Option.some.injEq]at hr
    subst hr
    simp only[gk]at hd
    simp only[E]at h
    obtain⟨e1,mX,hp1,c1,h1,h2⟩:=ih hb hd h
    cases e1 with
    |exit id'=>
     simp only[KC]at h1
     cases bN:Nat.beq id' id with
     |true=>
      rw[bN]at h1
      have MT:id'=id:=by simpa using bN
      refine⟨_,mX,hp1,c1,h1,fun M A ρ a w L hL cI=>wp_block (wp_mono (h2 M A ρ a w L hL cI) ?_)⟩
      rintro e a' w' ⟨rfl,vq⟩
      simp only[Exit.inBlock,MT,if_true]
      exact⟨trivial,vq⟩
     |false=>
      rw[bN]at h1
      have MT:¬id'=id:=by
       intro h;subst h;simp at bN
      refine⟨_,mX,hp1,c1,h1,fun M A ρ a w L hL cI=>wp_block (wp_mono (h2 M A ρ a w L hL cI) ?_)⟩
      rintro e a' w' ⟨rfl,vq⟩
      simp only[Exit.inBlock,MT,if_false]
      exact⟨trivial,vq⟩
    |_=>
     refine⟨_,mX,hp1,c1,h1,fun M A ρ a w L hL cI=>wp_block (wp_mono (h2 M A ρ a w L hL cI) ?_)⟩
     rintro e a' w' ⟨rfl,vq⟩
     exact⟨rfl,vq⟩
  · simp at hr
 |loop b ih=>
  intro r hr hd Q tm hp ctr h
  simp only[aS]at hr
  split at hr
  · rename_i rb hb
    simp only[Option.some.injEq]at hr
    subst hr
    simp only[gk]at hd
    simp only[E]at h
    have key: ∀ (k:Nat) (tm:Tr) (hp:HS) (ctr:Nat),Dl false (fun self=>E false call dG P fuel rb (Kq self Q)) k tm hp ctr=true→
     ∃e bg aG bz,Q e bg aG bz=true∧ ∀ (M A:Nat→Prop) (ρ:Env) (a:Act) (w:World) (L:TS) (b':Frame) (kk:List _) (cs:List _),fe tm L→Rel M A ρ (bu ctr) ⟨n,L,hp⟩ a w→
      ∃a' w',At M A ρ w n bg aG bz a' w'∧Arrives P (lone (b'.at a (.code b:: .inLoop b::kk)) cs w) b' kk cs e a' w':=by
     intro k
     induction k with
     |zero=>intro tm hp ctr h;simp[Dl]at h
     |succ k ihk=>
      intro tm hp ctr h
      simp only[Dl]at h
      obtain⟨e1,mX,hp1,c1,h1,h2⟩:=ih hb hd h
      cases e1 with
      |normal=>
       obtain⟨e2,tm2,hp2,c2,h3,h4⟩:=ihk mX hp1 c1 h1
       refine⟨e2,tm2,hp2,c2,h3,fun M A ρ a w L b' kk cs hL cI=>?_⟩
       obtain⟨e,a1,w1,⟨rfl,L1,A1,ρ1,q1,q2,q3,q4,q5⟩,ki⟩:=h2 M A ρ a w L hL cI b' (.inLoop b::kk) cs
       obtain⟨a2,w2,vq,C5⟩:=h4 M A1 ρ1 a1 w1 L1 b' kk cs q1 q2
       exact⟨a2,w2,vq.trans q3 q4 q5, .of_steps (Steps.trans ki (.one step_inLoop)) C5⟩
      |_=>
       refine⟨_,mX,hp1,c1,h1,fun M A ρ a w L b' kk cs hL cI=>?_⟩
       obtain⟨e,a1,w1,⟨rfl,vq⟩,ki⟩:=h2 M A ρ a w L hL cI b' (.inLoop b::kk) cs
       exact⟨a1,w1,vq, .pass (x:= .inLoop b) rfl (fun _ _=> .inl (by simp)) ki⟩
    obtain⟨e,bg,aG,bz,h1,h2⟩:=key fuel tm hp ctr h
    refine⟨e,bg,aG,bz,h1,fun M A ρ a w L hL cI b' kk cs=>?_⟩
    obtain⟨a',w',vq,ki⟩:=h2 M A ρ a w L b' kk cs hL cI
    exact⟨e,a',w',⟨rfl,vq⟩, .of_steps (.one step_loop) ki⟩
  · simp at hr
 |region id ops d=>
  intro r hr hd Q tm hp ctr h
  cases d with
  |true=>
   simp only[aS]at hr
   split at hr
   · rename_i l hl
     split at hr
     · rename_i hc
       simp only[Bool.and_eq_true]at hc
       simp only[Option.some.injEq]at hr
       subst hr
       simp only[gk]at hd
       simp only[E]at h
       have hE: ∀i o,ops[i]? =some o→ ∀e,e∈bf o→e < i:=by
        intro i o ho e he
        have:=jE hc.2 i (bf o) (by simp[ho]) e he
        omega
       have TK:=jQ hl
       rw[TK]at h
       obtain⟨bg,aG,bz,h1,h2⟩:=B0 iN js (n:=n) hE (lo:=0) (l:=ops.toList) (fun j=>by simp) (by simp) hl hd (by simpa using h)
       refine⟨_,_,_,_,h1,fun M A ρ a w L hL cI=>wp_region_any hc.1 ?_⟩
       refine h2 M A ρ a _ L _ hL cI.drew (fun a' w' vq=>?_) ops.size _ (by simp) (fun i hi=>by simp[hi]) (by omega)
       exact⟨rfl,vq.trans (dj.drew M w) (cZ.refl _) (bH.refl _ _)⟩
     · simp at hr
   · simp at hr
  |false=>
   simp only[aS]at hr
   split at hr
   · rename_i l hl
     simp only[Option.some.injEq]at hr
     subst hr
     simp only[gk]at hd
     simp only[E]at h
     obtain⟨bg,aG,bz,h1,h2⟩:=yd iN (n:=n) (ops:=ops) (k:=0) (l:=ops.toList) (fun j=>by simp) hl hd h
     refine⟨_,_,_,_,h1,fun M A ρ a w L hL cI=>wp_region ?_⟩
     have:=h2 M A ρ a w L (fun e2 a' w'=>e2= .normal∧At M A ρ w n bg aG bz a' w') hL cI (fun _ _ vq=>⟨rfl,vq⟩)
     rw[List.range_eq_range']
     simpa using this
   · simp at hr
 |_=>intro r hr;simp[aS]at hr
end Go.aT
end
section
namespace Go.aT
open Go
inductive Rv where
 |tmp (t:Nat)
 |cell (t:Nat) (n:Option Nat)
def cQ (P:Program):List ResultVar→Option (List Rv)
 | []=>some []
 | .tmp t::r=>match cQ P r with
   |some l=>some (.tmp t::l)
   |none=>none
 | .cell t ty::r=>match D9 P ty,cQ P r with
   |some n,some l=>some (.cell t n::l)
   |_,_=>none
section
variable {α:Type} (bad:α)
def wF (tm:Tr) (hp:HS):List Rv→(List W→α)→α
 | [],k=>k []
 | .tmp t::r,k=>match tm.get (key t)with
   |some (.w u)=>wF tm hp r fun us=>k (u::us)
   |_=>bad
 | .cell t n::r,k=>match tm.get (key t)with
   |some (.w (.one c))=>BJ bad hp c fun cs j=>Ct bad n cs j fun v=>match v with
    | .w u=>wF tm hp r fun us=>k (u::us)
    |_=>bad
   |_=>bad
def pO {β γ:Type} (f:β→(γ→α)→α):List β→(List γ→α)→α
 | [],k=>k []
 |x::r,k=>f x fun y=>pO f r fun l=>k (y::l)
def kn:Nat→HS→C→(T→α)→α
 |_,_, .t x,k=>k x
 |0,_,_,_=>bad
 |d+1,hp, .own id sz i len,k=>match find hp id with
  |some (.row sz' xs)=>gR (Nat.beq sz' sz&&Nat.ble (i+len) xs.length) (pO (pO (kn d hp)) ((xs.drop i).take len) fun ts=>k (.aB sz ts)) bad
  |_=>bad
 |_+1,_,_,_=>bad
def Ki (hp:HS):W→(W→α)→α
 | .one c,k=>kn bad 6 hp c fun t=>k (.one (.t t))
 | .agg cs,k=>pO (kn bad 6 hp) cs fun ts=>k (.agg (ts.map .t))
end
def bM {β γ:Type} (f:β→Option γ):List β→Option (List γ)
 | []=>some []
 |x::r=>match f x,bM f r with
  |some y,some l=>some (y::l)
  |_,_=>none
def dm:Nat→HS→C→Option T
 |_,_, .t x=>some x
 |0,_,_=>none
 |d+1,hp, .own id sz i len=>match find hp id with
  |some (.row sz' xs)=>if sz'=sz∧i+len≤xs.length then(bM (bM (dm d hp)) ((xs.drop i).take len)).map (.aB sz)else none
  |_=>none
 |_+1,_,_=>none
theorem lG {β γ:Type} {f:β→(γ→Bool)→Bool} {g:β→Option γ} (hf: ∀x k,f x k=true→ ∃y,g x=some y∧k y=true): ∀ {l:List β} {k:List γ→Bool},pO f l k=true→ ∃l',bM g l=some l'∧k l'=true
 | [],k,h=>⟨[],rfl,h⟩
 |x::r,k,h=>by
  simp only[pO]at h
  obtain⟨y,h1,h2⟩:=hf _ _ h
  obtain⟨l',h3,h4⟩:=lG hf h2
  exact⟨_,by simp only[bM,h1,h3],h4⟩
theorem BA: ∀ {d:Nat} {hp:HS} {c:C} {k:T→Bool},kn false d hp c k=true→ ∃t,dm d hp c=some t∧k t=true
 |d,hp, .t x,k,h=>⟨x,by cases d<;>rfl,by cases d<;>exact h⟩
 |0,hp, .own ..,k,h=>by simp[kn]at h
 |0,hp, .ptr ..,k,h=>by simp[kn]at h
 |0,hp, .uc ..,k,h=>by simp[kn]at h
 |0,hp, .jx ..,k,h=>by simp[kn]at h
 |0,hp, .any,k,h=>by simp[kn]at h
 |0,hp, .map _,k,h=>by simp[kn]at h
 |0,hp, .it _,k,h=>by simp[kn]at h
 |0,hp, .lR ..,k,h=>by simp[kn]at h
 |0,hp, .pk ..,k,h=>by simp[kn]at h
 |d+1,hp, .own id sz i len,k,h=>by
  simp only[kn]at h
  split at h
  · rename_i sz' xs hf
    obtain⟨hc,h⟩:=bj h
    simp only[Bool.and_eq_true,Nat.beq_eq,Nat.ble_eq]at hc
    obtain⟨ts,h1,h2⟩:=lG (fun x k h=>lG (fun y k h=>BA h) h) h
    exact⟨_,by simp only[dm,hf,if_pos hc,h1,Option.map_some],h2⟩
  · simp at h
 |d+1,hp, .ptr ..,k,h=>by simp[kn]at h
 |d+1,hp, .uc ..,k,h=>by simp[kn]at h
 |d+1,hp, .jx ..,k,h=>by simp[kn]at h
 |d+1,hp, .any,k,h=>by simp[kn]at h
 |d+1,hp, .map _,k,h=>by simp[kn]at h
 |d+1,hp, .it _,k,h=>by simp[kn]at h
 |d+1,hp, .lR ..,k,h=>by simp[kn]at h
 |d+1,hp, .pk ..,k,h=>by simp[kn]at h
theorem jd {β γ:Type} {g:β→Option γ}: ∀ {l:List β} {l':List γ},bM g l=some l'→l'.length=l.length
 | [],l',h=>by simp only[bM,Option.some.injEq]at h;subst h;rfl
 |x::r,l',h=>by
  simp only[bM]at h
  split at h
  · rename_i y l2 h1 h2
    simp only[Option.some.injEq]at h
    subst h
    simp[jd h2]
  · simp at h
theorem fK {β γ:Type} {g:β→Option γ}: ∀ {l:List β} {l':List γ},bM g l=some l'→ ∀ (i:Nat) (y:γ),l'[i]? =some y→ ∃x,l[i]? =some x∧g x=some y
 | [],l',h,i,y,hy=>by simp only[bM,Option.some.injEq]at h;subst h;simp at hy
 |x::r,l',h,i,y,hy=>by
  simp only[bM]at h
  split at h
  · rename_i y' l2 h1 h2
    simp only[Option.some.injEq]at h
    subst h
    cases i with
    |zero=>simp only[List.getElem?_cons_zero,Option.some.injEq]at hy;subst hy;exact⟨x,by simp,h1⟩
    |succ i=>obtain⟨x',h3,h4⟩:=fK h2 i y (by simpa using hy);exact⟨x',by simpa using h3,h4⟩
  · simp at h
variable {P:Program} {M A:Nat→Prop} {ρ:Env} {F:Nat→Prop} {st:St} {a:Act} {w:World}
theorem oQ (h:Rel M A ρ F st a w) {B:Nat→Prop} (X3: ∀b,B b→A b) (hB: ∀id blk b,find st.heap id=some blk→ρ id=some (.gz b)→¬B b):
 ∀ {d:Nat} {c:C} {t:T} {x:Value},dm d st.heap c=some t→RC w A ρ c x→RT w B t x
 |d, .t y,t,x,hf,hr=>by
  have:t=y:=by cases d<;>simpa[dm]using hf.symm
  subst this
  exact RT.keeps (w:=w) ⟨Nat.le_refl _,fun b _ hn=>⟨rfl,fun hb=>hn (X3 b hb)⟩⟩ hr
 |0, .own ..,t,x,hf,hr=>by simp[dm]at hf
 |0, .ptr ..,t,x,hf,hr=>by simp[dm]at hf
 |0, .uc ..,t,x,hf,hr=>by simp[dm]at hf
 |0, .jx ..,t,x,hf,hr=>by simp[dm]at hf
 |0, .any,t,x,hf,hr=>by simp[dm]at hf
 |0, .map _,t,x,hf,hr=>by simp[dm]at hf
 |0, .it _,t,x,hf,hr=>by simp[dm]at hf
 |0, .lR ..,t,x,hf,hr=>by simp[dm]at hf
 |0, .pk ..,t,x,hf,hr=>by simp[dm]at hf
 |d+1, .ptr ..,t,x,hf,hr=>by simp[dm]at hf
 |d+1, .uc ..,t,x,hf,hr=>by simp[dm]at hf
 |d+1, .jx ..,t,x,hf,hr=>by simp[dm]at hf
 |d+1, .any,t,x,hf,hr=>by simp[dm]at hf
 |d+1, .map _,t,x,hf,hr=>by simp[dm]at hf
 |d+1, .it _,t,x,hf,hr=>by simp[dm]at hf
 |d+1, .lR ..,t,x,hf,hr=>by simp[dm]at hf
 |d+1, .pk ..,t,x,hf,hr=>by simp[dm]at hf
 |d+1, .own id sz i len,t,x,hf,hr=>by
  simp only[dm]at hf
  split at hf
  · rename_i sz' xs Zy
    split at hf
    · rename_i hc
      simp only[Option.map_eq_some_iff]at hf
      obtain⟨ts,hts,rfl⟩:=hf
      have he:elems st.heap (.own id sz i len)=some (sz,(xs.drop i).take len):=by simp only[elems,Zy,if_pos hc]
      obtain⟨hsz,b0,ahW,hx0,Kb⟩:=jK h he hr
      by_cases hne:(xs.drop i).take len=[]
      · rw[hne]at hts
        simp only[bM,Option.some.injEq]at hts
        subst hts
        rw[hx0,hne]
        exact .nil
      · obtain⟨b,o,cap,rfl,hcell⟩:=jl h he hr hne
        simp only[Value.slice.injEq]at hx0
        obtain⟨_,_,rfl⟩:=hx0
        have hρ:ρ id=some (.gz b)∧b < w.heap.size:=by
         rcases hr with⟨b',cap',q,e',k1,k2,k3,k4,k5⟩|⟨_,_,h2,h3⟩
         · simp only[Value.slice.injEq,Option.some.injEq,Addr.mk.injEq]at k2
           obtain⟨⟨rfl,_⟩,_⟩:=k2
           refine⟨k1,?_⟩
           rcases Nat.lt_or_ge b w.heap.size with hlt|hge
           · exact hlt
           · simp[World.shape?,Array.getElem?_eq_none hge]at k4
         · simp at h3
        have Bv: ∀ (i':Nat) (e:List T) (j:Nat) (t:T),ts[i']? =some e→e[j]? =some t→ ∃y,w.cell? ⟨b,o+(i' * sz+j),none⟩=some y∧RT w B t y:=by
         intro i' e j t hi hj
         obtain⟨el,hel,hfe⟩:=fK hts i' e hi
         obtain⟨c,hcc,XL⟩:=fK hfe j t hj
         obtain⟨y,hy,hry,_⟩:=hcell i' el j c hel hcc
         exact⟨y,hy,oQ h X3 hB XL hry⟩
        have hE:RT w B (.aB sz ts) (.slice (some ⟨b,o,none⟩) ((xs.drop i).take len).length cap):=by
         refine .aB (fun i j=>(w.cell? ⟨b,o+(i * sz+j),none⟩).getD undef) (jd hts).symm Kb hρ.2 (hB id _ b Zy hρ.1) (fun e he'=>?_) (fun i e j t hi hj=>?_) (fun i e j t hi hj=>?_)
         · obtain⟨k,hk,hke⟩:=List.getElem_of_mem he'
           obtain⟨el,hel,hfe⟩:=fK hts k e (by rw[←hke];simp[hk])
           rw[jd hfe]
           exact hsz el (List.mem_of_getElem? hel)
         · obtain⟨y,hy,_⟩:=Bv i e j t hi hj
           rw[Nat.add_assoc,hy];rfl
         · obtain⟨y,hy,dB⟩:=Bv i e j t hi hj
           rw[hy];exact dB
        exact hE
    · simp at hf
  · simp at hf
def bY (hp:HS):W→Option W
 | .one c=>(dm 6 hp c).map fun t=> .one (.t t)
 | .agg cs=>(bM (dm 6 hp) cs).map fun ts=> .agg (ts.map .t)
theorem F8 {hp:HS} {u:W} {k:W→Bool} (h:Ki false hp u k=true): ∃u',bY hp u=some u'∧k u'=true:=by
 cases u with
 |one c=>obtain⟨t,h1,h2⟩:=BA h;exact⟨_,by simp only[bY,h1,Option.map_some],h2⟩
 |agg cs=>obtain⟨t,h1,h2⟩:=lG (fun x k h=>BA h) h;exact⟨_,by simp only[bY,h1,Option.map_some],h2⟩
theorem jY (h:Rel M A ρ F st a w) {B:Nat→Prop} (X3: ∀b,B b→A b) (hB: ∀id blk b,find st.heap id=some blk→ρ id=some (.gz b)→¬B b) {u u':W} {x:Value}
 (hf:bY st.heap u=some u') (hr:RW w A ρ u x) (ρ':Env):RW w B ρ' u' x:=by
 cases u with
 |one c=>
  simp only[bY,Option.map_eq_some_iff]at hf
  obtain⟨t,h1,rfl⟩:=hf
  exact⟨oQ h X3 hB h1 hr.1,hr.2⟩
 |agg cs=>
  simp only[bY,Option.map_eq_some_iff]at hf
  obtain⟨ts,h1,rfl⟩:=hf
  obtain⟨vs,rfl,h2,h3⟩:=hr
  refine⟨vs,rfl,by simp[jd h1,h2],fun k c y hk hy=>?_⟩
  simp only[List.getElem?_map,Option.map_eq_some_iff]at hk
  obtain⟨t,ht,rfl⟩:=hk
  obtain⟨c',EP,XL⟩:=fK h1 k t ht
  obtain⟨r1,r2⟩:=h3 k c' y EP hy
  exact⟨oQ h X3 hB XL r1,r2⟩
structure B4 where
 n:Nat
 code:Rc
 res:List Rv
 flat:Bool
 inl:Bool
def BZ (P:Program) (f:FuncId) (fr:B4):Prop:=
 ∃fn c,P.funcs[f]? =some fn∧fn.body=some c∧aS P c=some fr.code∧fn.ntmps=fr.n∧cQ P fn.results.toList=some fr.res∧gk fr.n fr.code=true
theorem vN {tm:Tr} {hp:HS}: ∀ {rs:List ResultVar} {V8:List Rv} {k:List W→Bool},cQ P rs=some V8→wF false tm hp V8 k=true→
 ∃us,(∀L,fe tm L→aN P hp L rs=some us)∧k us=true
 | [],V8,k,hr,h=>by
   simp only[cQ,Option.some.injEq]at hr
   subst hr
   exact⟨[],fun _ _=>rfl,h⟩
 | .tmp t::r,V8,k,hr,h=>by
   simp only[cQ]at hr
   split at hr
   · rename_i l hl
     simp only[Option.some.injEq]at hr
     subst hr
     simp only[wF]at h
     split at h
     · rename_i u hu
       obtain⟨us,h1,h2⟩:=vN hl h
       refine⟨u::us,fun L hL=>?_,h2⟩
       rw[←hL t]at hu
       simp only[aN,cz,hu,h1 L hL]
     · simp at h
   · simp at hr
 | .cell t ty::r,V8,k,hr,h=>by
   simp only[cQ]at hr
   split at hr
   · rename_i n l hn hl
     simp only[Option.some.injEq]at hr
     subst hr
     simp only[wF]at h
     split at h
     · rename_i c hc
       obtain⟨cs,j,h1,h2⟩:=Aa h
       obtain⟨u,h3,h4⟩:=kw (P:=P) hn (rq h2)
       simp only at h4
       obtain⟨us,h5,h6⟩:=vN hl h4
       refine⟨u::us,fun L hL=>?_,h6⟩
       rw[←hL t]at hc
       have dU:eG P ty (.w (.one c)) hp=some (.w u):=by simp only[eG,h1,h3,Option.map_some]
       simp only[aN,cz,hc,dU,h5 L hL]
     · simp at h
   · simp at hr
def CQ {α:Type}:Nat→List W→Tr→(Tr→α)→α
 |_,[],tm,k=>k tm
 |n,u::r,tm,k=>Tr.put (key n) tm (.w u) fun tm=>oT (n+1) fun m=>CQ m r tm k
def jT:Nat→List W→Tr→Tr
 |_,[],tm=>tm
 |n,u::r,tm=>jT (n+1) r (Tr.set (key n) tm (.w u))
theorem wZ {α:Type}: ∀ (us:List W) (n:Nat) (tm:Tr) (k:Tr→α),CQ n us tm k=k (jT n us tm)
 | [],n,tm,k=>rfl
 |u::r,n,tm,k=>by simp only[CQ,jT,Tr.put_eq,dM,wZ r]
theorem zO: ∀ (us:List W) (n:Nat) (tm:Tr) (L:TS),fe tm L→(∀t,n≤t→find L t=none)→fe (jT n us tm) (df n us++L)
 | [],n,tm,L,h,_=>h
 |u::r,n,tm,L,h,hn=>by
  have ih:=zO r (n+1) (Tr.set (key n) tm (.w u)) ((n, .w u)::L) (h.put (some n) (.w u)) (fun t ht=>by rw[aA,if_neg (by omega)];exact hn t (by omega))
  intro t
  rw[jT, ←ih t]
  simp only[df,List.cons_append,aA,cO]
  by_cases e:n=t
  · subst e
    have:find (df (n+1) r) n=none:=by
     cases h':find (df (n+1) r) n with
     |none=>rfl
     |some v=>have:=(fg _ _ _ _ h').1;omega
    simp[this]
  · simp[e]
theorem HG (us:List W):fe (jT 0 us .nil) (df 0 us):=by
 have:=zO us 0 .nil [] (fun t=>by rw[Tr.vT];rfl) (fun t _=>rfl)
 simpa using this
theorem Rel.toM {M':Nat→Prop} (h:Rel M' A ρ F st a w) (hM: ∀b,M' b→M b) (hmay: ∀b,w.heap.size≤b→M b) (RS:BY M A w):Rel M A ρ F st a w:=by
 refine⟨h.size,h.defers,h.tmps,fun id blk hb=>?_,h.inj,h.fresh,h.bound,hmay,RS⟩
 have:=h.heap id blk hb
 cases blk with
 |row sz xs=>
  obtain⟨h1,h2⟩:=this
  refine⟨h1,?_⟩
  rcases h2 with⟨b,c,e,k1,k2,k3⟩|h2
  · exact .inl ⟨b,c,e,k1,hM b k2,k3⟩
  · exact .inr h2
 |mp es clock=>
  obtain⟨b,en,k1,k2,k3⟩:=this
  exact⟨b,en,k1,hM b k2,k3⟩
theorem Rel.own {id:Nat} {blk:bA} {b:Nat} (h:Rel M A ρ F st a w) (hf:find st.heap id=some blk) (hρ:ρ id=some (.gz b)):M b∧A b∧b < w.heap.size:=by
 have:=(h.heap id blk hf).lt hρ
 exact⟨this.2.1,this.2.2,this.1⟩
def uu (e:Exit):Prop:=e= .normal∨e= .ret
theorem xS {f:FuncId} {fr:B4} (hok:BZ P f fr) {us:List W} {hp aG:HS} {ctr bz:Nat} {e:Exit} {bg:Tr} {vs:List W} (hn:us.length≤fr.n) (he:uu e)
 (hrun: ∀c,(∃fn,P.funcs[f]? =some fn∧fn.body=some c)→TX P fr.n c (jT 0 us .nil) hp ctr e bg aG bz) (hres: ∀fn,P.funcs[f]? =some fn→ ∀L,fe bg L→aN P aG L fn.results.toList=some vs)
 {M A:Nat→Prop} {ρ:Env} {w:World} {xs:Array Value} (hr:HR M A ρ (bu ctr) hp w) (hx:BW w A ρ us xs.toList):
 Calls P f xs w fun e w'=> ∃x A' ρ',e= .returned x∧HR M A' ρ' (bu bz) aG w'∧RV w' A' ρ' (aL vs) x∧dj M w w'∧cZ ρ ρ'∧bH A A' w:=by
 obtain⟨fn,c,hf,hb,hrc,hnt,LJ,hds⟩:=hok
 refine calls_of_wp hf hb ?_
 have hl:us.length=xs.size:=by simpa using hx.1
 have cI:Rel M A ρ (bu ctr) ⟨fr.n,df 0 us,hp⟩ {tmps:=xs++Array.replicate (fn.ntmps - xs.size) undef,defers:=[]} w:=by
  refine⟨by simp;omega,rfl,fun t v hv=>?_,hr.heap,hr.inj,hr.fresh,hr.bound,hr.may,hr.ep⟩
  obtain⟨_,u,hu,rfl⟩:=fg _ _ _ _ hv
  simp only[Nat.sub_zero]at hu
  have ht:t < xs.size:=by rw[←hl];exact(List.getElem?_eq_some_iff.1 hu).1
  have EH:xs.toList[t]? =some xs[t]:=by simp[ht]
  have:=hx.2 t u _ hu EH
  have e:(xs++Array.replicate (fn.ntmps - xs.size) undef).getD t undef=xs[t]:=by simp[Array.getD_eq_getD_getElem?,Array.getElem?_append_left ht,ht]
  rw[e]
  exact this
 refine wp_mono (hrun c ⟨fn,hf,hb⟩ M A ρ _ w _ (HG us) cI) ?_
 rintro e2 a' w' ⟨rfl,L',A',ρ',hL',dB,dU,cJ,hg⟩
 have gO:=hres fn hf L' hL'
 obtain⟨ws,hvs,hR⟩:=eY dB gO
 have hm:(fn.results.mapM fun(r:ResultVar)=>match r with
  | .tmp t=>(pure (a'.tmps.getD t undef):Sem Value)
  | .cell b t=>do loadVar t (←asAddr (a'.tmps.getD b undef))).run P w'= .ok ws.toArray w':=by
  rw[Array.mapM_eq_mapM_toList]
  simp only[Sem.run_map]
  exact(congrArg (fun r:Result (List Value)=>Result.andThen r fun a w'=>Result.ok a.toArray w') hvs).trans rfl
 have hrun:(results fn a'.tmps).run P w'= .ok (if h:ws.toArray.size=1 then ws.toArray[0]else .tuple ws.toArray) w':=by
  show(Bind.bind (fn.results.mapM fun(r:ResultVar)=>match r with
   | .tmp t=>(pure (a'.tmps.getD t undef):Sem Value)
   | .cell b t=>do loadVar t (←asAddr (a'.tmps.getD b undef))) fun vs=>Pure.pure (if h:vs.size=1 then vs[0]else .tuple vs)).run P w'=_
  rw[Sem.run_bind,hm]
  rfl
 have fin:a'.defers=[]∧ ∃v,(results fn a'.tmps).run P w'= .ok v w'∧ ∃x A' ρ',Ending.returned v= .returned x∧HR M A' ρ' (bu bz) aG w'∧RV w' A' ρ' (aL vs) x∧dj M w w'∧cZ ρ ρ'∧bH A A' w:=by
  refine⟨dB.defers,_,hrun,_,A',ρ',rfl,⟨rfl,rfl,fun t v hv=>by simp[find]at hv,dB.heap,dB.inj,dB.fresh,dB.bound,dB.may,dB.ep⟩,?_,dU,cJ,hg⟩
  match vs,ws,hR with
  | [],[],_=>exact⟨#[],by simp,rfl,by simp⟩
  | [u],[v],hR=>exact hR.2 0 u v rfl rfl
  |u::u2::r,v::v2::s,hR=>
   have hne:¬ (v::v2::s).toArray.size=1:=by simp
   simp only[hne,dite_false]
   exact⟨_,rfl,by simpa using hR.1,fun k x y hx hy=>hR.2 k x y hx (by simpa using hy)⟩
  | [],_::_,hR=>exact absurd hR.1 (by simp)
  |_::_,[],hR=>exact absurd hR.1 (by simp)
  | [_],_::_::_,hR=>exact absurd hR.1 (by simp)
  |_::_::_,[_],hR=>exact absurd hR.1 (by simp)
 rcases he with rfl|rfl
 · exact fin
 · exact fin
theorem xP {f:FuncId} {fr:B4} (hok:BZ P f fr) {us:List W} {hp aG:HS} {ctr bz:Nat} {e:Exit} {bg:Tr} {vs:List W} (hn:us.length≤fr.n) (he:uu e)
 (hrun: ∀c,(∃fn,P.funcs[f]? =some fn∧fn.body=some c)→TX P fr.n c (jT 0 us .nil) hp ctr e bg aG bz) (hres: ∀fn,P.funcs[f]? =some fn→ ∀L,fe bg L→aN P aG L fn.results.toList=some vs):
 gE P f us hp ctr (aL vs) aG bz:=by
 intro M A ρ a w n L xs hr hx
 let M':Nat→Prop:=fun b=>(M b∧A b)∨w.heap.size≤b
 have hH:HR M' A ρ (bu ctr) hp w:=by
  refine⟨rfl,rfl,fun t v hv=>by simp[find]at hv,fun id blk hb=>?_,hr.inj,hr.fresh,hr.bound,fun b hb=> .inr hb,hr.ep.sub (fun b hb hm=>hm.elim (fun h=>h.1) (fun h=>by omega)) (fun _ h=>h)⟩
  have:=hr.heap id blk hb
  cases blk with
  |row sz ys=>
   obtain⟨h1,h2⟩:=this
   refine⟨h1,?_⟩
   rcases h2 with⟨b,c,e,k1,k2,k3,k4⟩|h2
   · exact .inl ⟨b,c,e,k1, .inl ⟨k2,k3⟩,k3,k4⟩
   · exact .inr h2
  |mp es clock=>
   obtain⟨b,en,k1,k2,k3,k4⟩:=this
   exact⟨b,en,k1, .inl ⟨k2,k3⟩,k3,k4⟩
 refine(xS hok hn he hrun hres hH hx).mono ?_
 rintro e w' ⟨x,A',ρ',rfl,h1,h2,h3,h4,h5⟩
 have hM: ∀b,M' b→M b:=fun b hb=>hb.elim (fun h=>h.1) (hr.may b)
 have hmay: ∀b,w'.heap.size≤b→M b:=fun b hb=>hr.may b (Nat.le_trans h3.size hb)
 have hk:eK A A' w w':=⟨h3.size,fun b hb J4=>⟨h3.block b hb (fun hm=>by
  rcases hm with hm|hm
  · exact J4 hm.2
  · omega),fun hA=>J4 (h5.2 b hb hA)⟩⟩
 refine⟨x,A',ρ',rfl,?_,h2,h3.weaken (fun i _ ho=>hM i ho),h4,h5⟩
 have TG:=h1.toM hM hmay (hr.ep.Ig (h3.weaken (fun i _ ho=>hM i ho)) h5.2)
 exact⟨hr.size,hr.defers,fun t v hv=>(hr.tmps t v hv).keeps hk h3.shape h4,TG.heap,TG.inj,TG.fresh,TG.bound,TG.may,TG.ep⟩
theorem Ia {f:FuncId} {fr:B4} (hok:BZ P f fr) {us:List W} {aG:HS} {bz:Nat} {e:Exit} {bg:Tr} {vs ts:List W} (hn:us.length≤fr.n) (he:uu e)
 (hrun: ∀c,(∃fn,P.funcs[f]? =some fn∧fn.body=some c)→TX P fr.n c (jT 0 us .nil) [] 4 e bg aG bz) (hres: ∀fn,P.funcs[f]? =some fn→ ∀L,fe bg L→aN P aG L fn.results.toList=some vs)
 (hts:bM (bY aG) vs=some ts):Fn P f us [] (aL ts) []:=by
 intro w A ρ xs hH hxs
 refine(xS hok hn he hrun hres hH hxs).mono ?_
 rintro e w' ⟨x,A',ρ',rfl,h1,h2,h3,h4,h5⟩
 have hB: ∀id blk b,find aG id=some blk→ρ' id=some (.gz b)→¬A b:=by
  intro id blk b hf hρ hA
  have hM:=(h1.own hf hρ).1
  rcases hM with⟨id',gf,mD,_⟩|hM
  · simp[find]at mD
  · have:=hH.bound b hA
    omega
 refine⟨x,A,ρ,bu 4,rfl,?_,⟨rfl,rfl,fun t v hv=>by simp[find]at hv,fun id blk hb=>by simp[find]at hb,fun id id' b b' q hb=>by simp[find]at hb,hH.fresh,fun b hb=>Nat.lt_of_lt_of_le (hH.bound b hb) h3.size,fun b hb=> .inr (Nat.le_trans h3.size hb),hH.ep.Ig h3 (fun _ _ h=>h)⟩,h3,iZ.refl _,bH.refl _ _⟩
 have hlen:=jd hts
 have one: ∀ (k:Nat) (u:W) (y:Value),ts[k]? =some u→(∀v,vs[k]? =some v→RW w' A' ρ' v y)→RW w' A ρ u y:=by
  intro k u y hu hv
  obtain⟨v,kB,HP⟩:=fK hts k u hu
  exact jY (st:=⟨0,[],aG⟩) h1 (fun b hb=>h5.1 b hb) hB HP (hv v kB) ρ
 match vs,ts,hlen with
 | [],[],_=>
   obtain⟨ys,h6,h7,_⟩:=h2
   exact⟨ys,h6,h7,fun k u y hu=>by simp at hu⟩
 | [v],[u],_=>exact one 0 u x rfl (fun v' kB=>by simp only[List.getElem?_cons_zero,Option.some.injEq]at kB;subst kB;exact h2)
 |v::v2::r,u::u2::s,hlen=>
  obtain⟨ys,rfl,h6,h7⟩:=h2
  refine⟨ys,rfl,by rw[←h6];simpa using hlen,fun k u' y hu hy=>one k u' y hu (fun v' kB=>h7 k v' y kB hy)⟩
 | [],_::_,hlen=>simp at hlen
 |_::_,[],hlen=>simp at hlen
 | [_],_::_::_,hlen=>simp at hlen
 |_::_::_,[_],hlen=>simp at hlen
def yW (us:List W):Bool:=us.all W.bL
theorem qi {n:Nat} {u:W} (h:u.bL=true):u.up n=u:=by
 cases u with
 |one c=>cases c<;>simp[W.bL,C.bL]at h;rfl
 |agg cs=>
  simp only[W.bL,List.all_eq_true]at h
  simp only[W.up,W.agg.injEq]
  have: ∀c,c∈cs→c.up n=id c:=by
   intro c hc
   have:=h c hc
   cases c<;>simp[C.bL]at this
   rfl
  rw[List.map_congr_left this];simp
theorem gU {hp:HS} {u u':W} (h:bY hp u=some u'):u'.bL=true:=by
 cases u with
 |one c=>
  simp only[bY,Option.map_eq_some_iff]at h
  obtain⟨t,_,rfl⟩:=h
  rfl
 |agg cs=>
  simp only[bY,Option.map_eq_some_iff]at h
  obtain⟨t,_,rfl⟩:=h
  simp[W.bL,C.bL]
def V.bL:V→Bool
 | .w u=>u.bL
 | .eW ws=>ws.all W.bL
 | .undef=>false
theorem V.qi {n:Nat} {v:V} (h:v.bL=true):v.up n=v:=by
 cases v with
 |w u=>simp only[V.bL]at h;simp only[V.up,Go.aT.qi h]
 |eW ws=>
  simp only[V.bL,List.all_eq_true]at h
  simp only[V.up,V.eW.injEq]
  have: ∀c,c∈ws→c.up n=id c:=fun c hc=>Go.aT.qi (h c hc)
  rw[List.map_congr_left this];simp
 |undef=>rfl
theorem wE {ts:List W} (h:ts.all W.bL=true):(aL ts).bL=true:=by
 match ts with
 | []=>rfl
 | [u]=>simpa[aL,V.bL]using h
 |_::_::_=>simpa only[aL,V.bL]using h
def C.plain:C→Bool
 | .t (.val (.int ..))| .t (.val (.bool _))| .t (.val (.string _))=>true
 |_=>false
def W.plain:W→Bool
 | .one c=>c.plain
 | .agg cs=>cs.all C.plain
def V.plain:V→Bool
 | .w u=>u.plain
 | .eW ws=>ws.all W.plain
 | .undef=>false
end Go.aT
end
section
namespace Go.aT
open Go
section
variable {α:Type} (bad:α)
def qg (P:Program) (call:uT α) (dG:uU α) (fuel:Nat) (fr:B4) (us:List W) (k:V→α):α:=
 gR (Nat.ble us.length fr.n) (CQ 0 us .nil fun tm=>E bad call dG P fuel fr.code (fun e bg aG _=>match e with
  | .normal=>wF bad bg aG fr.res fun vs=>pO (Ki bad aG) vs fun ts=>k (aL ts)
  | .ret=>wF bad bg aG fr.res fun vs=>pO (Ki bad aG) vs fun ts=>k (aL ts)
  |_=>bad) tm [] 4) bad
def Bj (P:Program) (call:uT α) (dG:uU α) (fuel:Nat) (fr:B4) (us:List W) (hp:HS) (ctr:Nat) (K:V→HS→Nat→α):α:=
 gR (Nat.ble us.length fr.n) (CQ 0 us .nil fun tm=>E bad call dG P fuel fr.code (fun e bg aG bz=>match e with
  | .normal=>wF bad bg aG fr.res fun vs=>K (aL vs) aG bz
  | .ret=>wF bad bg aG fr.res fun vs=>K (aL vs) aG bz
  |_=>bad) tm hp ctr) bad
variable (P:Program) (iL:Nat→Option B4) (FG:Nat→List W→Option V) (fuel:Nat)
def cG:Nat→uT α×uU α
 |0=>(fun _ _ _ _ _=>bad,fun _ _ _ _ _=>bad)
 |d+1=>
  (fun f us hp ctr K=>match iL f with
    |some fr=>gR fr.inl (Bj bad P (cG d).1 (cG d).2 fuel fr us hp ctr K)
      (gR (yW us) (match FG f us with
        |some v=>oT (ctr+4) fun c=>K v hp c
        |none=>qg bad P (cG d).1 (cG d).2 fuel fr us fun v=>oT (ctr+4) fun c=>K v hp c)
      (gR (fr.flat&& (bM (bY hp) us).isSome) (pO (Ki bad hp) us fun ts=>match FG f ts with
        |some v=>gR v.flat (oT (ctr+4) fun c=>K v hp c) bad
        |none=>qg bad P (cG d).1 (cG d).2 fuel fr ts fun v=>gR v.flat (oT (ctr+4) fun c=>K v hp c) bad)
      (Bj bad P (cG d).1 (cG d).2 fuel fr us hp ctr K)))
    |none=>bad,
   fun f us hp _ K=>match iL f with
    |some fr=>gR (yW us) (match FG f us with
      |some v=>K v hp
      |none=>qg bad P (cG d).1 (cG d).2 fuel fr us fun v=>K v hp)
      (match jr hp us with
        |some ts=>match FG f ts with
         |some v=>gR v.flat (K v hp) bad
         |none=>qg bad P (cG d).1 (cG d).2 fuel fr ts fun v=>gR v.flat (K v hp) bad
        |none=>bad)
    |none=>bad)
end
variable {P:Program}
theorem hJ {f:FuncId} {us:List W} {hp:HS} {ctr:Nat} {v:V} (hv:v.bL=true) (hT:yW us=true) (h:Fn P f us [] v []):eU P hp ctr f us v hp:=
 .inl ⟨v,[],us,h.toF,(V.qi hv).symm,rfl, .inl ⟨rfl,hT⟩⟩
theorem uM {f:FuncId} {us ts:List W} {hp:HS} {ctr:Nat} {v:V} (hv:v.bL=true) (hl:jr hp us=some ts) (hfl:v.flat=true) (h:Fn P f ts [] v []):eU P hp ctr f us v hp:=
 .inl ⟨v,[],ts,h.toF,(V.qi hv).symm,rfl, .inr ⟨hl,hfl,fun id blk hb=>by simp[find]at hb⟩⟩
theorem mL {f:FuncId} {us ts:List W} {hp:HS} {ctr:Nat} {v:V} (hv:v.bL=true) (hl:bM (bY hp) us=some ts) (hfl:v.flat=true) (hfn:Fn P f ts [] v []):gE P f us hp ctr v hp (ctr+4):=by
 intro M A ρ a w n L xs h hx
 have hM: ∀ (ρ0:Env),(fun b=>qS ρ0 [] b∨w.heap.size≤b)=fun b=>w.heap.size≤b:=by
  intro ρ0
  funext b
  simp[qS,find]
 have empty:HR (fun b=>qS (fun _=>none) [] b∨w.heap.size≤b) (fun _=>False) (fun _=>none) (bu 4) [] w:=
  ⟨rfl,rfl,fun t v hv=>by simp[find]at hv,fun id b hb=>by simp[find]at hb,fun id id' b b' c hb=>by simp[find]at hb,fun _ _=>rfl,fun _ h=>h.elim,fun b hb=> .inr hb,h.ep.sub (fun b hb hm=>hm.elim (fun ho=>by obtain⟨_,_,hf,_⟩:=ho;simp[find]at hf) (fun hl=>by omega)) (fun _ h=>h.elim)⟩
 have hx':BW w (fun _=>False) (fun _=>none) ts xs.toList:=⟨(jd hl).trans hx.1,fun k u x hu EH=>by
  obtain⟨c,hc,hlc⟩:=fK hl k u hu
  exact jY (st:=⟨n,L,hp⟩) h (fun _ hb=>hb.elim) (fun _ _ _ _ _ hb=>hb) hlc (hx.2 k c x hc EH) _⟩
 refine(hfn w (fun _=>False) (fun _=>none) xs empty hx').mono ?_
 rintro e w' ⟨x,A1,ρ1,F1,rfl,Xa,hr,dU,_,hg⟩
 rw[hM]at hr dU
 obtain⟨A2,ρ2,r1,r2,r3,r4,r5⟩:=Rel.import (st:=⟨n,L,hp⟩) h (nid:=ctr) (fun k h1 _=>h1) dU hr (fun b hb hA=>(hg.2 b hb hA).elim) Xa (.inr ⟨hfl,fun id blk hb=>by simp[find]at hb⟩)
 rw[V.qi hv]at r2
 exact⟨x,A2,ρ2,rfl,r1.sub iw,r2,r3,r4,r5⟩
theorem iu {call:uT Bool} {dG:uU Bool} {fuel:Nat} (hc:oH P call) (hd:kN P dG) {f:FuncId} {fr:B4} (hok:BZ P f fr) {us:List W} {k:V→Bool}
 (h:qg false P call dG fuel fr us k=true): ∃v,Fn P f us [] v []∧v.bL=true∧k v=true:=by
 unfold qg at h
 obtain⟨hn,h⟩:=bj h
 simp only[Nat.ble_eq]at hn
 rw[wZ]at h
 obtain⟨fn,c,hf,hb,hrc,hnt,LJ,hds⟩:=hok
 obtain⟨e,bg,aG,bz,h1,h2⟩:=GO (P:=P) hc hd hrc hds h
 have hrun: ∀c',(∃fn,P.funcs[f]? =some fn∧fn.body=some c')→TX P fr.n c' (jT 0 us .nil) [] 4 e bg aG bz:=by
  rintro c' ⟨fn',mD,hb'⟩
  rw[hf]at mD
  simp only[Option.some.injEq]at mD
  subst mD
  rw[hb]at hb'
  simp only[Option.some.injEq]at hb'
  subst hb'
  exact h2
 have fin:uu e→wF false bg aG fr.res (fun vs=>pO (Ki false aG) vs fun ts=>k (aL ts))=true→ ∃v,Fn P f us [] v []∧v.bL=true∧k v=true:=by
  intro he hr
  obtain⟨vs,h3,h4⟩:=vN LJ hr
  obtain⟨ts,h5,h6⟩:=lG (fun x k h=>F8 h) h4
  refine⟨aL ts,Ia ⟨fn,c,hf,hb,hrc,hnt,LJ,hds⟩ hn he hrun (fun fn' mD=>?_) h5,?_,h6⟩
  · rw[hf]at mD
    simp only[Option.some.injEq]at mD
    subst mD
    exact h3
  · refine wE ?_
    rw[List.all_eq_true]
    intro u hu
    obtain⟨k',hk',hke⟩:=List.getElem_of_mem hu
    obtain⟨v,_,HP⟩:=fK h5 k' u (by rw[←hke];simp[hk'])
    exact gU HP
 cases e with
 |normal=>exact fin (.inl rfl) h1
 |ret=>exact fin (.inr rfl) h1
 |_=>simp at h1
theorem rG {call:uT Bool} {dG:uU Bool} {fuel:Nat} (hc:oH P call) (hd:kN P dG) {f:FuncId} {fr:B4} (hok:BZ P f fr) {us:List W} {hp:HS} {ctr:Nat} {K:V→HS→Nat→Bool}
 (h:Bj false P call dG fuel fr us hp ctr K=true): ∃v aG bz,gE P f us hp ctr v aG bz∧K v aG bz=true:=by
 unfold Bj at h
 obtain⟨hn,h⟩:=bj h
 simp only[Nat.ble_eq]at hn
 rw[wZ]at h
 obtain⟨fn,c,hf,hb,hrc,hnt,LJ,hds⟩:=hok
 obtain⟨e,bg,aG,bz,h1,h2⟩:=GO (P:=P) hc hd hrc hds h
 have hrun: ∀c',(∃fn,P.funcs[f]? =some fn∧fn.body=some c')→TX P fr.n c' (jT 0 us .nil) hp ctr e bg aG bz:=by
  rintro c' ⟨fn',mD,hb'⟩
  rw[hf]at mD
  simp only[Option.some.injEq]at mD
  subst mD
  rw[hb]at hb'
  simp only[Option.some.injEq]at hb'
  subst hb'
  exact h2
 have fin:uu e→wF false bg aG fr.res (fun vs=>K (aL vs) aG bz)=true→ ∃v aG bz,gE P f us hp ctr v aG bz∧K v aG bz=true:=by
  intro he hr
  obtain⟨vs,h3,h4⟩:=vN LJ hr
  refine⟨aL vs,aG,bz,xP ⟨fn,c,hf,hb,hrc,hnt,LJ,hds⟩ hn he hrun (fun fn' mD=>?_),h4⟩
  rw[hf]at mD
  simp only[Option.some.injEq]at mD
  subst mD
  exact h3
 cases e with
 |normal=>exact fin (.inl rfl) h1
 |ret=>exact fin (.inr rfl) h1
 |_=>simp at h1
def GM (P:Program) (iL:Nat→Option B4):Prop:= ∀f fr,iL f=some fr→BZ P f fr
def cg (P:Program) (FG:Nat→List W→Option V):Prop:= ∀f us v,FG f us=some v→Fn P f us [] v []∧v.bL=true
theorem uy {iL:Nat→Option B4} {FG:Nat→List W→Option V} {fuel:Nat} (HT:GM P iL) (EJ:cg P FG): ∀d,oH P (cG false P iL FG fuel d).1∧kN P (cG false P iL FG fuel d).2
 |0=>⟨fun f us hp ctr K h=>by simp[cG]at h,fun f us hp ctr K h=>by simp[cG]at h⟩
 |d+1=>by
  obtain⟨TD,TC⟩:=uy HT EJ (fuel:=fuel) d
  refine⟨fun f us hp ctr K h=>?_,fun f us hp ctr K h=>?_⟩
  · simp only[cG]at h
    split at h
    · rename_i fr hfr
      have hok:=HT f fr hfr
      cases hi:fr.inl with
      |true=>
       rw[hi]at h
       exact rG TD TC hok h
      |false=>
       rw[hi]at h
       simp only[gR]at h
       cases hT:yW us with
       |true=>
        rw[hT]at h
        simp only at h
        split at h
        · rename_i v hv
          rw[dM]at h
          obtain⟨h1,h2⟩:=EJ f us v hv
          exact⟨v,hp,ctr+4,oC (hJ h2 hT h1),h⟩
        · obtain⟨v,h1,h2,h3⟩:=iu TD TC hok h
          rw[dM]at h3
          exact⟨v,hp,ctr+4,oC (hJ h2 hT h1),h3⟩
       |false=>
        rw[hT]at h
        simp only at h
        cases hfl:(fr.flat&& (bM (bY hp) us).isSome)with
        |true=>
         rw[hfl]at h
         simp only at h
         obtain⟨ts,hts,h⟩:=lG (fun x k h=>F8 h) h
         split at h
         · rename_i v hv
           have HL:v.flat=true∧(oT (ctr+4) fun c=>K v hp c)=true:=bj h
           rw[dM]at HL
           obtain⟨h1,h2⟩:=EJ f ts v hv
           exact⟨v,hp,ctr+4,mL h2 hts HL.1 h1,HL.2⟩
         · obtain⟨v,h1,h2,h3⟩:=iu TD TC hok h
           have HL:v.flat=true∧(oT (ctr+4) fun c=>K v hp c)=true:=bj h3
           rw[dM]at HL
           exact⟨v,hp,ctr+4,mL h2 hts HL.1 h1,HL.2⟩
        |false=>
         rw[hfl]at h
         exact rG TD TC hok h
    · simp at h
  · simp only[cG]at h
    split at h
    · rename_i fr hfr
      have hok:=HT f fr hfr
      cases hT:yW us with
      |true=>
       rw[hT]at h
       simp only[gR]at h
       split at h
       · rename_i v hv
         obtain⟨h1,h2⟩:=EJ f us v hv
         exact⟨v,hp,hJ h2 hT h1,h⟩
       · obtain⟨v,h1,h2,h3⟩:=iu TD TC hok h
         exact⟨v,hp,hJ h2 hT h1,h3⟩
      |false=>
       rw[hT]at h
       simp only[gR]at h
       split at h
       · rename_i ts hts
         split at h
         · rename_i v hv
           have HL:v.flat=true∧K v hp=true:=bj h
           obtain⟨h1,h2⟩:=EJ f ts v hv
           exact⟨v,hp,uM h2 hts HL.1 h1,HL.2⟩
         · obtain⟨v,h1,h2,h3⟩:=iu TD TC hok h
           have HL:v.flat=true∧K v hp=true:=bj h3
           exact⟨v,hp,uM h2 hts HL.1 h1,HL.2⟩
       · simp at h
    · simp at h
def Kx:Value→Value→Bool
 | .int k a, .int k' b=>Nat.beq (ED k) (ED k')&&Sr a b
 | .bool a, .bool b=>a==b
 | .string a, .string b=>a.data.toList==b.data.toList
 | .slice none 0 0, .slice none 0 0=>true
 |_,_=>false
theorem Kw {a b:Value} (h:Kx a b=true):a=b:=by
 unfold Kx at h
 split at h
 · simp only[Bool.and_eq_true,Kz,beq_iff_eq]at h
   rw[F3 h.1,h.2]
 · simp only[beq_iff_eq]at h;rw[h]
 · rename_i a b
   simp only[beq_iff_eq]at h
   congr 1
   cases a;cases b
   congr 1
   exact Array.toList_inj.1 h
 · rfl
 · simp at h
mutual
def Sq:T→T→Bool
 | .val a, .val b=>Kx a b
 | .aB sz xs, .aB sz' ys=>Nat.beq sz sz'&&z7 xs ys
 |_,_=>false
def Ii:List T→List T→Bool
 | [],[]=>true
 |a::r,b::s=>Sq a b&&Ii r s
 |_,_=>false
def z7:Lz→Lz→Bool
 | [],[]=>true
 |a::r,b::s=>Ii a b&&z7 r s
 |_,_=>false
end
mutual
theorem Ky: ∀ {a b:T},Sq a b=true→a=b
 | .val a, .val b,h=>by simp only[Sq]at h;rw[Kw h]
 | .aB sz xs, .aB sz' ys,h=>by
   simp only[Sq,Bool.and_eq_true,Nat.beq_eq]at h
   rw[h.1,Dk h.2]
 | .val _, .aB ..,h=>by simp[Sq]at h
 | .aB .., .val _,h=>by simp[Sq]at h
theorem Gg: ∀ {a b:List T},Ii a b=true→a=b
 | [],[],_=>rfl
 |a::r,b::s,h=>by
  simp only[Ii,Bool.and_eq_true]at h
  rw[Ky h.1,Gg h.2]
 | [],_::_,h=>by simp[Ii]at h
 |_::_,[],h=>by simp[Ii]at h
theorem Dk: ∀ {a b:Lz},z7 a b=true→a=b
 | [],[],_=>rfl
 |a::r,b::s,h=>by
  simp only[z7,Bool.and_eq_true]at h
  rw[Gg h.1,Dk h.2]
 | [],_::_,h=>by simp[z7]at h
 |_::_,[],h=>by simp[z7]at h
end
def ZK:C→C→Bool
 | .t a, .t b=>Sq a b
 |_,_=>false
def Ij:List C→List C→Bool
 | [],[]=>true
 |a::r,b::s=>ZK a b&&Ij r s
 |_,_=>false
def ZJ:W→W→Bool
 | .one a, .one b=>ZK a b
 | .agg a, .agg b=>Ij a b
 |_,_=>false
def Dj:List W→List W→Bool
 | [],[]=>true
 |a::r,b::s=>ZJ a b&&Dj r s
 |_,_=>false
def eqV:V→V→Bool
 | .w a, .w b=>ZJ a b
 | .eW a, .eW b=>Dj a b
 |_,_=>false
theorem KA {a b:C} (h:ZK a b=true):a=b:=by
 cases a<;>cases b<;>simp[ZK]at h
 rw[Ky h]
theorem Gh: ∀ {a b:List C},Ij a b=true→a=b
 | [],[],_=>rfl
 |a::r,b::s,h=>by
  simp only[Ij,Bool.and_eq_true]at h
  rw[KA h.1,Gh h.2]
 | [],_::_,h=>by simp[Ij]at h
 |_::_,[],h=>by simp[Ij]at h
theorem Kv {a b:W} (h:ZJ a b=true):a=b:=by
 cases a<;>cases b<;>simp[ZJ]at h
 · rw[KA h]
 · rw[Gh h]
theorem BF: ∀ {a b:List W},Dj a b=true→a=b
 | [],[],_=>rfl
 |a::r,b::s,h=>by
  simp only[Dj,Bool.and_eq_true]at h
  rw[Kv h.1,BF h.2]
 | [],_::_,h=>by simp[Dj]at h
 |_::_,[],h=>by simp[Dj]at h
theorem Sn {a b:V} (h:eqV a b=true):a=b:=by
 cases a<;>cases b<;>simp[eqV]at h
 · rw[Kv h]
 · rw[BF h]
theorem bc {iL:Nat→Option B4} {FG:Nat→List W→Option V} {fuel d:Nat} (HT:GM P iL) (EJ:cg P FG) {f:FuncId} {fr:B4} (hfr:iL f=some fr) {us:List W} {v:V}
 (h:qg false P (cG false P iL FG fuel d).1 (cG false P iL FG fuel d).2 fuel fr us (fun v'=>eqV v' v)=true):Fn P f us [] v []∧v.bL=true:=by
 obtain⟨h1,h2⟩:=uy HT EJ (fuel:=fuel) d
 obtain⟨v',h3,h4,h5⟩:=iu h1 h2 (HT f fr hfr) h
 have:=Sn h5
 subst this
 exact⟨h3,h4⟩
end Go.aT
end
section
namespace Go.aT
open Go
variable {P:Program} {M A:Nat→Prop} {ρ:Env} {F:Nat→Prop} {st:St} {a:Act} {w:World}
theorem lT.O5 {ops:Array Oper} {i:Nat} {K:St→Nat→Prop} {ctr:Nat} (h:lT P ops i K st ctr): ∃st' c',K st' c'∧lT P ops i (fun s c=>s=st'∧c=c') st ctr:=by
 unfold lT at h⊢
 split at h
 · exact⟨st,ctr,h,⟨rfl,rfl⟩⟩
 · obtain⟨hd,h⟩:=h
   split at h
   · exact h.elim
   · rename_i hg
     exact⟨_,_,h,hd,by simp only[hg];exact⟨trivial,trivial⟩⟩
   · rename_i hg
     rcases h with h|h
     · obtain⟨g,us,hc,he,v,heap',c',h1,h2⟩:=h
       exact⟨_,_,h2,hd,by simp only[hg];refine .inl ⟨g,us,hc,he,v,heap',c',h1,?_⟩;first|trivial|exact⟨rfl,rfl⟩|exact⟨trivial,trivial⟩⟩
     · obtain⟨v,heap',h1,h2⟩:=h
       exact⟨_,_,h2,hd,by simp only[hg];refine .inr ⟨v,heap',h1,?_⟩;first|trivial|exact⟨rfl,rfl⟩|exact⟨trivial,trivial⟩⟩
theorem NE.toWp {ops:Array Oper} {o:Oper} {i n:Nat} {x:Ro} {g:Option (Nat×Bool)} {ctr:Nat} {tm:TS} {hp:HS} {K:TS→HS→Nat→Prop}
 (hi:ops[i]? =some o) (hx:aZ P o=some x) (hgd:iH ops o g) (h:NE P n ⟨o.dst,g,x⟩ tm hp ctr K):
 ∃bg,(∀t,find bg t=find tm t)∧lT P ops i (o7 n K) ⟨n,bg,hp⟩ ctr:=by
 unfold NE at h
 split at h
 · exact h.elim
 · rename_i hd
   simp only at hd
   have ix: ∀ {bg:TS},(∀t,find bg t=find tm t)→aX ops o bg=some false→K (fk bg o.dst (.eW [])) hp ctr→ ∃bg,(∀t,find bg t=find tm t)∧lT P ops i (o7 n K) ⟨n,bg,hp⟩ ctr:=by
    intro bg he jI hK
    refine⟨bg,he,?_⟩
    unfold lT
    simp only[hi]
    refine⟨hd,?_⟩
    simp only[jI,lC]
    exact⟨rfl,hK⟩
   have wanted: ∀ {bg:TS},(∀t,find bg t=find tm t)→aX ops o bg=some true→yX P n ⟨o.dst,g,x⟩ bg hp ctr K→ ∃bg,(∀t,find bg t=find tm t)∧lT P ops i (o7 n K) ⟨n,bg,hp⟩ ctr:=by
    intro bg he jI hX
    exact⟨bg,he,yX.wpOp (st:=⟨n,bg,hp⟩) hi hx hd jI hX⟩
   rcases hgd with⟨B1,rfl⟩|⟨j,want,d,B1,hj,rfl⟩
   · simp only at h
     exact wanted (fun _=>rfl) (by simp[aX,B1]) h
   · have fB: ∀ {bg:TS} {b:Bool},find bg d=some (bV b)→aX ops o bg=some (b==want):=by
      intro bg b hf
      simp only[aX,B1,hj,hf]
     simp only at h
     split at h
     · rename_i b hf
       have lit: ∀ {c:Bool},b=c→ ∀t,find ((d,bV c)::tm) t=find tm t:=by
        intro c hb t
        subst hb
        simp only[aA]
        split
        · rename_i e;subst e;exact hf.symm
        · rfl
       split at h
       · rcases jG h with⟨hb,h⟩|⟨hb,h⟩
         · exact wanted (lit hb) (by rw[fB (b:=true) (by simp[aA])];rfl) h
         · exact ix (lit hb) (by rw[fB (b:=false) (by simp[aA])];rfl) h
       · rcases jG h with⟨hb,h⟩|⟨hb,h⟩
         · exact ix (lit hb) (by rw[fB (b:=true) (by simp[aA])];rfl) h
         · exact wanted (lit hb) (by rw[fB (b:=false) (by simp[aA])];rfl) h
     · rename_i hf
       exact ix (fun _=>rfl) (by simp only[aX,B1,hj,hf]) h
     · exact h.elim
theorem B6 {K:TS→HS→Nat→Prop} {Q:Exit→TS→HS→Nat→Prop} {e:Exit} (h:e≠ .normal):iM K Q e=Q e:=by
 cases e<;>first|rfl|exact absurd rfl h
theorem IT {K:St→Nat→Prop} {Q:Exit→St→Nat→Prop} {e:Exit} (h:e≠ .normal):IU K Q e=Q e:=by
 cases e<;>first|rfl|exact absurd rfl h
theorem GS {id:Nat} {Q:Exit→TS→HS→Nat→Prop} {e:Exit} (h: ∀i,e≠ .exit i):Aw id Q e=Q e:=by
 cases e<;>first|rfl|exact absurd rfl (h _)
theorem It {id:Nat} {Q:Exit→St→Nat→Prop} {e:Exit} (h: ∀i,e≠ .exit i):tM id Q e=Q e:=by
 cases e<;>first|rfl|exact absurd rfl (h _)
def Is (st':St) (c':Nat):St→Nat→Prop:=fun s c=>s=st'∧c=c'
theorem vI.O5 {ops:Array Oper} {n:Nat} {K:TS→HS→Nat→Prop}: ∀ {l:List Oper} {rs:List lU} {k:Nat} {tm:TS} {hp:HS} {ctr:Nat},
 (∀j,ops[k+j]? =l[j]?)→aU P ops l=some rs→vI P n rs tm hp ctr K→
 ∃st' c',o7 n K st' c'∧ ∀ (M A:Nat→Prop) (ρ:Env) (a:Act) (w:World) (Q:Exit→Act→World→Prop),Rel M A ρ (bu ctr) ⟨n,tm,hp⟩ a w→(∀a' w',Post M A ρ w (Is st' c') a' w'→Q .normal a' w')→
  wpOps P ops Q (List.range' k l.length) a w
 | [],rs,k,tm,hp,ctr,hl,eO,h=>by
   simp only[aU,Option.some.injEq]at eO
   subst eO
   exact⟨⟨n,tm,hp⟩,ctr,⟨rfl,h⟩,fun M A ρ a w Q hr hq=>hq _ _ (Post.here hr ⟨rfl,rfl⟩)⟩
 |o::l,rs,k,tm,hp,ctr,hl,eO,h=>by
  simp only[aU]at eO
  split at eO
  · rename_i x l' hx hl'
    have hi:ops[k]? =some o:=by simpa using hl 0
    obtain⟨g,rfl,hgd⟩:=jV eO
    simp only[vI]at h
    obtain⟨bg,he,hw⟩:=NE.toWp (ops:=ops) hi hx hgd h
    obtain⟨st1,c1,⟨vS,hK1⟩,HK⟩:=lT.O5 hw
    obtain⟨n1,mX,hp1⟩:=st1
    simp only at vS hK1
    subst vS
    obtain⟨st2,c2,hK2,Zo⟩:=vI.O5 (k:=k+1) (fun j=>by have:=hl (j+1);rw[show k+1+j=k+(j+1) by omega,this];simp) hl' hK1
    refine⟨st2,c2,hK2,fun M A ρ a w Q hr hq=>?_⟩
    rw[List.length_cons,List.range'_succ,wpOps_cons]
    have dB:Rel M A ρ (bu ctr) ⟨n1,bg,hp⟩ a w:=hr.forget rfl (fun t v hv=>by rw[←he t];exact hv) (fun _ _ hb=>hb)
    refine lT.sound HK dB fun a' w' aG=>?_
    obtain⟨st',c',A',ρ',⟨rfl,rfl⟩,h2,h3,h4,h5⟩:=aG
    exact Zo M A' ρ' a' w' Q h2 fun a2 w2 hp2=>hq _ _ (hp2.trans h3 h4 h5)
  · simp at eO
theorem X.O5 {n:Nat}: ∀ {c:Code} {r:Rc},aS P c=some r→ ∀ {Q:Exit→TS→HS→Nat→Prop} {tm:TS} {hp:HS} {ctr:Nat},X P n r Q tm hp ctr→
 ∃e st' c',o7 n (Q e) st' c'∧Wp P c (fun e2 s c=>e2=e∧Is st' c' s c) ⟨n,tm,hp⟩ ctr:=by
 intro c
 induction c with
 |skip=>
  intro r hr Q tm hp ctr h
  simp only[aS,Option.some.injEq]at hr
  subst hr
  exact⟨.normal,⟨n,tm,hp⟩,ctr,⟨rfl,h⟩,Wp.skip ⟨rfl,rfl,rfl⟩⟩
 |ret=>
  intro r hr Q tm hp ctr h
  simp only[aS,Option.some.injEq]at hr
  subst hr
  exact⟨.ret,⟨n,tm,hp⟩,ctr,⟨rfl,h⟩,Wp.ret ⟨rfl,rfl,rfl⟩⟩
 |exit id=>
  intro r hr Q tm hp ctr h
  simp only[aS,Option.some.injEq]at hr
  subst hr
  exact⟨.exit id,⟨n,tm,hp⟩,ctr,⟨rfl,h⟩,Wp.exit ⟨rfl,rfl,rfl⟩⟩
 |seq x y JS JR=>
  intro r hr Q tm hp ctr h
  simp only[aS]at hr
  split at hr
  · rename_i rx ry hx hy
    simp only[Option.some.injEq]at hr
    subst hr
    simp only[X]at h
    obtain⟨e1,st1,c1,⟨vS,h1⟩,w1⟩:=JS hx h
    obtain⟨n1,mX,hp1⟩:=st1
    simp only at vS h1
    subst vS
    by_cases od:e1= .normal
    · subst od
      obtain⟨e2,st2,c2,h2,w2⟩:=JR hy h1
      refine⟨e2,st2,c2,h2,Wp.seq (w1.mono ?_)⟩
      rintro e s c ⟨rfl,rfl,rfl⟩
      exact w2
    · rw[B6 od]at h1
      refine⟨e1,⟨n1,mX,hp1⟩,c1,⟨rfl,h1⟩,Wp.seq (w1.mono ?_)⟩
      rintro e s c ⟨rfl,rfl,rfl⟩
      rw[IT od]
      exact⟨rfl,rfl,rfl⟩
  · simp at hr
 |cond c x y JS JR=>
  intro r hr Q tm hp ctr h
  simp only[aS]at hr
  split at hr
  · rename_i rx ry hx hy
    simp only[Option.some.injEq]at hr
    subst hr
    simp only[X]at h
    split at h
    · rename_i b hb
      have hb':((⟨n,tm,hp⟩:St).get c).ia =some b:=by rw[←bi];exact hb
      rcases jG h with⟨rfl,h⟩|⟨rfl,h⟩
      · obtain⟨e,s,c',h1,h2⟩:=JS hx h
        exact⟨e,s,c',h1,Wp.cond hb' h2⟩
      · obtain⟨e,s,c',h1,h2⟩:=JR hy h
        exact⟨e,s,c',h1,Wp.cond hb' h2⟩
    · exact h.elim
  · simp at hr
 |block id b ih=>
  intro r hr Q tm hp ctr h
  simp only[aS]at hr
  split at hr
  · rename_i rb hb
    simp only[Option.some.injEq]at hr
    subst hr
    simp only[X]at h
    obtain⟨e1,st1,c1,⟨vS,h1⟩,w1⟩:=ih hb h
    cases e1 with
    |exit id'=>
     simp only[Aw]at h1
     split at h1
     · rename_i bN
       refine⟨_,_,_,⟨vS,h1⟩,Wp.block (w1.mono ?_)⟩
       rintro e s c ⟨rfl,rfl,rfl⟩
       simp only[tM,bN,if_true]
       exact⟨trivial,rfl,rfl⟩
     · rename_i bN
       refine⟨_,_,_,⟨vS,h1⟩,Wp.block (w1.mono ?_)⟩
       rintro e s c ⟨rfl,rfl,rfl⟩
       simp only[tM,bN,if_false]
       exact⟨trivial,rfl,rfl⟩
    |_=>
     rw[GS (by simp)]at h1
     refine⟨_,st1,c1,⟨vS,h1⟩,Wp.block (w1.mono ?_)⟩
     rintro e s c ⟨rfl,rfl,rfl⟩
     rw[It (by simp)]
     exact⟨rfl,rfl,rfl⟩
  · simp at hr
 |loop b ih=>
  intro r hr Q tm hp ctr h
  simp only[aS]at hr
  split at hr
  · rename_i rb hb
    simp only[Option.some.injEq]at hr
    subst hr
    simp only[X]at h
    obtain⟨I,agK,EK⟩:=h
    obtain⟨uV,qR,c0,LH,m,hI⟩:=agK.get
    have key: ∀ (m:Nat) (tm:TS) (hp:HS) (c:Nat),I m tm hp c→ ∃e st' c',o7 n (Q e) st' c'∧ ∀ (M A:Nat→Prop) (ρ:Env) (a:Act) (w:World) (b':Frame) (kk:List _) (cs:List _),Rel M A ρ (bu c) ⟨n,tm,hp⟩ a w→
     ∃a' w',Post M A ρ w (Is st' c') a' w'∧Arrives P (lone (b'.at a (.code b:: .inLoop b::kk)) cs w) b' kk cs e a' w':=by
     intro m
     induction m using Nat.strongRecOn with
     |_ m ihm=>
      intro tm hp c hI
      obtain⟨e1,st1,c1,⟨vS,h1⟩,w1⟩:=ih hb (EK m tm hp c hI)
      obtain⟨n1,mX,hp1⟩:=st1
      simp only at vS h1
      subst vS
      by_cases od:e1= .normal
      · subst od
        obtain⟨tm3,hp3,c3,hw3,m',hm',XX⟩:=bU.get h1
        obtain⟨e2,st2,c2,h2,rI⟩:=ihm m' hm' _ _ _ XX
        refine⟨e2,st2,c2,h2,fun M A ρ a w b' kk cs hr=>?_⟩
        obtain⟨e,a1,L8,⟨rfl,st',c',A',ρ',⟨rfl,rfl⟩,r2,r3,r4,r5⟩,ki⟩:=(by
         obtain⟨e,a1,L8,hp1,ki⟩:=w1 M A ρ a w hr b' (.inLoop b::kk) cs
         obtain⟨st',c',A',ρ',⟨he,hs⟩,r⟩:=hp1
         exact⟨e,a1,L8,⟨he,st',c',A',ρ',hs,r⟩,ki⟩: ∃e a1 L8,(e=Exit.normal∧ ∃st' c' A' ρ',Is ⟨n1,mX,hp1⟩ c1 st' c'∧Rel M A' ρ' (bu c') st' a1 L8∧dj M w L8∧iZ ρ ρ'∧gD M A A' w)∧Arrives P (lone (b'.at a (.code b:: .inLoop b::kk)) cs w) b' (.inLoop b::kk) cs e a1 L8)
        obtain⟨A2,ρ2,w7,LN,zS⟩:=hw3 _ _ _ _ _ _ r2
        obtain⟨a2,w2,hp2,C5⟩:=rI M A2 ρ2 a1 L8 b' kk cs w7
        exact⟨a2,w2,hp2.trans r3 (r4.trans LN) (r5.trans zS r3.size), .of_steps (Steps.trans ki (.one step_inLoop)) C5⟩
      · rw[B6 od]at h1
        refine⟨e1,⟨n1,mX,hp1⟩,c1,⟨rfl,h1⟩,fun M A ρ a w b' kk cs hr=>?_⟩
        obtain⟨e,a1,L8,afI,ki⟩:=w1 M A ρ a w hr b' (.inLoop b::kk) cs
        obtain⟨st',c',A',ρ',⟨rfl,hs⟩,r⟩:=afI
        refine⟨a1,L8,⟨st',c',A',ρ',hs,r⟩,?_⟩
        cases e with
        |normal=>exact absurd rfl od
        |_=>exact .pass (x:= .inLoop b) rfl (fun _ _=> .inl (by simp)) ki
    obtain⟨e,st',c',h1,h2⟩:=key m _ _ _ hI
    refine⟨e,st',c',h1,Wp.IQ (st:=⟨n,tm,hp⟩) LH ?_⟩
    intro M A ρ a w hr b' kk cs
    obtain⟨a',w',aG,ki⟩:=h2 M A ρ a w b' kk cs hr
    obtain⟨s1,s2,s3,s4,s5,s6⟩:=aG
    exact⟨e,a',w',⟨s1,s2,s3,s4,⟨rfl,s5⟩,s6⟩, .of_steps (.one step_loop) ki⟩
  · simp at hr
 |region id ops d=>
  intro r hr Q tm hp ctr h
  cases d with
  |true=>
   simp only[aS]at hr
   split at hr
   · rename_i l hl
     split at hr
     · rename_i hc
       simp only[Bool.and_eq_true]at hc
       simp only[Option.some.injEq]at hr
       subst hr
       simp only[X]at h
       obtain⟨tmT,hpT,v,fs,⟨q0,q1⟩,_,q3,q4,q5⟩:=sc.trace (P:=P) (ops:=ops) (n:=n) (base:=ctr) (k:=0) (fun j=>by simp) hl rfl (by simpa using h)
       simp only[Nat.zero_add]at q1 q5
       refine⟨.normal,⟨n,tmT ops.size,hpT ops.size⟩,ctr+4 * ops.size,⟨rfl,by simpa using q1⟩,?_⟩
       intro M A ρ a w cI
       have CV:Rel M A ρ (bu ctr) ⟨n,tmT 0,hpT 0⟩ a w:=cI.forget rfl (fun t u hu=>by rw[←q3 t];exact hu) (fun k b hb=>by rw[q4]at hb;exact hb)
       refine xD hc.1 (fun i o ho=>q5 i o (by simpa using ho)) (fun i o ho e he=>?_) q0 CV ?_
       · have:=jE hc.2 i (bf o) (by simp[ho]) e he
         omega
       · rintro a' w' ⟨st',c',A',ρ',⟨rfl,rfl⟩,h2⟩
         exact⟨_,_,A',ρ',⟨rfl,rfl,rfl⟩,h2⟩
     · simp at hr
   · simp at hr
  |false=>
   simp only[aS]at hr
   split at hr
   · rename_i l hl
     simp only[Option.some.injEq]at hr
     subst hr
     simp only[X]at h
     obtain⟨st',c',h1,h2⟩:=vI.O5 (P:=P) (ops:=ops) (k:=0) (l:=ops.toList) (fun j=>by simp) hl h
     refine⟨.normal,st',c',h1,fun M A ρ a w cI=>wp_region ?_⟩
     have:=h2 M A ρ a w (fun e a' w'=>Post M A ρ w (fun s c=>e= .normal∧Is st' c' s c) a' w') cI (fun a' w' hp=>by
      obtain⟨s1,s2,s3,s4,s5,s6⟩:=hp
      exact⟨s1,s2,s3,s4,⟨rfl,s5⟩,s6⟩)
     rw[List.range_eq_range']
     simpa using this
   · simp at hr
 |_=>intro r hr;simp[aS]at hr
def YA (P:Program) (rs:List ResultVar) (Good:List W→Prop):Exit→TS→HS→Nat→Prop
 | .normal,tm,hp,_| .ret,tm,hp,_=> ∃us ts,aN P hp tm rs=some us∧bM (bY hp) us=some ts∧Good ts
 |_,_,_,_=>False
section
variable {Tb:Tables} {F F':Array Func}
theorem Dx: ∀n,(Program.mk Tb F).alikeButTags n=(Program.mk Tb F').alikeButTags n
 |0=>by funext t u;rfl
 |n+1=>by
  funext t u
  simp only[Program.alikeButTags,Dx n]
theorem Du:(Program.mk Tb F).stoodInHeld=(Program.mk Tb F').stoodInHeld:=by
 funext t
 have:= @Dx Tb F F'
 simp only[Program.stoodInHeld,Program.stoodInAs,Program.underlying,Program.underlyingId,Program.depth,this]
 rfl
theorem Dw: ∀n,(Program.mk Tb F).eqGuardType n=(Program.mk Tb F').eqGuardType n
 |0=>by funext t;rfl
 |n+1=>by
  funext t
  have:= @Du Tb F F'
  simp only[Program.eqGuardType,Dw n,Program.underlying]
theorem Qx (P:Program) (t:TypeId):aH P (underlying t)=P.underlying t:=by
 cases h:P.underlying t with
 |some d=>exact aO h
 |none=>
  show aH P (match P.underlying t with|some d=>pure d|none=>stuck "no such type")=none
  rw[h]
  rfl
theorem Nq (t:TypeId):um (Program.mk Tb F) t=um (Program.mk Tb F') t:=by
 have h:(Program.mk Tb F).underlying t=(Program.mk Tb F').underlying t:=rfl
 simp only[um,isAgg,aI,Qx,h]
 cases(Program.mk Tb F').underlying t with
 |none=>rfl
 |some d=>cases d<;>rfl
theorem Gr: ∀ (fs:List Field) off,kV (Program.mk Tb F) off fs=kV (Program.mk Tb F') off fs
 | [],_=>rfl
 |f::r,off=>by simp only[kV,Gr r,Nq (F:=F) (F':=F')]
theorem Ab: ∀ (fs:List Field),placesOf (Program.mk Tb F) fs=placesOf (Program.mk Tb F') fs
 | []=>rfl
 |f::r=>by simp only[placesOf,Ab r];rfl
theorem Yr (he: ∀f,enters (Program.mk Tb F) f=enters (Program.mk Tb F') f) (o:Oper):aZ (Program.mk Tb F) o=aZ (Program.mk Tb F') o:=by
 have h1:placesOf (Program.mk Tb F)=placesOf (Program.mk Tb F'):=funext Ab
 have h2:kV (Program.mk Tb F)=kV (Program.mk Tb F'):=funext fun o=>funext fun l=>Gr l o
 have h3:= @Dw Tb F F'
 have h4:= @Du Tb F F'
 have h5:qK (Program.mk Tb F)=qK (Program.mk Tb F'):=by
  funext t
  simp only[qK,h2,h3,h4,Program.depth]
  rfl
 have h6:(Program.mk Tb F).underlying=(Program.mk Tb F').underlying:=rfl
 have h7:jL (Program.mk Tb F)=jL (Program.mk Tb F'):=rfl
 have h8:cF (Program.mk Tb F)=cF (Program.mk Tb F'):=rfl
 have h9:D9 (Program.mk Tb F)=D9 (Program.mk Tb F'):=rfl
 have h10:ov (Program.mk Tb F)=ov (Program.mk Tb F'):=rfl
 have h11:Et (Program.mk Tb F)=Et (Program.mk Tb F'):=rfl
 have h12:enters (Program.mk Tb F)=enters (Program.mk Tb F'):=funext he
 simp only[aZ,mw,aK,h1,h5,h6,h7,h8,h9,h10,h11,h12]
theorem KK (he: ∀f,enters (Program.mk Tb F) f=enters (Program.mk Tb F') f) (all:Array Oper): ∀l,aU (Program.mk Tb F) all l=aU (Program.mk Tb F') all l
 | []=>rfl
 |o::r=>by simp only[aU,Yr he,KK he all r]
theorem ahV (he: ∀f,enters (Program.mk Tb F) f=enters (Program.mk Tb F') f) (c:Code):aS (Program.mk Tb F) c=aS (Program.mk Tb F') c:=by
 induction c with
 |region a ops b=>cases b<;>simp only[aS,KK he]<;>rfl
 |_=>simp only[aS, *]
end
def Ol (b:Bool):Func:={name:= "",origin:= "",params:= #[],resultTypes:= #[],nfree:=0,ntmps:=0,results:= #[],body:=if b then some .skip else none,norace:=false,tmpNames:= #[]}
def FH:Array Func:=(WH.foldl (fun l i=>l.set i (Ol false)) (List.replicate adL (Ol true))).toArray
class oD (P:Program) (Tb:outParam Tables):Prop where
 tb:P.toTables=Tb
 ok: ∀f,enters P f=enters ⟨Tb,FH⟩ f
theorem oD.of {P:Program} {Tb:Tables} (h:P.toTables=Tb) (n:Nat) (h1:Nat.ble P.funcs.size n=true) (h2:Nat.ble FH.size n=true) (h3:((List.range n).all fun f=>enters P f==enters ⟨Tb,FH⟩ f)=true):oD P Tb:=by
 refine⟨h,fun f=>?_⟩
 by_cases hf:f < n
 · have:=List.all_eq_true.1 h3 f (List.mem_range.2 hf)
   simpa using this
 · have hf:=Nat.le_of_not_lt hf
   simp only[enters,Array.getElem?_eq_none (Nat.le_trans (Nat.le_of_ble_eq_true h1) hf),Array.getElem?_eq_none (Nat.le_trans (Nat.le_of_ble_eq_true h2) hf)]
def Sc (Tb:Tables) (fn:Func):Option (Nat×List ResultVar×Rc):=
 match fn.body with
 |some b=>match aS ⟨Tb,FH⟩ b with
  |some r=>some (fn.ntmps,fn.results.toList,r)
  |none=>none
 |none=>none
theorem BC {P:Program} {Tb:Tables} [hS:oD P Tb] {fn:Func} {n:Nat} {rs:List ResultVar} {r:Rc} (h:Sc Tb fn=some (n,rs,r)): ∃c,fn.body=some c∧aS P c=some r∧fn.ntmps=n∧fn.results.toList=rs:=by
 obtain⟨h0,he⟩:=hS
 obtain⟨Tb',Fs⟩:=P
 subst h0
 unfold Sc at h
 split at h
 · rename_i b hb
   split at h
   · rename_i q hq
     simp only[Option.some.injEq,Prod.mk.injEq]at h
     exact⟨b,hb,by rw[ahV he,hq,h.2.2],h.1,h.2.1⟩
   · cases h
 · cases h
theorem ah {Tb:Tables} [oD P Tb] {f:FuncId} {fn:Func} {r:Rc} {args:List W} {n:Nat} {rs:List ResultVar} {Good:List W→Prop} (hf:P.funcs[f]? =some fn) (h:X P n r (YA P rs Good) (df 0 args) [] 4)
 (hi:Sc Tb fn=some (n,rs,r):=by conv=>lhs;cbv) (hl:args.length≤n:=by simp): ∃ts,Fn P f args [] (aL ts) []∧(aL ts).bL=true∧Good ts:=by
 obtain⟨c,hb,hr,hn,eO⟩:=BC (P:=P) hi
 subst hn
 subst eO
 obtain⟨e,st',c',⟨hn',hq⟩,hw⟩:=X.O5 hr h
 obtain⟨n',bg,aG⟩:=st'
 simp only at hn' hq
 subst hn'
 have main: ∀us ts,uu e→aN P aG bg fn.results.toList=some us→bM (bY aG) us=some ts→Good ts→ ∃ts,Fn P f args [] (aL ts) []∧(aL ts).bL=true∧Good ts:=by
  intro vs ts he gO hts hg
  refine⟨ts,?_,wE ?_,hg⟩
  · intro w A ρ xs hH hxs
    refine calls_of_wp hf hb ?_
    have hl':args.length=xs.size:=by simpa using hxs.1
    have cI:Rel (fun b=>qS ρ [] b∨w.heap.size≤b) A ρ (bu 4) ⟨fn.ntmps,df 0 args,[]⟩ {tmps:=xs++Array.replicate (fn.ntmps - xs.size) undef,defers:=[]} w:=by
     refine⟨by simp;omega,rfl,fun t v hv=>?_,hH.heap,hH.inj,hH.fresh,hH.bound,hH.may,hH.ep⟩
     obtain⟨_,u,hu,rfl⟩:=fg _ _ _ _ hv
     simp only[Nat.sub_zero]at hu
     have ht:t < xs.size:=by rw[←hl'];exact(List.getElem?_eq_some_iff.1 hu).1
     have EH:xs.toList[t]? =some xs[t]:=by simp[ht]
     have:=hxs.2 t u _ hu EH
     have e:(xs++Array.replicate (fn.ntmps - xs.size) undef).getD t undef=xs[t]:=by simp[Array.getD_eq_getD_getElem?,Array.getElem?_append_left ht,ht]
     rw[e]
     exact this
    refine wp_mono (hw _ A ρ _ w cI) ?_
    rintro e2 a' w' ⟨st2,c2,A',ρ',⟨rfl,rfl,rfl⟩,dB,dU,cJ,TL⟩
    have jI:=zV hH.bound TL
    obtain⟨ws,hvs,hR⟩:=eY dB gO
    have hm:(fn.results.mapM fun(r:ResultVar)=>match r with
     | .tmp t=>(pure (a'.tmps.getD t undef):Sem Value)
     | .cell b t=>do loadVar t (←asAddr (a'.tmps.getD b undef))).run P w'= .ok ws.toArray w':=by
     rw[Array.mapM_eq_mapM_toList]
     simp only[Sem.run_map]
     exact(congrArg (fun r:Result (List Value)=>Result.andThen r fun a w'=>Result.ok a.toArray w') hvs).trans rfl
    have hrun:(results fn a'.tmps).run P w'= .ok (if h:ws.toArray.size=1 then ws.toArray[0]else .tuple ws.toArray) w':=by
     show(Bind.bind (fn.results.mapM fun(r:ResultVar)=>match r with
      | .tmp t=>(pure (a'.tmps.getD t undef):Sem Value)
      | .cell b t=>do loadVar t (←asAddr (a'.tmps.getD b undef))) fun vs=>Pure.pure (if h:vs.size=1 then vs[0]else .tuple vs)).run P w'=_
     rw[Sem.run_bind,hm]
     rfl
    have hB: ∀id blk b,find aG id=some blk→ρ' id=some (.gz b)→¬A b:=by
     intro id blk b hf hρ hA
     have hM:=(Rel.own dB hf hρ).1
     rcases hM with⟨id',gf,mD,_⟩|hM
     · simp[find]at mD
     · have:=hH.bound b hA
       omega
    have hlen:=jd hts
    have one: ∀ (k:Nat) (u:W) (y:Value),ts[k]? =some u→(∀v,vs[k]? =some v→RW w' A' ρ' v y)→RW w' A ρ u y:=by
     intro k u y hu hv
     obtain⟨v,kB,HP⟩:=fK hts k u hu
     exact jY dB (fun b hb=>jI.1 b hb) hB HP (hv v kB) ρ
    have fin:a'.defers=[]∧ ∃v,(results fn a'.tmps).run P w'= .ok v w'∧ ∃x A' ρ' F',Ending.returned v= .returned x∧RV w' A' ρ' (aL ts) x∧HR (fun b=>qS ρ [] b∨w.heap.size≤b) A' ρ' F' [] w'∧
     dj (fun b=>qS ρ [] b∨w.heap.size≤b) w w'∧iZ ρ ρ'∧bH A A' w:=by
     refine⟨dB.defers,_,hrun,_,A,ρ,bu 4,rfl,?_,⟨rfl,rfl,fun t v hv=>by simp[find]at hv,fun id blk hb=>by simp[find]at hb,fun id id' b b' q hb=>by simp[find]at hb,hH.fresh,fun b hb=>Nat.lt_of_lt_of_le (hH.bound b hb) dU.size,fun b hb=> .inr (Nat.le_trans dU.size hb),hH.ep.Ig dU (fun _ _ h=>h)⟩,dU,iZ.refl _,bH.refl _ _⟩
     match vs,ws,ts,hR,hlen,one with
     | [],[],[],_,_,_=>exact⟨#[],by simp,rfl,by simp⟩
     | [u],[v],[t],hR,_,one=>exact one 0 t v rfl (fun v' kB=>by simp only[List.getElem?_cons_zero,Option.some.injEq]at kB;subst kB;exact hR.2 0 u v rfl rfl)
     |u::u2::r,v::v2::s,t::t2::q,hR,hlen,one=>
      have hne:¬ (v::v2::s).toArray.size=1:=by simp
      simp only[hne,dite_false]
      refine⟨_,rfl,?_,fun k x y hx hy=>one k x y hx (fun v' kB=>hR.2 k v' y kB (by simpa using hy))⟩
      have:=hR.1
      simp at this hlen⊢
      omega
     | [],_::_,_,hR,_,_=>exact absurd hR.1 (by simp)
     |_::_,[],_,hR,_,_=>exact absurd hR.1 (by simp)
     | [_],_::_::_,_,hR,_,_=>exact absurd hR.1 (by simp)
     |_::_::_,[_],_,hR,_,_=>exact absurd hR.1 (by simp)
     | [],[],_::_,_,hlen,_=>simp at hlen
     | [_],[_],[],_,hlen,_=>simp at hlen
     | [_],[_],_::_::_,_,hlen,_=>simp at hlen
     |_::_::_,_::_::_,[],_,hlen,_=>simp at hlen
     |_::_::_,_::_::_,[_],_,hlen,_=>simp at hlen
    rcases he with rfl|rfl
    · exact fin
    · exact fin
  · rw[List.all_eq_true]
    intro u hu
    obtain⟨k',hk',hke⟩:=List.getElem_of_mem hu
    obtain⟨v,_,HP⟩:=fK hts k' u (by rw[←hke];simp[hk'])
    exact gU HP
 cases e with
 |normal=>obtain⟨us,ts,h1,h2,h3⟩:=hq;exact main us ts (.inl rfl) h1 h2 h3
 |ret=>obtain⟨us,ts,h1,h2,h3⟩:=hq;exact main us ts (.inr rfl) h1 h2 h3
 |_=>exact hq.elim
end Go.aT
end
section
namespace Go.aT.Cd
open Go Go.Proofs
instance acD:oD Tryz.prog Tryz.progTables:=oD.of rfl 300 (by kernel_rfl) (by kernel_rfl) (by kernel_rfl)
abbrev t (n:Nat):ej:= .t n
abbrev k (n:Int):ej:= .c (iV .i64 n)
abbrev kb (b:Bool):ej:= .c (bV b)
abbrev p (d:Nat) (r:Ro):lU:=⟨some d,none,r⟩
abbrev q (r:Ro):lU:=⟨none,none,r⟩
abbrev i (n:Int):T:= .val (.int .i64 n)
abbrev u (n:Int):T:= .val (.int .u32 n)
abbrev bo (b:Bool):T:= .val (.bool b)
abbrev nl:T:= .val (.slice none 0 0)
abbrev Bi (d:Nat) (o:BinOp) (a:Nat) (n:Int):lU:=p d (.bin o (t a) (k n))
abbrev Pt (d a b:Nat):lU:=p d (.pick (t a) (kb true) (t b))
abbrev Pf (d a b:Nat):lU:=p d (.pick (t a) (t b) (kb false))
abbrev zb:C:= .t (.val (.bool false))
variable {P:Program}
def LA (P:Program):List (Nat×B4)→Prop
 | []=>True
 |(f,fr)::r=>BZ P f fr∧LA P r
theorem Db: ∀ {l:List (Nat×B4)},LA P l→GM P (find l)
 | [],_,f,fr,h=>by simp[find]at h
 |(g,gr)::r,hl,f,fr,h=>by
  rw[aA]at h
  split at h
  · rename_i e
    subst e
    simp only[Option.some.injEq]at h
    subst h
    exact hl.1
  · exact Db hl.2 f fr h
def bZ:List (Nat×List W×V)→Nat→List W→Option V
 | [],_,_=>none
 |(g,ar,v)::r,f,us=>gR (Nat.beq g f&&Dj ar us) (some v) (bZ r f us)
theorem Me:cg P (bZ []):=fun f us v h=>by simp[bZ]at h
theorem aV {l:List (Nat×List W×V)} {g:Nat} {ar:List W} {v:V} (h:cg P (bZ l)) (he:Fn P g ar [] v []∧v.bL=true):cg P (bZ ((g,ar,v)::l)):=by
 intro f us v' hv
 simp only[bZ]at hv
 cases hc:(Nat.beq g f&&Dj ar us)with
 |true=>
  rw[hc]at hv
  simp only[gR,Option.some.injEq]at hv
  subst hv
  simp only[Bool.and_eq_true,Nat.beq_eq]at hc
  obtain⟨rfl,h2⟩:=hc
  rw[←BF h2]
  exact he
 |false=>
  rw[hc]at hv
  exact h f us v' hv
end Go.aT.Cd
end
section
namespace Go.aT
open Go
variable {P:Program} {M A:Nat→Prop} {ρ:Env} {F:Nat→Prop} {st:St} {a:Act} {w:World}
theorem HB.av {M2:Nat→Prop} {ρ2:Env} {f:Nat→Option Nat} {id k:Nat} {blk:bA} (h:HB w M A ρ id blk) (hρ: ∀id k l,f id=some k→ρ id=some l→ρ2 k=some l)
 (hk: ∀l,ρ id=some l→ρ2 k=some l) (hM: ∀b,ρ id=some (.gz b)→M b→M2 b):HB w M2 A ρ2 k (blk.av f):=by
 cases blk with
 |row sz xs=>
  obtain⟨q1,q2⟩:=h
  refine⟨fun e he=>?_,?_⟩
  · simp only[List.mem_map]at he
    obtain⟨e',he',rfl⟩:=he
    simpa using q1 e' he'
  · rcases q2 with⟨b,c,e,k1,k2,k3,k4,k5,k6⟩|⟨k1,k2⟩
    · refine .inl ⟨b,c,e,hk _ k1,hM b k1 k2,k3,k4,by simpa using k5,fun i el j q hi hj=>?_⟩
      simp only[List.getElem?_map,Option.map_eq_some_iff]at hi
      obtain⟨DZ,C2,rfl⟩:=hi
      simp only[List.getElem?_map,Option.map_eq_some_iff]at hj
      obtain⟨q',F5,rfl⟩:=hj
      obtain⟨y,hy,dB,h1⟩:=k6 i DZ j q' C2 F5
      exact⟨y,hy,dB.av hρ,h1⟩
    · exact .inr ⟨hk _ k1,by rw[k2];rfl⟩
 |mp es clock=>
  obtain⟨b,en,k1,k2,k3,k4,k5,k6⟩:=h
  refine⟨b,en,hk _ k1,hM b k1 k2,k3,k4,by simpa using k5,fun i k c n hi=>?_⟩
  simp only[List.getElem?_map,Option.map_eq_some_iff]at hi
  obtain⟨⟨k',c',n'⟩,hi',he⟩:=hi
  simp only[Prod.mk.injEq]at he
  obtain⟨rfl,rfl,rfl⟩:=he
  obtain⟨e,h1,h2,h3,h4,h5⟩:=k6 i k' c' n' hi'
  exact⟨e,h1,h2,h3,h4.av hρ,h5.av⟩
theorem HB.some {id:Nat} {blk:bA} (h:HB w M A ρ id blk): ∃l,ρ id=some l:=by
 cases blk with
 |row sz xs=>rcases h.2 with⟨b,c,e,k1,_⟩|⟨k1,_⟩<;>exact⟨_,k1⟩
 |mp es clock=>obtain⟨b,en,k1,_⟩:=h;exact⟨_,k1⟩
def bt:List Nat→Nat→Option Nat
 | [],_=>none
 |x::r,id=>if x=id then some 0 else(bt r id).map (· +1)
theorem eE: ∀ {ids:List Nat} {id k:Nat},bt ids id=some k→ids[k]? =some id
 | [],id,k,h=>by simp[bt]at h
 |x::r,id,k,h=>by
  simp only[bt]at h
  split at h
  · rename_i e;simp only[Option.some.injEq]at h;subst h;subst e;rfl
  · simp only[Option.map_eq_some_iff]at h
    obtain⟨k',h',rfl⟩:=h
    simpa using eE h'
theorem iS: ∀ {ids:List Nat} {id:Nat},bt ids id=none→ ∀k:Nat,ids[k]? ≠some id
 | [],id,_,k=>by simp
 |x::r,id,h,k=>by
  simp only[bt]at h
  split at h
  · simp at h
  · rename_i e
    simp only[Option.map_eq_none_iff]at h
    cases k with
    |zero=>simpa using e
    |succ k=>simpa using iS h k
def gP (ids:List Nat) (ctr j:Nat):Option Nat:=if j < 4 then some ((ids[j]?).getD (ctr+j))else none
def cM (f:Nat→Option Nat) (hp:List (Nat×bA)):Nat→List Nat→List (Nat×bA)
 |_,[]=>[]
 |j,id::r=>match find hp id with
  |some b=>(j,b.av f)::cM f hp (j+1) r
  |none=>cM f hp (j+1) r
theorem cu {f:Nat→Option Nat} {hp:List (Nat×bA)}: ∀ {ids:List Nat} {j k:Nat} {b:bA},find (cM f hp j ids) k=some b→ ∃i id b',k=j+i∧ids[i]? =some id∧find hp id=some b'∧b=b'.av f
 | [],j,k,b,h=>by simp[cM,find]at h
 |id::r,j,k,b,h=>by
  simp only[cM]at h
  have tl:find (cM f hp (j+1) r) k=some b→ ∃i id', ∃b',k=j+i∧(id::r)[i]? =some id'∧find hp id'=some b'∧b=b'.av f:=by
   intro h
   obtain⟨i,id',b',h1,h2,h3,h4⟩:=cu h
   exact⟨i+1,id',b',by omega,by simpa using h2,h3,h4⟩
  split at h
  · rename_i b0 hb0
    rw[aA]at h
    split at h
    · rename_i e
      simp only[Option.some.injEq]at h
      exact⟨0,id,b0,by omega,rfl,hb0,h.symm⟩
    · exact tl h
  · exact tl h
def jt (ids:List Nat):List (Nat×bA)→List (Nat×bA)
 | []=>[]
 |p::r=>match bt ids p.1 with
  |some _=>jt ids r
  |none=>p::jt ids r
theorem kG {ids:List Nat}: ∀ {hp:List (Nat×bA)} {k:Nat} {b:bA},find (jt ids hp) k=some b→bt ids k=none∧find hp k=some b
 | [],k,b,h=>by simp[jt,find]at h
 |(q,c)::r,k,b,h=>by
  simp only[jt]at h
  split at h
  · rename_i j hj
    obtain⟨h1,h2⟩:=kG h
    refine⟨h1,?_⟩
    rw[aA]
    split
    · rename_i e
      subst e
      rw[hj]at h1
      simp at h1
    · exact h2
  · rename_i hj
    rw[aA]at h⊢
    split at h
    · rename_i e
      subst e
      rw[if_pos rfl]
      exact⟨hj,h⟩
    · rename_i e
      obtain⟨h1,h2⟩:=kG h
      rw[if_neg e]
      exact⟨h1,h2⟩
def fm (g:Nat→Option Nat):List (Nat×bA)→List (Nat×bA)
 | []=>[]
 |p::r=>match g p.1 with
  |some k=>(k,p.2.av g)::fm g r
  |none=>fm g r
theorem jk {g:Nat→Option Nat} (hinj: ∀i j k,g i=some k→g j=some k→i=j): ∀ {hout:List (Nat×bA)} {k:Nat} {b:bA},find (fm g hout) k=some b→ ∃j b',g j=some k∧find hout j=some b'∧b=b'.av g
 | [],k,b,h=>by simp[fm,find]at h
 |(q,c)::r,k,b,h=>by
  simp only[fm]at h
  split at h
  · rename_i k' hk'
    rw[aA]at h
    split at h
    · rename_i e
      subst e
      simp only[Option.some.injEq]at h
      exact⟨q,c,hk',by rw[aA,if_pos rfl],h.symm⟩
    · rename_i e
      obtain⟨j,b',h1,h2,h3⟩:=jk hinj h
      refine⟨j,b',h1,?_,h3⟩
      rw[aA,if_neg]
      · exact h2
      · intro e'
        subst e'
        rw[hk']at h1
        exact e (Option.some.inj h1)
  · rename_i hk'
    obtain⟨j,b',h1,h2,h3⟩:=jk hinj h
    refine⟨j,b',h1,?_,h3⟩
    rw[aA,if_neg]
    · exact h2
    · intro e'
      subst e'
      rw[hk']at h1
      simp at h1
def w4 (ids:List Nat) (ctr:Nat):Bool:=decide (ids.length≤4)&&ids.all (fun id=>decide (id < ctr))&&decide ids.Nodup
theorem BP {f:FuncId} {us args:List W} {hp hin hout:List (Nat×bA)} {ctr:Nat} {res:V} (ids:List Nat) (hok:w4 ids ctr=true) (hfn:Fn P f args hin res hout)
 (ha:us.map (W.av (bt ids))=args) (hh:cM (bt ids) hp 0 ids=hin):
 gE P f us hp ctr (res.av (gP ids ctr)) (fm (gP ids ctr) hout++jt ids hp) (ctr+4):=by
 subst ha
 subst hh
 simp only[w4,Bool.and_eq_true,decide_eq_true_eq,List.all_eq_true]at hok
 obtain⟨⟨hlen,hlt⟩,HM⟩:=hok
 have hidx: ∀ {i j id:Nat},ids[i]? =some id→ids[j]? =some id→i=j:=by
  intro i j id h1 h2
  obtain⟨hi,e1⟩:=List.getElem?_eq_some_iff.1 h1
  obtain⟨hj,e2⟩:=List.getElem?_eq_some_iff.1 h2
  exact(List.getElem_inj HM).1 (e1.trans e2.symm)
 have hinv: ∀ {j id:Nat},ids[j]? =some id→bt ids id=some j:=by
  intro j id h
  cases hi:bt ids id with
  |none=>exact absurd h (iS hi j)
  |some k=>rw[hidx (eE hi) h]
 have kg: ∀ {j id:Nat},ids[j]? =some id→id < ctr:=fun h=>hlt _ (List.mem_of_getElem? h)
 have DT: ∀ {j id:Nat},ids[j]? =some id→j < 4:=fun h=>by have:=(List.getElem?_eq_some_iff.1 h).1;omega
 intro M A ρ a w n L xs hr hx
 let ρ0:Env:=fun j=>(ids[j]?).bind ρ
 have Rj: ∀id k l,bt ids id=some k→ρ id=some l→ρ0 k=some l:=by
  intro id k l h1 h2
  simp only[ρ0,eE h1,Option.bind_some,h2]
 let M':Nat→Prop:=fun b=>qS ρ0 (cM (bt ids) hp 0 ids) b∨w.heap.size≤b
 have M4: ∀b,b < w.heap.size→M' b→M b∧A b:=by
  intro b hb hm
  rcases hm with⟨j,blk,hf,hρ⟩|hm
  · obtain⟨i,id,b',rfl,h2,h3,_⟩:=cu hf
    simp only[Nat.zero_add,ρ0,h2,Option.bind_some]at hρ
    exact((hr.heap id b' h3).lt hρ).2
  · omega
 have hH:HR M' A ρ0 (bu 4) (cM (bt ids) hp 0 ids) w:=by
  refine⟨rfl,rfl,fun t v hv=>by simp[find]at hv,fun j blk hf=>?_,fun j j' blk gf b h1 h2 r1 r2=>?_,fun j hj=>?_,hr.bound,fun b hb=> .inr hb,hr.ep.sub (fun b hb hm=>(M4 b hb hm).1) (fun _ h=>h)⟩
  · obtain⟨i,id,b',rfl,h2,h3,rfl⟩:=cu hf
    refine(hr.heap id b' h3).av Rj (fun l hl=>by simp only[Nat.zero_add,ρ0,h2,Option.bind_some,hl]) (fun b hb _=> .inl ⟨0+i,_,hf,by simp only[Nat.zero_add,ρ0,h2,Option.bind_some,hb]⟩)
  · obtain⟨i,id,b1,rfl,h3,h4,_⟩:=cu h1
    obtain⟨i',id',b2,rfl,OZ,R8,_⟩:=cu h2
    simp only[Nat.zero_add,ρ0,h3,OZ,Option.bind_some]at r1 r2
    have:=hr.inj id id' b1 b2 b h4 R8 r1 r2
    subst this
    rw[hidx h3 OZ]
  · simp only[ρ0]
    rw[List.getElem?_eq_none (by simp only[bu]at hj;omega)]
    rfl
 have hx':BW w A ρ0 (us.map (W.av (bt ids))) xs.toList:=by
  refine⟨by simpa using hx.1,fun k u y hu hy=>?_⟩
  simp only[List.getElem?_map,Option.map_eq_some_iff]at hu
  obtain⟨u',Bl,rfl⟩:=hu
  exact(hx.2 k u' y Bl hy).av Rj
 refine(hfn w A ρ0 xs hH hx').mono ?_
 rintro e w' ⟨x,A',ρ',F',rfl,hv,dB,dU,cJ,hg⟩
 let ρ2:Env:=fun k=>match bt ids k with
  |some j=>ρ' j
  |none=>if ctr≤k∧k < ctr+4 then ρ' (k - ctr)else ρ k
 have OV: ∀j k l,gP ids ctr j=some k→ρ' j=some l→ρ2 k=some l:=by
  intro j k l h1 h2
  simp only[gP]at h1
  split at h1
  · rename_i hj
    simp only[Option.some.injEq]at h1
    cases hi:ids[j]? with
    |some id=>
     rw[hi]at h1
     simp only[Option.getD_some]at h1
     subst h1
     simp only[ρ2,hinv hi]
     exact h2
    |none=>
     rw[hi]at h1
     simp only[Option.getD_none]at h1
     subst h1
     have hn:bt ids (ctr+j)=none:=by
      cases hq:bt ids (ctr+j)with
      |none=>rfl
      |some q=>have:=kg (eE hq);omega
     simp only[ρ2,hn]
     rw[if_pos ⟨by omega,by omega⟩,show ctr+j - ctr=j by omega]
     exact h2
  · simp at h1
 have OU: ∀i j k,gP ids ctr i=some k→gP ids ctr j=some k→i=j:=by
  intro i j k h1 h2
  simp only[gP]at h1 h2
  split at h1
  · split at h2
    · simp only[Option.some.injEq]at h1 h2
      cases hi:ids[i]? with
      |some id=>
       cases hj:ids[j]? with
       |some id'=>
        rw[hi]at h1;rw[hj]at h2
        simp only[Option.getD_some]at h1 h2
        subst h1;subst h2
        exact hidx hi hj
       |none=>
        rw[hi]at h1;rw[hj]at h2
        simp only[Option.getD_some,Option.getD_none]at h1 h2
        have:=kg hi
        omega
      |none=>
       cases hj:ids[j]? with
       |some id'=>
        rw[hi]at h1;rw[hj]at h2
        simp only[Option.getD_some,Option.getD_none]at h1 h2
        have:=kg hj
        omega
       |none=>
        rw[hi]at h1;rw[hj]at h2
        simp only[Option.getD_none]at h1 h2
        omega
    · simp at h2
  · simp at h1
 have hE:cZ ρ ρ2:=by
  intro id l hl
  simp only[ρ2]
  cases hi:bt ids id with
  |some j=>
   have hj:=DT (eE hi)
   exact cJ j l hj (Rj id j l hi hl)
  |none=>
   simp only
   rw[if_neg]
   · exact hl
   · rintro⟨h1,_⟩
     have:=hr.fresh id h1
     rw[this]at hl
     simp at hl
 have CZ:dj M w w':=dU.weaken (fun i hi ho=>(M4 i hi ho).1)
 have hk:eK A A' w w':=⟨dU.size,fun b hb J4=>⟨dU.block b hb (fun hm=>J4 (M4 b hb hm).2),fun h=>J4 (hg.2 b hb h)⟩⟩
 have hM': ∀b,M' b→M b:=fun b hm=>by
  rcases Nat.lt_or_ge b w.heap.size with hlt|hge
  · exact(M4 b hlt hm).1
  · exact hr.may b hge
 refine⟨x,A',ρ2,rfl,⟨hr.size,hr.defers,fun t v hv=>(hr.tmps t v hv).keeps hk dU.shape hE,fun k blk hf=>?_,fun k k' blk gf b h1 h2 r1 r2=>?_,fun k hk'=>?_,dB.bound,fun b hb=>hr.may b (Nat.le_trans dU.size hb),hr.ep.Ig CZ hg.2⟩,hv.av OV,CZ,hE,hg⟩
 · simp only[cO,Option.or_eq_some_iff]at hf
   rcases hf with hf|⟨_,hf⟩
   · obtain⟨j,b',h1,h2,rfl⟩:=jk OU hf
     exact(dB.heap j b' h2).av OV (fun l hl=>OV j k l h1 hl) (fun b _ hm=>hM' b hm)
   · obtain⟨h1,h2⟩:=kG hf
     have hb:=hr.heap k blk h2
     refine hb.keeps hk dU.shape hE hg.1 (fun b DW=>dU.block b (hb.lt DW).1 ?_)
     intro hm
     rcases hm with⟨j,bl,hfj,W6⟩|hm
     · obtain⟨i,id,b',rfl,q2,q3,_⟩:=cu hfj
       simp only[Nat.zero_add,ρ0,q2,Option.bind_some]at W6
       have:=hr.inj k id blk b' b h2 q3 DW W6
       subst this
       exact iS h1 i q2
     · have:=(hb.lt DW).1
       omega
 · have old: ∀ {k:Nat} {bl:bA} {b:Nat},find (jt ids hp) k=some bl→ρ2 k=some (.gz b)→find hp k=some bl∧ρ k=some (.gz b)∧bt ids k=none∧b < w.heap.size:=by
    intro k bl b hf hρ
    obtain⟨g1,g2⟩:=kG hf
    obtain⟨l,hl⟩:=(hr.heap k bl g2).some
    have:=hE k l hl
    rw[this]at hρ
    simp only[Option.some.injEq]at hρ
    subst hρ
    exact⟨g2,hl,g1,((hr.heap k bl g2).lt hl).1⟩
   have new: ∀ {k:Nat} {bl:bA} {b:Nat},find (fm (gP ids ctr) hout) k=some bl→ρ2 k=some (.gz b)→ ∃j b',gP ids ctr j=some k∧find hout j=some b'∧ρ' j=some (.gz b):=by
    intro k bl b hf hρ
    obtain⟨j,b',g1,g2,_⟩:=jk OU hf
    obtain⟨l,hl⟩:=(dB.heap j b' g2).some
    have:=OV j k l g1 hl
    rw[this]at hρ
    simp only[Option.some.injEq]at hρ
    subst hρ
    exact⟨j,b',g1,g2,hl⟩
   have O6: ∀ {k k':Nat} {bl Ah:bA} {b:Nat},find (fm (gP ids ctr) hout) k=some bl→ρ2 k=some (.gz b)→find (jt ids hp) k'=some Ah→ρ2 k'=some (.gz b)→False:=by
    intro k k' bl Ah b h1 r1 h2 r2
    obtain⟨j,b',g1,g2,g3⟩:=new h1 r1
    obtain⟨q1,q2,q3,q4⟩:=old h2 r2
    have hm:=((dB.heap j b' g2).lt g3).2.1
    rcases hm with⟨i,TU,Zy,hρi⟩|hm
    · obtain⟨i',id,b2,rfl,p2,p3,_⟩:=cu Zy
      simp only[Nat.zero_add,ρ0,p2,Option.bind_some]at hρi
      have:=hr.inj k' id Ah b2 b q1 p3 q2 hρi
      subst this
      exact iS q3 i' p2
    · omega
   simp only[cO,Option.or_eq_some_iff]at h1 h2
   rcases h1 with h1|⟨_,h1⟩<;>rcases h2 with h2|⟨_,h2⟩
   · obtain⟨j,b',g1,g2,g3⟩:=new h1 r1
     obtain⟨j',b'',g1',g2',g3'⟩:=new h2 r2
     have:=dB.inj j j' b' b'' b g2 g2' g3 g3'
     subst this
     rw[g1]at g1'
     exact Option.some.inj g1'
   · exact(O6 h1 r1 h2 r2).elim
   · exact(O6 h2 r2 h1 r1).elim
   · obtain⟨q1,q2,_⟩:=old h1 r1
     obtain⟨q1',q2',_⟩:=old h2 r2
     exact hr.inj k k' _ _ b q1 q1' q2 q2'
 · simp only[bu]at hk'
   have hn:bt ids k=none:=by
    cases hq:bt ids k with
    |none=>rfl
    |some q=>have:=kg (eE hq);omega
   simp only[ρ2,hn]
   rw[if_neg (by omega)]
   exact hr.fresh k (by simp only[bu];omega)
theorem uN {f:FuncId} {us args:List W} {hp hin hout:List (Nat×bA)} {ctr:Nat} {res:V} (ids:List Nat) (hok:w4 ids ctr=true) (hfn:Fn P f args hin res hout)
 (ha:us.map (W.av (bt ids))=args) (hh:cM (bt ids) hp 0 ids=hin):
 gh P f us hp ctr (res.av (gP ids ctr)) (fm (gP ids ctr) hout++jt ids hp) (ctr+4):=
 (BP ids hok hfn ha hh).m
theorem Fb {f:FuncId} {us args:List W} {hp hin:List (Nat×bA)} {res:V} (ids:List Nat) (hlen:ids.length≤4) (HM:ids.Nodup) (hsub: ∀id,id∈ids→id∈us.flatMap W.ids) (hfn:Fn P f args hin res hin)
 (ha:us.map (W.av (bt ids))=args) (hh:cM (bt ids) hp 0 ids=hin)
 (C4: ∀id,id∈ids→ ∃b,find hp id=some b∧(b.av (bt ids)).av (fun j=>ids[j]?)=b):
 Ly P hp f us (res.av (fun j=>ids[j]?)):=by
 subst ha
 have hidx: ∀ {i j id:Nat},ids[i]? =some id→ids[j]? =some id→i=j:=by
  intro i j id h1 h2
  obtain⟨hi,e1⟩:=List.getElem?_eq_some_iff.1 h1
  obtain⟨hj,e2⟩:=List.getElem?_eq_some_iff.1 h2
  exact(List.getElem_inj HM).1 (e1.trans e2.symm)
 have hinv: ∀ {j id:Nat},ids[j]? =some id→bt ids id=some j:=by
  intro j id h
  cases hi:bt ids id with
  |none=>exact absurd h (iS hi j)
  |some k=>rw[hidx (eE hi) h]
 have DT: ∀ {j id:Nat},ids[j]? =some id→j < 4:=fun h=>by have:=(List.getElem?_eq_some_iff.1 h).1;omega
 intro hp2 hag M A ρ F a w n L xs hr hx
 have ET: ∀id,id∈ids→find hp2 id=find hp id:=fun id bN=>hag id (hsub id bN)
 have hsame: ∀ (l:List Nat) (j:Nat),(∀id,id∈l→id∈ids)→cM (bt ids) hp2 j l=cM (bt ids) hp j l:=by
  intro l
  induction l with
  |nil=>intro j _;rfl
  |cons x l ih=>
   intro j hl
   simp only[cM]
   rw[ET x (hl x List.mem_cons_self),ih (j+1) (fun id bN=>hl id (List.mem_cons_of_mem _ bN))]
 rw[←hsame ids 0 (fun _ h=>h)]at hh
 subst hh
 let ρ0:Env:=fun j=>(ids[j]?).bind ρ
 have Rj: ∀id k l,bt ids id=some k→ρ id=some l→ρ0 k=some l:=by
  intro id k l h1 h2
  simp only[ρ0,eE h1,Option.bind_some,h2]
 let M':Nat→Prop:=fun b=>qS ρ0 (cM (bt ids) hp2 0 ids) b∨w.heap.size≤b
 have M4: ∀b,b < w.heap.size→M' b→M b∧A b:=by
  intro b hb hm
  rcases hm with⟨j,blk,hf,hρ⟩|hm
  · obtain⟨i,id,b',rfl,h2,h3,_⟩:=cu hf
    simp only[Nat.zero_add,ρ0,h2,Option.bind_some]at hρ
    exact((hr.heap id b' h3).lt hρ).2
  · omega
 have hH:HR M' A ρ0 (bu 4) (cM (bt ids) hp2 0 ids) w:=by
  refine⟨rfl,rfl,fun t v hv=>by simp[find]at hv,fun j blk hf=>?_,fun j j' blk gf b h1 h2 r1 r2=>?_,fun j hj=>?_,hr.bound,fun b hb=> .inr hb,hr.ep.sub (fun b hb hm=>(M4 b hb hm).1) (fun _ h=>h)⟩
  · obtain⟨i,id,b',rfl,h2,h3,rfl⟩:=cu hf
    refine(hr.heap id b' h3).av Rj (fun l hl=>by simp only[Nat.zero_add,ρ0,h2,Option.bind_some,hl]) (fun b hb _=> .inl ⟨0+i,_,hf,by simp only[Nat.zero_add,ρ0,h2,Option.bind_some,hb]⟩)
  · obtain⟨i,id,b1,rfl,h3,h4,_⟩:=cu h1
    obtain⟨i',id',b2,rfl,OZ,R8,_⟩:=cu h2
    simp only[Nat.zero_add,ρ0,h3,OZ,Option.bind_some]at r1 r2
    have:=hr.inj id id' b1 b2 b h4 R8 r1 r2
    subst this
    rw[hidx h3 OZ]
  · simp only[ρ0]
    rw[List.getElem?_eq_none (by simp only[bu]at hj;omega)]
    rfl
 have hx':BW w A ρ0 (us.map (W.av (bt ids))) xs.toList:=by
  refine⟨by simpa using hx.1,fun k u y hu hy=>?_⟩
  simp only[List.getElem?_map,Option.map_eq_some_iff]at hu
  obtain⟨u',Bl,rfl⟩:=hu
  exact(hx.2 k u' y Bl hy).av Rj
 refine(hfn w A ρ0 xs hH hx').mono ?_
 rintro e w' ⟨x,A',ρ',F',rfl,hv,dB,dU,cJ,hg⟩
 let ρ2:Env:=fun k=>match bt ids k with
  |some j=>ρ' j
  |none=>ρ k
 have OV: ∀j k l,ids[j]? =some k→ρ' j=some l→ρ2 k=some l:=by
  intro j k l h1 h2
  simp only[ρ2,hinv h1]
  exact h2
 have hE:cZ ρ ρ2:=by
  intro id l hl
  simp only[ρ2]
  cases hi:bt ids id with
  |some j=>exact cJ j l (DT (eE hi)) (Rj id j l hi hl)
  |none=>exact hl
 have CZ:dj M w w':=dU.weaken (fun i hi ho=>(M4 i hi ho).1)
 have hk:eK A A' w w':=⟨dU.size,fun b hb J4=>⟨dU.block b hb (fun hm=>J4 (M4 b hb hm).2),fun h=>J4 (hg.2 b hb h)⟩⟩
 have hM': ∀b,M' b→M b:=fun b hm=>by
  rcases Nat.lt_or_ge b w.heap.size with hlt|hge
  · exact(M4 b hlt hm).1
  · exact hr.may b hge
 have adT: ∀ (l:List Nat) (s i id:Nat) (b:bA),l.Nodup→l[i]? =some id→find hp2 id=some b→find (cM (bt ids) hp2 s l) (s+i)=some (b.av (bt ids)):=by
  intro l
  induction l with
  |nil=>intro s i id b _ h;simp at h
  |cons y l ih=>
   intro s i id b HM h hf
   cases i with
   |zero=>
    simp only[List.getElem?_cons_zero,Option.some.injEq]at h
    subst h
    simp only[cM,hf,find,Nat.add_zero,if_true]
   |succ i=>
    simp only[List.getElem?_cons_succ]at h
    have:=ih (s+1) i id b (List.nodup_cons.1 HM).2 h hf
    rw[show s+(i+1)=s+1+i by omega]
    simp only[cM]
    split
    · rw[aA,if_neg (by omega)];exact this
    · exact this
 have same: ∀ {k:Nat} {l:_},ρ k=some l→ρ2 k=some l:=fun h=>hE _ _ h
 refine⟨x,A',ρ2,rfl,⟨hr.size,hr.defers,fun t v hv=>(hr.tmps t v hv).keeps hk dU.shape hE,fun k blk hf=>?_,fun k k' blk gf b h1 h2 r1 r2=>?_,fun k hk'=>?_,dB.bound,fun b hb=>hr.may b (Nat.le_trans dU.size hb),hr.ep.Ig CZ hg.2⟩,hv.av OV,CZ,hE,hg⟩
 · cases hi:bt ids k with
   |some j=>
    have RM:=eE hi
    have EN:=adT ids 0 j k blk HM RM hf
    rw[Nat.zero_add]at EN
    have hb:=dB.heap j _ EN
    have:=hb.av (f:=fun j=>ids[j]?) (ρ2:=ρ2) (M2:=M) (k:=k) OV (fun l hl=>OV j k l RM hl) (fun b _ hm=>hM' b hm)
    obtain⟨b0,hb0,pn⟩:=C4 k (List.mem_of_getElem? RM)
    rw[←ET k (List.mem_of_getElem? RM),hf]at hb0
    rw[←Option.some.inj hb0]at pn
    rw[pn]at this
    exact this
   |none=>
    have hb:=hr.heap k blk hf
    refine hb.keeps hk dU.shape hE hg.1 (fun b DW=>dU.block b (hb.lt DW).1 ?_)
    intro hm
    rcases hm with⟨j,bl,hfj,W6⟩|hm
    · obtain⟨i,id,b',rfl,q2,q3,_⟩:=cu hfj
      simp only[Nat.zero_add,ρ0,q2,Option.bind_some]at W6
      have:=hr.inj k id blk b' b hf q3 DW W6
      subst this
      exact iS hi i q2
    · have:=(hb.lt DW).1
      omega
 · obtain⟨l,hl⟩:=(hr.heap k blk h1).some
   obtain⟨l',hl'⟩:=(hr.heap k' gf h2).some
   have e1:=same hl
   have e2:=same hl'
   rw[e1]at r1
   rw[e2]at r2
   simp only[Option.some.injEq]at r1 r2
   subst r1
   subst r2
   exact hr.inj k k' blk gf b h1 h2 hl hl'
 · have h0:=hr.fresh k hk'
   cases hi:bt ids k with
   |none=>simp only[ρ2,hi];exact h0
   |some j=>
    exfalso
    have RM:=eE hi
    obtain⟨b0,hb0,_⟩:=C4 k (List.mem_of_getElem? RM)
    rw[←ET k (List.mem_of_getElem? RM)]at hb0
    obtain⟨l,hl⟩:=(hr.heap k b0 hb0).some
    rw[h0]at hl
    simp at hl
end Go.aT
end
