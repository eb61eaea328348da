import Derived.Test.YtcaeamnhfodfoaaGreatGA
import Derived.Laws.Strings
import Derived.Test.YtcaeamnhfodfoaaGreatProg
set_option linter.all false
section
namespace Go.aR
open Go
variable {P:Program} {M A:Nat→Prop} {ρ:Env} {F:Nat→Prop} {a:Act} {w:World}
def vP (ids:List Nat) (src h:HS):HS:=
 ids.foldl (fun h id=>match find src id with|some b=>(id,b)::del h id|none=>del h id) h
theorem gU (src:HS) (id:Nat): ∀ (ids:List Nat) (h:HS),find (vP ids src h) id=if id∈ids then find src id else find h id
 | [],h=>by simp[vP]
 |k::r,h=>by
  have ih:=gU src id r (match find src k with|some b=>(k,b)::del h k|none=>del h k)
  simp only[vP,List.foldl_cons]at ih⊢
  rw[ih]
  by_cases hr:id∈r
  · simp[hr]
  · simp only[hr,if_false,List.mem_cons,or_false]
    by_cases hk:id=k
    · subst hk
      simp only[if_true]
      cases hs:find src id with
      |none=>simp[ey]
      |some b=>simp[ai]
    · simp only[hk,if_false]
      have hk':¬k=id:=fun e=>hk e.symm
      cases hs:find src k with
      |none=>simp[ey,hk]
      |some b=>simp[ai,ey,hk,hk']
section
variable (dst:Nat→Option Nat) (v:Nat→V) (wr:Nat→List Nat) (hpT:Nat→HS) (uj:TS) (nc:HS)
def oC (L:Nat→Bool):Nat→TS
 |0=>uj
 |i+1=>if L i then dj (oC L i) (dst i) (v i)else oC L i
def oE (L:Nat→Bool):Nat→HS
 |0=>nc
 |i+1=>if L i then vP (wr i) (hpT (i+1)) (oE L i)else oE L i
theorem gV (tm:TS) (d:Option Nat) (u:V) (t:Nat):find (dj tm d u) t=if d=some t then some u else find tm t:=by
 cases d with
 |none=>simp[dj]
 |some d=>simp only[dj,ai,Option.some.injEq]
theorem ni (L1 L2:Nat→Bool) (t:Nat): ∀k,(∀i,i < k→dst i=some t→L1 i=L2 i)→find (oC dst v uj L1 k) t=find (oC dst v uj L2 k) t
 |0,_=>rfl
 |k+1,h=>by
  have ih:=ni L1 L2 t k (fun i hi=>h i (by omega))
  simp only[oC]
  by_cases hd:dst k=some t
  · rw[h k (by omega) hd]
    split
    · simp only[gV,hd,if_true]
    · exact ih
  · have e: ∀ (L:Nat→Bool),find (if L k then dj (oC dst v uj L k) (dst k) (v k)else oC dst v uj L k) t=find (oC dst v uj L k) t:=by
     intro L
     split
     · simp only[gV,hd,if_false]
     · rfl
    rw[e L1,e L2,ih]
theorem Ao (L:Nat→Bool) (t i:Nat) (hd:dst i=some t) (hL:L i=true): ∀k,i < k→(∀j,i < j→j < k→dst j=some t→L j=false)→find (oC dst v uj L k) t=some (v i)
 |0,h,_=>by omega
 |k+1,h,hj=>by
  simp only[oC]
  by_cases e:i=k
  · subst e
    simp only[hL,if_true,gV,hd]
  · have ih:=Ao L t i hd hL k (by omega) (fun j h1 h2=>hj j h1 (by omega))
    by_cases hk:dst k=some t
    · rw[hj k (by omega) (by omega) hk]
      exact ih
    · split
      · simp only[gV,hk,if_false];exact ih
      · exact ih
theorem nO (L1 L2:Nat→Bool) (id:Nat): ∀k,(∀i,i < k→id∈wr i→L1 i=L2 i)→find (oE wr hpT nc L1 k) id=find (oE wr hpT nc L2 k) id
 |0,_=>rfl
 |k+1,h=>by
  have ih:=nO L1 L2 id k (fun i hi=>h i (by omega))
  simp only[oE]
  by_cases hd:id∈wr k
  · rw[h k (by omega) hd]
    split
    · simp only[gU,hd,if_true]
    · exact ih
  · have e: ∀ (L:Nat→Bool),find (if L k then vP (wr k) (hpT (k+1)) (oE wr hpT nc L k)else oE wr hpT nc L k) id=find (oE wr hpT nc L k) id:=by
     intro L
     split
     · simp only[gU,hd,if_false]
     · rfl
    rw[e L1,e L2,ih]
theorem Bc (L:Nat→Bool) (id i:Nat) (hd:id∈wr i) (hL:L i=true): ∀k,i < k→(∀j,i < j→j < k→id∈wr j→L j=false)→find (oE wr hpT nc L k) id=find (hpT (i+1)) id
 |0,h,_=>by omega
 |k+1,h,hj=>by
  simp only[oE]
  by_cases e:i=k
  · subst e
    simp only[hL,if_true,gU,hd]
  · have ih:=Bc L id i hd hL k (by omega) (fun j h1 h2=>hj j h1 (by omega))
    by_cases hk:id∈wr k
    · rw[hj k (by omega) (by omega) hk]
      exact ih
    · split
      · simp only[gU,hk,if_false];exact ih
      · exact ih
theorem qt (tmT:Nat→TS) (N:Nat) (h0:tmT 0=uj) (hs: ∀i,i < N→ ∀t,find (tmT (i+1)) t=find (dj (tmT i) (dst i) (v i)) t) (L:Nat→Bool) (t:Nat): ∀k,k≤N→(∀i,i < k→L i=true)→find (oC dst v uj L k) t=find (tmT k) t
 |0,_,_=>by rw[h0];rfl
 |k+1,hk,hL=>by
  simp only[oC,hL k (by omega),if_true]
  rw[hs k (by omega) t,gV,gV,qt tmT N h0 hs L t k (by omega) (fun i hi=>hL i (by omega))]
theorem qW (N:Nat) (h0:hpT 0=nc) (hs: ∀i,i < N→ ∀id,¬id∈wr i→find (hpT (i+1)) id=find (hpT i) id) (L:Nat→Bool) (id:Nat): ∀k,k≤N→(∀i,i < k→L i=true)→find (oE wr hpT nc L k) id=find (hpT k) id
 |0,_,_=>by rw[h0];rfl
 |k+1,hk,hL=>by
  simp only[oE,hL k (by omega),if_true,gU]
  split
  · rfl
  · rename_i hn
    rw[qW N h0 hs L id k (by omega) (fun i hi=>hL i (by omega)),hs k (by omega) id hn]
theorem vG (i:Nat) (t:Nat): ∀k,i≤k→find (oC dst v uj (fun j=>decide (j < i)) k) t=find (oC dst v uj (fun j=>decide (j < i)) i) t
 |0,h=>by have:i=0:=by omega
          subst this;rfl
 |k+1,h=>by
  by_cases e:i=k+1
  · subst e;rfl
  · have ih:=vG i t k (by omega)
    have hn:decide (k < i)=false:=by simp;omega
    simp only[oC]
    rw[if_neg (by simp;omega)]
    exact ih
theorem wD (i:Nat) (id:Nat): ∀k,i≤k→find (oE wr hpT nc (fun j=>decide (j < i)) k) id=find (oE wr hpT nc (fun j=>decide (j < i)) i) id
 |0,h=>by have:i=0:=by omega
          subst this;rfl
 |k+1,h=>by
  by_cases e:i=k+1
  · subst e;rfl
  · have ih:=wD i id k (by omega)
    simp only[oE]
    rw[if_neg (by simp;omega)]
    exact ih
end
theorem fJ.sound {ops:Array Oper} {o:Oper} {i n nid:Nat} {tm:TS} {hp hp':HS} {v:V} {Q:Exit→Act→World→Prop} {K':Act→World→Prop} (hi:ops[i]? =some o)
 (h:fJ P ops o n tm hp nid v hp') (hr:Rel M A ρ F ⟨n,tm,hp⟩ a w) (hF: ∀k,nid≤k→k < nid+4→F k)
 (hk: ∀a' w' A' ρ',Rel M A' ρ' (Sub F nid) ⟨n,dj tm o.dst v,hp'⟩ a' w'→cJ M w w'→cN ρ ρ'→bp A A' w→K' a' w'):wpOp P ops Q i K' a w:=by
 obtain⟨hd,h⟩:=h
 have Bk:=kn hd
 unfold wpOp
 simp only[hi]
 have fin: ∀ {a2:Act} {w2:World} {A2:Nat→Prop} {ρ2:Env} {x:Value} {hp2:HS},Rel M A2 ρ2 (Sub F nid) ⟨n,tm,hp2⟩ a2 w2→RV w2 A2 ρ2 v x→Rel M A2 ρ2 (Sub F nid) ⟨n,dj tm o.dst v,hp2⟩ (a2.put o.dst x) w2:=by
  intro a2 w2 A2 ρ2 x hp2 r1 r2
  have:=r1.put (dst:=o.dst) r2 Bk
  rw[fu]at this
  exact this
 split at h
 · exact h.elim
 · rename_i hg
   have:=de hr hg
   simp only[this,Bool.false_eq_true,if_false]
   obtain⟨rfl,rfl⟩:=h
   exact hk _ _ A ρ (fin (hr.sub fun id h=>h.1) rQ) (cJ.refl _ _) (cN.refl _) (bp.refl _ _)
 · rename_i hg
   have:=de hr hg
   simp only[this,if_true]
   refine .inl ?_
   split at h
   · rename_i g us hc
     obtain⟨he,Xz⟩:=h
     obtain⟨xs,hx,hxs⟩:=mF (P:=P) hr hc he
     simp only[Oper.wp,hx,Oper.upon]
     refine(eL.sound hr hF Xz hxs).mono ?_
     rintro e w' ⟨x,A',ρ',rfl,r1,r2,r3,r4,r5⟩
     exact hk _ _ A' ρ' (fin r1 r2) r3 r4 r5
   · obtain⟨x,w',A',ρ',hrun,r1,r2,r3,r4,r5⟩:=mz h hr (hF nid (Nat.le_refl _) (by omega))
     rcases hrun with hrun|⟨hrun,rfl⟩
     · simp only[Oper.wp,hrun,Oper.upon]
       exact hk _ _ A' ρ' (fin r1 r2) r3 r4 r5
     · simp only[Oper.wp,hrun,Oper.upon]
       exact hk _ _ A' ρ' (fin r1 r2) r3 r4 r5
def aZ (o:Oper):List Nat:=(o.after.toList.filter (Region.binds .any)).map (·.on)
def kZ:List (List Nat)→List Nat→List Nat
 | [],acc=>acc
 |es::r,acc=>kZ r (acc++[es.foldl (fun s e=>s|||2 ^ e|||acc.getD e 0) 0])
theorem DA: ∀ (r:List (List Nat)) (acc:List Nat), ∃tail,kZ r acc=acc++tail∧tail.length=r.length
 | [],acc=>⟨[],by simp[kZ]⟩
 |es::r,acc=>by
  obtain⟨tail,h1,h2⟩:=DA r (acc++[es.foldl (fun s e=>s|||2 ^ e|||acc.getD e 0) 0])
  exact⟨_::tail,by simp only[kZ];rw[h1,List.append_assoc];rfl,by simp[h2]⟩
theorem DB: ∀ (r:List (List Nat)) (acc:List Nat) (k:Nat) (es:List Nat),r[k]? =some es→(∀e,e∈es→e < acc.length+k)→
 (kZ r acc).getD (acc.length+k) 0=es.foldl (fun s e=>s|||2 ^ e|||(kZ r acc).getD e 0) 0
 | [],acc,k,es,h,_=>by simp at h
 |Kf::r,acc,0,es,h,he=>by
  simp only[List.getElem?_cons_zero,Option.some.injEq]at h
  subst h
  simp only[kZ,Nat.add_zero]
  obtain⟨tail,h1,_⟩:=DA r (acc++[Kf.foldl (fun s e=>s|||2 ^ e|||acc.getD e 0) 0])
  rw[h1]
  have e1: ∀e,e∈Kf→(acc++[Kf.foldl (fun s e=>s|||2 ^ e|||acc.getD e 0) 0]++tail).getD e 0=acc.getD e 0:=by
   intro e hm
   have:=he e hm
   simp only[List.getD_eq_getElem?_getD,List.append_assoc]
   rw[List.getElem?_append_left (by omega)]
  have e2:(acc++[Kf.foldl (fun s e=>s|||2 ^ e|||acc.getD e 0) 0]++tail).getD acc.length 0=Kf.foldl (fun s e=>s|||2 ^ e|||acc.getD e 0) 0:=by
   simp[List.getD_eq_getElem?_getD]
  rw[e2]
  have gen: ∀ (l:List Nat) (s:Nat),(∀e,e∈l→e∈Kf)→l.foldl (fun s e=>s|||2 ^ e|||acc.getD e 0) s=l.foldl (fun s e=>s|||2 ^ e|||(acc++[Kf.foldl (fun s e=>s|||2 ^ e|||acc.getD e 0) 0]++tail).getD e 0) s:=by
   intro l
   induction l with
   |nil=>intro s _;rfl
   |cons x l ih=>
    intro s hs
    simp only[List.foldl_cons]
    rw[e1 x (hs x (by simp)),ih _ (fun e h=>hs e (by simp[h]))]
  exact gen Kf 0 (fun _ h=>h)
 |Kf::r,acc,k+1,es,h,he=>by
  have:=DB r (acc++[Kf.foldl (fun s e=>s|||2 ^ e|||acc.getD e 0) 0]) k es (by simpa using h) (fun e hm=>by have:=he e hm;simp;omega)
  simp only[kZ]
  rw[show acc.length+(k+1)=(acc++[Kf.foldl (fun s e=>s|||2 ^ e|||acc.getD e 0) 0]).length+k by simp;omega]
  exact this
theorem oP (g:Nat→Nat) (j:Nat): ∀ (l:List Nat) (s:Nat),(l.foldl (fun s e=>s|||2 ^ e|||g e) s).testBit j=true→s.testBit j=true∨ ∃e,e∈l∧(j=e∨(g e).testBit j=true)
 | [],s,h=> .inl h
 |e::r,s,h=>by
  simp only[List.foldl_cons]at h
  rcases oP g j r _ h with h|⟨e',h1,h2⟩
  · simp only[Nat.testBit_or,Bool.or_eq_true,Nat.testBit_two_pow,decide_eq_true_eq]at h
    rcases h with(h|h)|h
    · exact .inl h
    · exact .inr ⟨e,by simp, .inl h.symm⟩
    · exact .inr ⟨e,by simp, .inr h⟩
  · exact .inr ⟨e',by simp[h1],h2⟩
theorem qg {Es:List (List Nat)} (hE: ∀ (i:Nat) (es:List Nat),Es[i]? =some es→ ∀e,e∈es→e < i) {L:Nat→Bool}: ∀ (i:Nat),i < Es.length→
 (∀ (k:Nat) (es:List Nat),k < i→L k=true→Es[k]? =some es→ ∀e,e∈es→L e=true)→(∀ (es:List Nat),Es[i]? =some es→ ∀e,e∈es→L e=true)→ ∀j,((kZ Es []).getD i 0).testBit j=true→L j=true∧j < i:=by
 intro i
 induction i using Nat.strongRecOn with
 |_ i ih=>
  intro hi dA hE' j hb
  obtain⟨es,jI⟩: ∃es,Es[i]? =some es:=⟨Es[i],by simp[hi]⟩
  have:=DB Es [] i es jI (fun e he=>by simpa using hE i es jI e he)
  simp only[List.length_nil,Nat.zero_add]at this
  rw[this]at hb
  rcases oP _ j es 0 hb with h|⟨e,he,h⟩
  · simp at h
  · have hlt:=hE i es jI e he
    have hLe:=hE' es jI e he
    rcases h with rfl|h
    · exact⟨hLe,hlt⟩
    · obtain⟨h1,h2⟩:=ih e hlt (by omega) (fun k es' hk=>dA k es' (by omega)) (fun es' ahT e' he'=>dA e es' hlt hLe ahT e' he') j h
      exact⟨h1,by omega⟩
def EP (l r:List Nat):Bool:=l.all fun x=> !r.contains x
theorem cK {l r:List Nat} (h:EP l r=true) {x:Nat} (hx:x∈l) (hy:x∈r):False:=by
 have:=List.all_eq_true.1 h x hx
 simp only[Bool.not_eq_true',List.contains_eq_mem]at this
 simp[hy]at this
structure iD where
 dst:Option Nat
 nm:List Nat
 rd:List Nat
 wr:List Nat
def iD.apart (f g:iD):Bool:=
 EP f.dst.toList g.nm&&EP g.dst.toList f.nm&&EP f.dst.toList g.dst.toList&&EP f.wr g.rd&&EP g.wr f.rd&&EP f.wr g.wr
def w4 (Es:List (List Nat)) (fs:List iD):Bool:=
 let bits:=kZ Es []
 (List.range fs.length).all fun j=>match fs[j]? with
   |some g=>(List.range j).all fun i=>match fs[i]? with
    |some f=>(bits.getD j 0).testBit i||f.apart g
    |none=>true
   |none=>true
theorem tP {Es:List (List Nat)} {fs:List iD} (h:w4 Es fs=true) {i j:Nat} {f g:iD} (hij:i < j) (hf:fs[i]? =some f) (hg:fs[j]? =some g):
 ((kZ Es []).getD j 0).testBit i=true∨f.apart g=true:=by
 unfold w4 at h
 have hj:j < fs.length:=(List.getElem?_eq_some_iff.1 hg).1
 have:=List.all_eq_true.1 h j (List.mem_range.2 hj)
 simp only[hg]at this
 have:=List.all_eq_true.1 this i (List.mem_range.2 hij)
 simp only[hf,Bool.or_eq_true]at this
 exact this
theorem exists_least {p:Nat→Bool}: ∀ {N:Nat},(∃i,i < N∧p i=false)→ ∃i,i < N∧p i=false∧ ∀j,j < i→p j=true
 |0,⟨i,h,_⟩=>by omega
 |N+1,⟨i,h,hp⟩=>by
  by_cases hq: ∃i,i < N∧p i=false
  · obtain⟨k,h1,h2,h3⟩:=exists_least hq
    exact⟨k,by omega,h2,h3⟩
  · have hi:i=N:=by
     rcases Nat.lt_or_ge i N with hl|hl
     · exact absurd ⟨i,hl,hp⟩ hq
     · omega
    subst hi
    refine⟨i,by omega,hp,fun j hj=>?_⟩
    cases hpj:p j with
    |true=>rfl
    |false=>exact absurd ⟨j,hj,hpj⟩ hq
def nZ (L:Nat→Bool):Nat→Nat
 |0=>0
 |k+1=>nZ L k+if L k then 0 else 1
theorem sW {L:Nat→Bool}: ∀ {k:Nat},nZ L k=0→ ∀i,i < k→L i=true
 |0,_,i,hi=>by omega
 |k+1,h,i,hi=>by
  simp only[nZ]at h
  by_cases e:i=k
  · subst e
    cases hL:L i with
    |true=>rfl
    |false=>simp[hL]at h
  · exact sW (k:=k) (by omega) i (by omega)
theorem xj {L L':Nat→Bool} {i:Nat} (hi:L i=false) (hi':L' i=true) (hne: ∀j,j≠i→L' j=L j): ∀ {k:Nat},i < k→nZ L' k+1=nZ L k
 |0,h=>by omega
 |k+1,h=>by
  simp only[nZ]
  by_cases e:i=k
  · subst e
    have same: ∀ {m:Nat},m≤i→nZ L' m=nZ L m:=by
     intro m
     induction m with
     |zero=>intro _;rfl
     |succ m ih=>intro hm;simp only[nZ];rw[ih (by omega),hne m (by omega)]
    rw[same (Nat.le_refl _),hi,hi']
    simp
  · have:=xj hi hi' hne (k:=k) (by omega)
    rw[hne k (fun e'=>e e'.symm)]
    omega
def Gp (M A:Nat→Prop) (ρ:Env) (w:World) (Q:St→Nat→Prop) (a':Act) (w':World):Prop:=
 ∃st' bB A' ρ',Q st' bB∧Rel M A' ρ' (bg bB) st' a' w'∧cJ M w w'∧cN ρ ρ'∧bp A A' w
theorem Gp.Lv {Q:St→Nat→Prop} {a':Act} {w':World} (h:Gp M A ρ w Q a' w'):Post M A ρ w Q a' w':=by
 obtain⟨st',c',A',ρ',h1,h2,h3,h4,h5⟩:=h
 exact⟨st',c',A',ρ',h1,h2,h3,h4.Lv,h5.m⟩
theorem Dj {ops:Array Oper} {n base:Nat} {tmT:Nat→TS} {hpT:Nat→HS} {v:Nat→V} {fs:List iD} {id:Nat} {Q:Exit→Act→World→Prop}
 (hfo:P.follows .mixedOrders=true)
 (hstep: ∀i o,ops[i]? =some o→fJ P ops o n (tmT i) (hpT i) (base+4 * i) (v i) (hpT (i+1))∧(∀t,find (tmT (i+1)) t=find (dj (tmT i) o.dst (v i)) t)∧
   ∃f,fs[i]? =some f∧f.dst=o.dst∧(∀t,t∈names ops o→t∈f.nm)∧(∀k,k∈jG (St.get ⟨n,tmT i,hpT i⟩) o→k∈f.rd)∧(∀k,k∈uZ (St.get ⟨n,tmT i,hpT i⟩) (base+4 * i) o→k∈f.wr))
 (hE: ∀i o,ops[i]? =some o→ ∀e,e∈aZ o→e < i)
 (hok:w4 (ops.toList.map aZ) fs=true)
 (bR:Rel M A ρ (bg base) ⟨n,tmT 0,hpT 0⟩ a w)
 (hQ: ∀a' w',Gp M A ρ w (fun st c=>st=⟨n,tmT ops.size,hpT ops.size⟩∧c=base+4 * ops.size) a' w'→Q .normal a' w'):(Code.region id ops true).wp P Q a w:=by
 refine wp_region_any hfo ?_
 let N:=ops.size
 let dst:Nat→Option Nat:=fun i=>(ops[i]?).bind (·.dst)
 let wr:Nat→List Nat:=fun i=>((ops[i]?).map fun o=>uZ (St.get ⟨n,tmT i,hpT i⟩) (base+4 * i) o).getD []
 have hop: ∀i,i < N→ ∃o,ops[i]? =some o:=fun i hi=>⟨ops[i],by simp[show i < ops.size from hi]⟩
 have wJ: ∀i o,ops[i]? =some o→dst i=o.dst:=fun i o h=>by simp only[dst,h,Option.bind_some]
 have hwr: ∀i o,ops[i]? =some o→wr i=uZ (St.get ⟨n,tmT i,hpT i⟩) (base+4 * i) o:=by
  intro i o h
  simp only[wr,h,Option.map_some,Option.getD_some]
 have wE: ∀i,i < N→ ∀k,¬k∈wr i→find (hpT (i+1)) k=find (hpT i) k:=by
  intro i hi k hk
  obtain⟨o,ho⟩:=hop i hi
  obtain⟨h1,_⟩:=hstep i o ho
  obtain⟨_,_,h3⟩:=h1.loc (tm2:=tmT i) (hp2:=hpT i) (fun _ _=>rfl) (fun _ _=>rfl) (fun _ _=>rfl)
  rw[hwr i o ho]at hk
  exact(h3.2 k hk).1
 have Jz: ∀i,i < N→ ∀t,find (tmT (i+1)) t=find (dj (tmT i) (dst i) (v i)) t:=by
  intro i hi t
  obtain⟨o,ho⟩:=hop i hi
  rw[(hstep i o ho).2.1 t,wJ i o ho]
 have XM: ∀ (i:Nat) (es:List Nat),(ops.toList.map aZ)[i]? =some es→ ∀e,e∈es→e < i:=by
  intro i es h e he
  simp only[List.getElem?_map,Array.getElem?_toList,Option.map_eq_some_iff]at h
  obtain⟨o,ho,rfl⟩:=h
  exact hE i o ho e he
 let dg:Array Bool→Nat→Bool:=fun listed i=>listed.getD i false
 let Fr:(Nat→Bool)→Nat→Prop:=fun L k=>base+4 * N≤k∨ ∃j,j < N∧L j=false∧base+4 * j≤k∧k < base+4 * j+4
 have iW: ∀ {L:Nat→Bool} {i:Nat},i < N→(∀k o,ops[k]? =some o→L k=true→ ∀e,e∈aZ o→L e=true)→(∀o,ops[i]? =some o→ ∀e,e∈aZ o→L e=true)→
  ∀j,((kZ (ops.toList.map aZ) []).getD i 0).testBit j=true→L j=true:=by
  intro L i hi dA Lb j hb
  refine(qg XM i (by simpa using hi) (fun k es _ Hx jI e he=>?_) (fun es jI e he=>?_) j hb).1
  · simp only[List.getElem?_map,Array.getElem?_toList,Option.map_eq_some_iff]at jI
    obtain⟨o,ho,rfl⟩:=jI
    exact dA k o ho Hx e he
  · simp only[List.getElem?_map,Array.getElem?_toList,Option.map_eq_some_iff]at jI
    obtain⟨o,ho,rfl⟩:=jI
    exact Lb o ho e he
 have hNs:N=ops.size:=rfl
 have finish: ∀ (L:Nat→Bool) (a':Act) (w':World) (A':Nat→Prop) (ρ':Env),(∀i,i < N→L i=true)→
  Rel M A' ρ' (Fr L) ⟨n,oC dst v (tmT 0) L N,oE wr hpT (hpT 0) L N⟩ a' w'→cJ M w w'→cN ρ ρ'→bp A A' w→Q .normal a' w':=by
  intro L a' w' A' ρ' hall hr dJ cC hg
  refine hQ _ _ ⟨⟨n,tmT ops.size,hpT ops.size⟩,base+4 * ops.size,A',ρ',⟨rfl,rfl⟩,?_,dJ,cC,hg⟩
  have h1:Rel M A' ρ' (Fr L) ⟨n,tmT ops.size,hpT ops.size⟩ a' w':=hr.forget rfl (fun t u hu=>by
   rw[show find (⟨n,oC dst v (tmT 0) L N,oE wr hpT (hpT 0) L N⟩:St).tmps t=find (tmT N) t from qt dst v (tmT 0) tmT N rfl Jz L t N (Nat.le_refl _) hall];exact hu) (fun k b hb=>by
   rw[show find (⟨n,oC dst v (tmT 0) L N,oE wr hpT (hpT 0) L N⟩:St).heap k=find (hpT N) k from qW wr hpT (hpT 0) N rfl wE L k N (Nat.le_refl _) hall];exact hb)
  exact h1.sub (fun k hk=> .inl hk)
 have main: ∀ (fuel:Nat) (listed:Array Bool) (a':Act) (w':World) (A':Nat→Prop) (ρ':Env),listed.size=N→nZ (dg listed) N≤fuel→
  (∀k o,ops[k]? =some o→dg listed k=true→ ∀e,e∈aZ o→dg listed e=true)→
  Rel M A' ρ' (Fr (dg listed)) ⟨n,oC dst v (tmT 0) (dg listed) N,oE wr hpT (hpT 0) (dg listed) N⟩ a' w'→cJ M w w'→cN ρ ρ'→bp A A' w→
  wpAny P .any ops Q fuel listed a' w':=by
  intro fuel
  induction fuel with
  |zero=>
   intro listed a' w' A' ρ' hsz Ex dA hr dJ cC hg
   have hall:=sW (Nat.le_zero.1 Ex)
   refine⟨?_,finish _ a' w' A' ρ' hall hr dJ cC hg⟩
   apply List.eq_nil_iff_forall_not_mem.2
   intro i hi
   rw[mem_ready]at hi
   obtain⟨h0,o,ho,_⟩:=hi
   have hlt:i < N:=(Array.getElem?_eq_some_iff.1 ho).1
   have:=hall i hlt
   simp only[dg,Array.getD_eq_getD_getElem?]at this h0
   have kr:i < listed.size:=by omega
   simp[kr]at this h0
   simp[this]at h0
  |succ fuel ih=>
   intro listed a' w' A' ρ' hsz Ex dA hr dJ cC hg
   refine⟨fun CV=>?_,fun i hi=>?_⟩
   · by_cases hex: ∃i,i < N∧dg listed i=false
     · exfalso
       obtain⟨i,hi,hL,Er⟩:=exists_least hex
       obtain⟨o,ho⟩:=hop i hi
       have:i∈Region.ready .any ops listed:=by
        rw[mem_ready]
        refine⟨?_,o,ho,fun e he hb=>?_⟩
        · simp only[dg,Array.getD_eq_getD_getElem?]at hL⊢
          have kr:i < listed.size:=by omega
          simpa[kr]using hL
        · have hm:e.on∈aZ o:=by simp only[aZ,List.mem_map,List.mem_filter];exact⟨e,⟨by simpa using he,hb⟩,rfl⟩
          exact Er _ (hE i o ho _ hm)
       rw[CV]at this
       simp at this
     · exact finish _ a' w' A' ρ' (fun i hi=>by cases h:dg listed i with|true=>rfl|false=>exact absurd ⟨i,hi,h⟩ hex) hr dJ cC hg
   · rw[mem_ready]at hi
     obtain⟨h0,o,ho,wI⟩:=hi
     have Bg:i < N:=(Array.getElem?_eq_some_iff.1 ho).1
     have Hy:dg listed i=false:=by
      simp only[dg,Array.getD_eq_getD_getElem?]at h0⊢
      have kr:i < listed.size:=by omega
      simpa[kr]using h0
     have Lb: ∀e,e∈aZ o→dg listed e=true:=by
      intro e he
      simp only[aZ,List.mem_map,List.mem_filter]at he
      obtain⟨ed,⟨h1,h2⟩,rfl⟩:=he
      exact wI ed (by simpa using h1) h2
     obtain⟨hst,afI,f,hf,fd,fn,fr,fw⟩:=hstep i o ho
     have order: ∀j oj g,j≠i→ops[j]? =some oj→fs[j]? =some g→(f.apart g=true∨g.apart f=true)∨(j < i∧dg listed j=true)∨(i < j∧dg listed j=false):=by
      intro j oj g fK pW jH
      have hjN:j < N:=(Array.getElem?_eq_some_iff.1 pW).1
      rcases Nat.lt_or_gt_of_ne fK with hlt|hgt
      · rcases tP hok hlt jH hf with hb|hb
        · exact .inr (.inl ⟨hlt,iW Bg dA (fun o' xR=>by rw[ho]at xR;simp only[Option.some.injEq]at xR;subst xR;exact Lb) j hb⟩)
        · exact .inl (.inr hb)
      · rcases tP hok hgt hf jH with hb|hb
        · refine .inr (.inr ⟨hgt,?_⟩)
          cases hLj:dg listed j with
          |false=>rfl
          |true=>
           have:=iW hjN dA (fun o' xR=>dA j o' xR hLj) i hb
           rw[Hy]at this
           simp at this
        · exact .inl (.inl hb)
     have wQ: ∀j,j < N→ ∃oj g,ops[j]? =some oj∧fs[j]? =some g∧g.dst=dst j∧ ∀k,k∈wr j→k∈g.wr:=by
      intro j hj
      obtain⟨oj,pW⟩:=hop j hj
      obtain⟨_,_,g,g1,g2,_,_,g5⟩:=hstep j oj pW
      exact⟨oj,g,pW,g1,by rw[g2,wJ j oj pW],fun k hk=>g5 k (by rw[hwr j oj pW]at hk;exact hk)⟩
     have apart_spec: ∀ {f g:iD},(f.apart g=true∨g.apart f=true)→(∀t,f.dst=some t→g.dst=some t→False)∧(∀t,g.dst=some t→t∈f.nm→False)∧(∀k,k∈g.wr→k∈f.rd→False)∧(∀k,k∈g.wr→k∈f.wr→False):=by
      intro f g h
      rcases h with h|h<;>simp only[iD.apart,Bool.and_eq_true]at h<;>obtain⟨⟨⟨⟨⟨h1,h2⟩,h3⟩,h4⟩,h5⟩,h6⟩:=h
      · exact⟨fun t a b=>cK (x:=t) h3 (by simp[a]) (by simp[b]),fun t a b=>cK (x:=t) h2 (by simp[a]) b,fun k a b=>cK h5 a b,fun k a b=>cK h6 b a⟩
      · exact⟨fun t a b=>cK (x:=t) h3 (by simp[b]) (by simp[a]),fun t a b=>cK (x:=t) h1 (by simp[a]) b,fun k a b=>cK h4 a b,fun k a b=>cK h6 a b⟩
     have E2: ∀t,t∈names ops o→find (oC dst v (tmT 0) (dg listed) N) t=find (tmT i) t:=by
      intro t ht
      rw[ni dst v (tmT 0) (dg listed) (fun j=>decide (j < i)) t N ?_,vG dst v (tmT 0) i t N (Nat.le_of_lt Bg),qt dst v (tmT 0) tmT N rfl Jz _ t i (Nat.le_of_lt Bg) (fun j hj=>by simpa using hj)]
      intro j hj Bj
      by_cases fK:j=i
      · subst fK;rw[Hy];simp
      · obtain⟨oj,g,pW,jH,gd,gw⟩:=wQ j hj
        rcases order j oj g fK pW jH with hap|⟨h1,h2⟩|⟨h1,h2⟩
        · exact((apart_spec hap).2.1 t (by rw[gd,Bj]) (fn t ht)).elim
        · rw[h2];simp[h1]
        · rw[h2];simp;omega
     have xD: ∀k,(k∈f.rd∨k∈f.wr)→find (oE wr hpT (hpT 0) (dg listed) N) k=find (hpT i) k:=by
      intro k hk
      rw[nO wr hpT (hpT 0) (dg listed) (fun j=>decide (j < i)) k N ?_,wD wr hpT (hpT 0) i k N (Nat.le_of_lt Bg),qW wr hpT (hpT 0) N rfl wE _ k i (Nat.le_of_lt Bg) (fun j hj=>by simpa using hj)]
      intro j hj Bj
      by_cases fK:j=i
      · subst fK;rw[Hy];simp
      · obtain⟨oj,g,pW,jH,gd,gw⟩:=wQ j hj
        rcases order j oj g fK pW jH with hap|⟨h1,h2⟩|⟨h1,h2⟩
        · rcases hk with hk|hk
          · exact((apart_spec hap).2.2.1 k (gw k Bj) hk).elim
          · exact((apart_spec hap).2.2.2 k (gw k Bj) hk).elim
        · rw[h2];simp[h1]
        · rw[h2];simp;omega
     have JM: ∀k,k∈four (base+4 * i)→k∈f.wr:=fun k hk=>fw k (by simp only[uZ,List.mem_append];exact .inl hk)
     obtain⟨nP,QN,Mt⟩:=hst.loc (tm2:=oC dst v (tmT 0) (dg listed) N) (hp2:=oE wr hpT (hpT 0) (dg listed) N) E2 (fun k hk=>xD k (.inl (fr k hk))) (fun k hk=>xD k (.inr (JM k hk)))
     rw[←hwr i o ho]at Mt
     refine fJ.sound ho QN hr (fun k h1 h2=> .inr ⟨i,Bg,Hy,h1,h2⟩) ?_
     intro a2 w2 A2 ρ2 r1 r2 r3 r4
     have JD: ∀j,dg (listed.setIfInBounds i true) j=if j=i then true else dg listed j:=by
      intro j
      by_cases fK:j=i
      · subst fK
        have:j < listed.size:=by omega
        simp[dg,Array.getD_eq_getD_getElem?,this]
      · simp only[dg,fK,if_false]
        exact getD_set_ne false (fun e=>fK e.symm)
     have wN:dg (listed.setIfInBounds i true) i=true:=by rw[JD];simp
     have mQ: ∀j,j≠i→dg (listed.setIfInBounds i true) j=dg listed j:=fun j hj=>by rw[JD,if_neg hj]
     have later: ∀j,i < j→j < N→(∀oj g,ops[j]? =some oj→fs[j]? =some g→(f.apart g=true∨g.apart f=true)→False)→dg (listed.setIfInBounds i true) j=false:=by
      intro j h1 h2 h3
      obtain⟨oj,g,pW,jH,gd,gw⟩:=wQ j h2
      rw[mQ j (by omega)]
      rcases order j oj g (by omega) pW jH with hap|⟨h4,_⟩|⟨_,h5⟩
      · exact(h3 oj g pW jH hap).elim
      · omega
      · exact h5
     refine ih (listed.setIfInBounds i true) a2 w2 A2 ρ2 (by simpa using hsz) ?_ ?_ ?_ (dJ.trans r2) (cC.trans r3) (hg.trans r4 dJ.size)
     · have:=xj (L:=dg listed) (L':=dg (listed.setIfInBounds i true)) Hy wN mQ (k:=N) Bg
       omega
     · intro k ok' uE Hx e he
       by_cases o7:k=i
       · subst o7
         rw[ho]at uE
         simp only[Option.some.injEq]at uE
         subst uE
         exact getD_set_true (Lb e he)
       · rw[mQ k o7]at Hx
         exact getD_set_true (dA k ok' uE Hx e he)
     · refine(Rel.forget (st':=⟨n,oC dst v (tmT 0) (dg (listed.setIfInBounds i true)) N,oE wr hpT (hpT 0) (dg (listed.setIfInBounds i true)) N⟩) r1 rfl (fun t u hu=>?_) (fun k b hb=>?_)).sub (fun k hk=>?_)
       · simp only[gV]
         split
         · rename_i hd
           have o6:=Ao dst v (tmT 0) (dg (listed.setIfInBounds i true)) t i (by rw[wJ i o ho];exact hd) wN N Bg (fun j h1 h2 h3=>later j h1 h2 (fun oj g pW jH hap=>by
            obtain⟨_,g',_,xS,gd,_⟩:=wQ j h2
            rw[jH]at xS
            simp only[Option.some.injEq]at xS
            subst xS
            exact(apart_spec hap).1 t (by rw[fd];exact hd) (by rw[gd];exact h3)))
           rw[←o6];exact hu
         · rename_i hd
           rw[ni dst v (tmT 0) (dg listed) (dg (listed.setIfInBounds i true)) t N (fun j hj Bj=>by
            by_cases fK:j=i
            · subst fK;rw[wJ j o ho]at Bj;exact absurd Bj hd
            · exact(mQ j fK).symm)]
           exact hu
       · by_cases hk:k∈wr i
         · have hkw:k∈f.wr:=fw k (by rw[←hwr i o ho];exact hk)
           have o6:=Bc wr hpT (hpT 0) (dg (listed.setIfInBounds i true)) k i hk wN N Bg (fun j h1 h2 h3=>later j h1 h2 (fun oj g pW jH hap=>by
            obtain⟨_,g',_,xS,_,gw⟩:=wQ j h2
            rw[jH]at xS
            simp only[Option.some.injEq]at xS
            subst xS
            exact(apart_spec hap).2.2.2 k (gw k h3) hkw))
           rw[Mt.1 k hk, ←o6];exact hb
         · rw[(Mt.2 k hk).2,nO wr hpT (hpT 0) (dg listed) (dg (listed.setIfInBounds i true)) k N (fun j hj Bj=>by
            by_cases fK:j=i
            · subst fK;exact absurd Bj hk
            · exact(mQ j fK).symm)]
           exact hb
       · refine⟨?_,?_⟩
         · rcases hk with hk|⟨j,h1,h2,h3⟩
           · exact .inl hk
           · by_cases fK:j=i
             · subst fK;rw[wN]at h2;simp at h2
             · rw[mQ j fK]at h2;exact .inr ⟨j,h1,h2,h3⟩
         · rintro⟨q1,q2⟩
           rcases hk with hk|⟨j,h1,h2,h3,h4⟩
           · omega
           · by_cases fK:j=i
             · subst fK;rw[wN]at h2;simp at h2
             · omega
 have h0: ∀i,dg (Array.replicate ops.size false) i=false:=by
  intro i
  simp only[dg,Array.getD_eq_getD_getElem?]
  by_cases hi:i < ops.size<;>simp[hi]
 refine main ops.size (Array.replicate ops.size false) a _ A ρ (by simp[N]) ?_ (fun k o _ hL=>by rw[h0]at hL;simp at hL) ?_ (cJ.drew M w) (cN.refl _) (bp.refl _ _)
 · have: ∀k,nZ (dg (Array.replicate ops.size false)) k=k:=by
    intro k
    induction k with
    |zero=>rfl
    |succ k ih=>simp only[nZ,ih,h0];simp
   rw[this]
   exact Nat.le_refl _
 · have eT: ∀k,oC dst v (tmT 0) (dg (Array.replicate ops.size false)) k=tmT 0:=by
    intro k
    induction k with
    |zero=>rfl
    |succ k ih=>simp only[oC,h0,Bool.false_eq_true,if_false,ih]
   have eH: ∀k,oE wr hpT (hpT 0) (dg (Array.replicate ops.size false)) k=hpT 0:=by
    intro k
    induction k with
    |zero=>rfl
    |succ k ih=>simp only[oE,h0,Bool.false_eq_true,if_false,ih]
   rw[eT,eH]
   refine bR.drew.sub (fun k hk=>?_)
   simp only[bg]
   rcases hk with hk|⟨j,_,_,h3,_⟩<;>omega
theorem wZ {ops:Array Oper} {n base:Nat} {tmT:Nat→TS} {hpT:Nat→HS} {v:Nat→V} {fs:List iD} {id:Nat} {Q:Exit→Act→World→Prop}
 (hfo:P.follows .mixedOrders=true)
 (hstep: ∀i o,ops[i]? =some o→fJ P ops o n (tmT i) (hpT i) (base+4 * i) (v i) (hpT (i+1))∧(∀t,find (tmT (i+1)) t=find (dj (tmT i) o.dst (v i)) t)∧
   ∃f,fs[i]? =some f∧f.dst=o.dst∧(∀t,t∈names ops o→t∈f.nm)∧(∀k,k∈jG (St.get ⟨n,tmT i,hpT i⟩) o→k∈f.rd)∧(∀k,k∈uZ (St.get ⟨n,tmT i,hpT i⟩) (base+4 * i) o→k∈f.wr))
 (hE: ∀i o,ops[i]? =some o→ ∀e,e∈aZ o→e < i)
 (hok:w4 (ops.toList.map aZ) fs=true)
 (bR:Rel M A ρ (bg base) ⟨n,tmT 0,hpT 0⟩ a w)
 (hQ: ∀a' w',Post M A ρ w (fun st c=>st=⟨n,tmT ops.size,hpT ops.size⟩∧c=base+4 * ops.size) a' w'→Q .normal a' w'):(Code.region id ops true).wp P Q a w:=
 Dj hfo hstep hE hok bR fun a' w' h=>hQ a' w' h.Lv
end Go.aR
end
section
namespace Go.aR
open Go
inductive Rc where
 |skip
 |ret
 |exit (id:Nat)
 |seq (a b:Rc)
 |cond (c:di) (a b:Rc)
 |block (id:Nat) (b:Rc)
 |loop (b:Rc)
 |region (ops:List kp)
 |draw (ops:List kp) (es:List (List Nat))
def aQ (P:Program) (all:Array Oper):List Oper→Option (List kp)
 | []=>some []
 |o::r=>
  match aX P o,aQ P all r with
  |some x,some l=>
   match o.guard with
   |none=>some (⟨o.dst,none,x⟩::l)
   |some (j,want)=>
    match(all[j]?).bind (·.dst)with
    |some d=>some (⟨o.dst,some (d,want),x⟩::l)
    |none=>none
  |_,_=>none
def vl:Nat→List (List Nat)→Bool
 |_,[]=>true
 |i,es::r=>es.all (fun e=>decide (e < i))&&vl (i+1) r
def aC (P:Program):Code→Option Rc
 | .skip=>some .skip
 | .ret=>some .ret
 | .exit id=>some (.exit id)
 | .seq a b=>match aC P a,aC P b with
   |some x,some y=>some (.seq x y)
   |_,_=>none
 | .cond c a b=>match aC P a,aC P b with
   |some x,some y=>some (.cond (dy c) x y)
   |_,_=>none
 | .block id b=>match aC P b with
   |some x=>some (.block id x)
   |none=>none
 | .loop b=>match aC P b with
   |some x=>some (.loop x)
   |none=>none
 | .region _ ops false=>match aQ P ops ops.toList with
   |some l=>some (.region l)
   |none=>none
 | .region _ ops true=>match aQ P ops ops.toList with
   |some l=>if P.follows .mixedOrders&&vl 0 (ops.toList.map aZ)then some (.draw l (ops.toList.map aZ))else none
   |none=>none
 |_=>none
def Fl (tm:TS):List di→Option (List W)
 | []=>some []
 |x::r=>match x.get tm,Fl tm r with
  | .w u,some l=>some (u::l)
  |_,_=>none
def sK {α:Sort _} (n:Nat) (k:Nat→α):α:=
 match n with
 |0=>k 0
 |m+1=>k (Nat.succ m)
theorem fS {α:Sort _} (n:Nat) (k:Nat→α):sK n k=k n:=by cases n<;>rfl
def AG (tm:TS) (dst:Option Nat) (v:V) (K:TS→Prop):Prop:=
 match dst with
 |some d=>K ((d,v)::tm)
 |none=>K tm
theorem iw (tm:TS) (dst:Option Nat) (v:V) (K:TS→Prop):AG tm dst v K=K (dj tm dst v):=by cases dst<;>rfl
def Zz (v:V) (us:List W):Option (FuncId×List W):=
 match v with
 | .w (.one (.kM f df))=>some (f,us++df.map fun p=> .one (.ptr p.1 p.2.1 p.2.2.1 p.2.2.2))
 | .w (.one (.lQ f true ts))=>some (f, .agg (ts.map .t)::us)
 | .w (.one (.lQ f false [t]))=>some (f, .one (.t t)::us)
 | .w (.one (.t (.val (.func (.func f) first df))))=>if first.isEmpty&&df.isEmpty then some (f,us)else none
 |_=>none
def EvR (P:Program) (op:Op) (ty:TypeId) (tm:TS) (hp:HS) (ctr:Nat) (v:V) (hp':HS):Prop:=
 (∀get,bL get ⟨none,op,ty, "", #[],none⟩=none)∧ ∀ (n:Nat) (o:Oper),o.op=op→o.type=ty→aq P (St.get ⟨n,tm,hp⟩) hp ctr o=some (v,hp')
def OJ (P:Program) (o:kp) (tm:TS) (hp:HS) (ctr:Nat) (K:TS→HS→Nat→Prop):Prop:=
 match o.op with
 | .call f args=>match Fl tm args with
   |some us=> ∃v hp',eL P hp ctr f us v hp'∧tJ v fun v=>AG tm o.dst v fun aY=>sK (ctr+4) fun c=>K aY hp' c
   |none=>False
 | .kN x args=>match Fl tm args with
   |some us=>match Zz (x.get tm) us with
    |some (f,fL)=>enters P f=true∧ ∃v hp',eL P hp ctr f fL v hp'∧tJ v fun v=>AG tm o.dst v fun aY=>sK (ctr+4) fun c=>K aY hp' c
    |none=>False
   |none=>False
 | .raw op ty=> ∃v hp',EvR P op ty tm hp ctr v hp'∧tJ v fun v=>AG tm o.dst v fun aY=>sK (ctr+4) fun c=>K aY hp' c
 |r=>XR r tm hp ctr fun v hp'=>AG tm o.dst v fun aY=>sK (ctr+4) fun c=>K aY hp' c
def ja (P:Program) (n:Nat) (op:Op) (ty:TypeId) (tm:TS) (hp:HS) (ctr:Nat) (v:V) (hp':HS):Prop:=
 ∀o:Oper,o.op=op→o.type=ty→rH P o n tm hp ctr v hp'
def uY (P:Program) (n:Nat) (o:kp) (tm:TS) (hp:HS) (ctr:Nat) (K:TS→HS→Nat→Prop):Prop:=
 match o.op with
 | .call f args=>match Fl tm args with
   |some us=> ∃v hp' c',eM P f us hp ctr v hp' c'∧tJ v fun v=>AG tm o.dst v fun aY=>sK c' fun c=>K aY hp' c
   |none=>False
 | .kN x args=>match Fl tm args with
   |some us=>match Zz (x.get tm) us with
    |some (f,fL)=>enters P f=true∧ ∃v hp' c',eM P f fL hp ctr v hp' c'∧tJ v fun v=>AG tm o.dst v fun aY=>sK c' fun c=>K aY hp' c
    |none=>False
   |none=>False
 | .raw op ty=> ∃v hp',ja P n op ty tm hp ctr v hp'∧tJ v fun v=>AG tm o.dst v fun aY=>sK (ctr+4) fun c=>K aY hp' c
 |r=>XR r tm hp ctr fun v hp'=>AG tm o.dst v fun aY=>sK (ctr+4) fun c=>K aY hp' c
def KI (P:Program) (n:Nat) (o:kp) (tm:TS) (hp:HS) (ctr:Nat) (K:TS→HS→Nat→Prop):Prop:=
 match fE n o.dst with
 |false=>False
 |true=>
  match o.guard with
  |none=>uY P n o tm hp ctr K
  |some (d,want)=>
   match find tm d with
   |some (.w (.one (.t (.val (.bool b)))))=>
    match want with
    |true=>br b (uY P n o ((d,bV true)::tm) hp ctr K) (K (dj ((d,bV false)::tm) o.dst (.ef [])) hp ctr)
    |false=>br b (K (dj ((d,bV true)::tm) o.dst (.ef [])) hp ctr) (uY P n o ((d,bV false)::tm) hp ctr K)
   |some (.ef [])=>K (dj tm o.dst (.ef [])) hp ctr
   |_=>False
def iZ (P:Program) (n:Nat):List kp→TS→HS→Nat→(TS→HS→Nat→Prop)→Prop
 | [],tm,hp,ctr,K=>K tm hp ctr
 |o::r,tm,hp,ctr,K=>KI P n o tm hp ctr fun tm hp ctr=>iZ P n r tm hp ctr K
def Ro.iO:Ro→List di
 | .DL x| .box x| .load _ x| .zP _ x| .field _ _ x| .extract x _| .len x| .GH x| .not x| .neg x| .conv _ x| .Ky x=>[x]
 | .pick c x y=>[c,x,y]
 | .alloc _=>[]
 | .build _ ps=>ps.map (·.2.2)
 | .sY _ _ ps=>ps.map (·.2)
 | .store _ x y| .CP _ x y| .wz _ _ x y| .make _ _ x y| .append _ _ x y| .bin _ x y| .KA _ x y| .RM _ _ x y| .GF x y| .GG x y| .IP x y=>[x,y]
 | .slice _ x lo hi=>x::(lo.toList++hi.toList)
 | .kM _ df=>df
 | .call _ xs=>xs
 | .kN x xs=>x::xs
 | .raw op _=>op.operands.toList.map dy
def Ro.looks:Ro→Bool
 | .raw op _=>Go.aR.looks op
 | .load .. | .store .. | .append .. | .len .. | .GH .. | .GF .. | .GG .. | .call .. | .kN .. | .conv .. | .Ky .. =>true
 |_=>false
def Ro.YV:Ro→Bool
 | .raw op _=>writes op
 | .store .. | .append .. =>true
 |_=>false
def VX:di→Option Nat
 | .t n=>some n
 | .c _=>none
def dP (o:kp) (tm:TS) (ctr:Nat):iD:=
 let rd:=if o.op.looks then o.op.iO.flatMap fun x=>(x.get tm).ids else []
 ⟨o.dst,o.op.iO.filterMap VX++(o.guard.map (·.1)).toList,rd,four ctr++if o.op.YV then rd else []⟩
def KH (P:Program) (n:Nat) (o:kp) (tm:TS) (hp:HS) (ctr:Nat) (K:iD→TS→HS→Nat→Prop):Prop:=
 match fE n o.dst with
 |false=>False
 |true=>
  match o.guard with
  |none=>OJ P o tm hp ctr (K (dP o tm ctr))
  |some (d,want)=>
   match find tm d with
   |some (.w (.one (.t (.val (.bool b)))))=>
    match want with
    |true=>br b (OJ P o ((d,bV true)::tm) hp ctr (K (dP o ((d,bV true)::tm) ctr))) (K (dP o ((d,bV false)::tm) ctr) (dj ((d,bV false)::tm) o.dst (.ef [])) hp (ctr+4))
    |false=>br b (K (dP o ((d,bV true)::tm) ctr) (dj ((d,bV true)::tm) o.dst (.ef [])) hp (ctr+4)) (OJ P o ((d,bV false)::tm) hp ctr (K (dP o ((d,bV false)::tm) ctr)))
   |some (.ef [])=>K (dP o tm ctr) (dj tm o.dst (.ef [])) hp (ctr+4)
   |_=>False
def rE (P:Program) (n:Nat):List kp→List iD→TS→HS→Nat→(List iD→TS→HS→Nat→Prop)→Prop
 | [],fs,tm,hp,ctr,K=>K fs tm hp ctr
 |o::r,fs,tm,hp,ctr,K=>KH P n o tm hp ctr fun f tm hp ctr=>rE P n r (fs++[f]) tm hp ctr K
def gj (K:TS→HS→Nat→Prop) (Q:Exit→TS→HS→Nat→Prop):Exit→TS→HS→Nat→Prop
 | .normal=>K
 |e=>Q e
def rN (id:Nat) (Q:Exit→TS→HS→Nat→Prop):Exit→TS→HS→Nat→Prop
 | .exit id'=>if id'=id then Q .normal else Q (.exit id')
 |e=>Q e
def dL (tm:TS) (hp:HS) (ctr:Nat) (aY:TS) (hp':HS) (c':Nat):Prop:=
 ∀ (M A:Nat→Prop) (ρ:Env) (n:Nat) (a:Act) (w:World),Rel M A ρ (bg ctr) ⟨n,tm,hp⟩ a w→ ∃A' ρ',Rel M A' ρ' (bg c') ⟨n,aY,hp'⟩ a w∧iE ρ ρ'∧fT M A A' w
theorem dL.au {tm:TS} {hp:HS} {ctr:Nat} {S:Ren} (hok:S.ok=true):dL tm hp ctr (S.tm tm) (S.hp hp) S.ctr:=fun M A _ _ _ w hr=>by
 obtain⟨ρ',h1,h2⟩:=hr.au hok
 exact⟨A,ρ',h1,h2,fT.refl M A w⟩
theorem dL.refl {tm:TS} {hp:HS} {ctr:Nat}:dL tm hp ctr tm hp ctr:=fun M A ρ _ _ w hr=>⟨A,ρ,hr,iE.refl _,fT.refl M A w⟩
theorem dL.trans {tm lT tm2:TS} {hp hp1 hp2:HS} {c c1 c2:Nat} (h:dL tm hp c lT hp1 c1) (k:dL lT hp1 c1 tm2 hp2 c2):dL tm hp c tm2 hp2 c2:=by
 intro M A ρ n a w hr
 obtain⟨A1,ρ1,h1,e1,g1⟩:=h M A ρ n a w hr
 obtain⟨A2,ρ2,h2,e2,g2⟩:=k M A1 ρ1 n a w h1
 exact⟨A2,ρ2,h2,e1.trans e2,g1.trans g2 (Nat.le_refl _)⟩
inductive bQ (J:TS→HS→Nat→Prop):TS→HS→Nat→Prop
 |mk {tm:TS} {hp:HS} {ctr:Nat} (S:Ren) (hok:S.ok=true) (h:J (S.tm tm) (S.hp hp) S.ctr):bQ J tm hp ctr
 |sem {tm:TS} {hp:HS} {ctr:Nat} {aY:TS} {hp':HS} {c':Nat} (hw:dL tm hp ctr aY hp' c') (h:bQ J aY hp' c'):bQ J tm hp ctr
theorem bQ.mk' {J:TS→HS→Nat→Prop} {tm:TS} {hp:HS} {ctr:Nat} (h: ∃S:Ren,S.ok=true∧J (S.tm tm) (S.hp hp) S.ctr):bQ J tm hp ctr:=by
 obtain⟨S,h1,h2⟩:=h
 exact .mk S h1 h2
theorem bQ.get {J:TS→HS→Nat→Prop} {tm:TS} {hp:HS} {ctr:Nat} (h:bQ J tm hp ctr): ∃aY hp' c',dL tm hp ctr aY hp' c'∧J aY hp' c':=by
 induction h with
 |mk S hok h=>exact⟨_,_,_,dL.au hok,h⟩
 |sem hw _ ih=>
  obtain⟨aY,hp',c',h1,h2⟩:=ih
  exact⟨aY,hp',c',hw.trans h1,h2⟩
def X (P:Program) (n:Nat):Rc→(Exit→TS→HS→Nat→Prop)→TS→HS→Nat→Prop
 | .skip,Q,tm,hp,ctr=>Q .normal tm hp ctr
 | .ret,Q,tm,hp,ctr=>Q .ret tm hp ctr
 | .exit id,Q,tm,hp,ctr=>Q (.exit id) tm hp ctr
 | .seq a b,Q,tm,hp,ctr=>X P n a (gj (X P n b Q) Q) tm hp ctr
 | .cond c a b,Q,tm,hp,ctr=>
   match(c.get tm).gA with
   |some v=>br v (X P n a Q tm hp ctr) (X P n b Q tm hp ctr)
   |none=>False
 | .block id b,Q,tm,hp,ctr=>X P n b (rN id Q) tm hp ctr
 | .loop b,Q,tm,hp,ctr=> ∃I:Nat→TS→HS→Nat→Prop,bQ (fun tm hp c=> ∃m,I m tm hp c) tm hp ctr∧
    ∀m tm hp c,I m tm hp c→X P n b (gj (bQ fun tm hp c=> ∃m',m' < m∧I m' tm hp c) Q) tm hp c
 | .region ops,Q,tm,hp,ctr=>iZ P n ops tm hp ctr (Q .normal)
 | .draw ops es,Q,tm,hp,ctr=>rE P n ops [] tm hp ctr fun fs tm hp ctr=>w4 es fs=true∧Q .normal tm hp ctr
variable {P:Program} {M A:Nat→Prop} {ρ:Env} {F:Nat→Prop} {st:St} {a:Act} {w:World}
theorem pD (st:St): ∀ (xs:List Operand),Fl st.tmps (xs.map dy)=pE st.get xs
 | []=>rfl
 |x::r=>by simp only[List.map_cons,Fl,pE,bj,pD st r];rfl
def nJ (n:Nat) (K:TS→HS→Nat→Prop):St→Nat→Prop:=fun st c=>st.n=n∧K st.tmps st.heap c
theorem yb {o:Oper} {f:FuncId} {args:List di} (h:aK P o=some (.call f args)):
 ∃fI iM,o.op= .call ⟨.value (.func f),fI,iM⟩∧args=fI.toList.map dy∧enters P f=true:=by
 obtain⟨dst,op,ty,pos,after,guard⟩:=o
 cases op
 case call c=>
  obtain⟨callee,fI,iM⟩:=c
  simp only[aK]at h
  split at h
  · split at h
    · split at h
      · simp at h
      · simp at h
      · simp at h
    · simp at h
  · split at h
    · simp at h
    · simp at h
  · split at h
    · simp at h
    · simp at h
  · split at h
    · split at h
      · split at h
        · split at h
          · simp at h
          · simp at h
        · simp at h
      · simp at h
    · simp at h
  · rename_i g
    split at h
    · rename_i he
      simp only[Option.some.injEq,Ro.call.injEq]at h
      obtain⟨rfl,rfl⟩:=h
      exact⟨fI,iM,rfl,rfl,he⟩
    · simp at h
  · simp at h
 all_goals
  exfalso
  simp only[aK]at h
  repeat' (split at h)
  all_goals first
   |contradiction
   |(simp at h;done)
   |(simp[Option.map_eq_some_iff]at h;done)
theorem mm {o:Oper} {f:FuncId} {args:List di} (h:aX P o=some (.call f args)):
 ∃fI iM,o.op= .call ⟨.value (.func f),fI,iM⟩∧args=fI.toList.map dy∧enters P f=true:=by
 unfold aX at h
 split at h
 · rename_i r' dl
   replace dl:=dR dl
   simp only[Option.some.injEq]at h
   subst h
   exact yb dl
 · simp only[Option.some.injEq]at h
   rcases lB o with⟨t,args,iM,_,e⟩|e
   · rw[e]at h;simp at h
   · rw[e]at h;simp at h
theorem vS {o:Oper} {x:di} {args:List di} (h:aK P o=some (.kN x args)):False:=by
 obtain⟨dst,op,ty,pos,after,guard⟩:=o
 cases op<;>simp only[aK]at h
 all_goals (repeat' split at h)
 all_goals simp at h
theorem AC {o:Oper} {op:Op} {ty:TypeId} (h:aK P o=some (.raw op ty)):False:=by
 obtain⟨dst,op,ty,pos,after,guard⟩:=o
 cases op<;>simp only[aK]at h
 all_goals (repeat' split at h)
 all_goals simp at h
theorem kR {o:Oper} {x:di} {args:List di} (h:aX P o=some (.kN x args)): ∃t fI iM,o.op= .call ⟨.value (.tmp t),fI,iM⟩∧x= .t t∧args=fI.toList.map dy:=by
 unfold aX at h
 split at h
 · rename_i r hr
   replace hr:=dR hr
   simp only[Option.some.injEq]at h
   subst h
   exfalso
   exact vS hr
 · simp only[Option.some.injEq]at h
   rcases lB o with⟨t,fI,iM,ho,e⟩|e
   · rw[e]at h
     simp only[Ro.kN.injEq]at h
     exact⟨t,fI,iM,ho,h.1.symm,h.2.symm⟩
   · rw[e]at h;simp at h
theorem eB {o:Oper} {op:Op} {ty:TypeId} (h:aX P o=some (.raw op ty)):op=o.op∧ty=o.type:=by
 unfold aX at h
 split at h
 · rename_i r hr
   replace hr:=dR hr
   simp only[Option.some.injEq]at h
   subst h
   exfalso
   exact AC hr
 · simp only[Option.some.injEq]at h
   rcases lB o with⟨t,fI,iM,ho,e⟩|e
   · rw[e]at h;simp at h
   · rw[e]at h
     simp only[Ro.raw.injEq]at h
     exact⟨h.1.symm,h.2.symm⟩
theorem uY.wpOp {ops:Array Oper} {o:Oper} {i:Nat} {x:Ro} {g:Option (Nat×Bool)} {ctr:Nat} {K:TS→HS→Nat→Prop} (hi:ops[i]? =some o) (hx:aX P o=some x)
 (hd:fE st.n o.dst=true) (hg:aU ops o st.tmps=some true) (h:uY P st.n ⟨o.dst,g,x⟩ st.tmps st.heap ctr K):lS P ops i (nJ st.n K) st ctr:=by
 unfold lS
 simp only[hi]
 refine⟨hd,?_⟩
 simp only[hg]
 unfold uY at h
 split at h
 · rename_i f args lI
   simp only at lI
   subst lI
   obtain⟨fI,iM,ho,rfl,kX⟩:=mm hx
   simp only[pD]at h
   split at h
   · rename_i us fP
     obtain⟨v,hp',c',hc,hK⟩:=h
     rw[cF,iw,fS]at hK
     have yz:bL st.get o=some (f,us):=by
      unfold bL
      rw[ho]
      simp only[St.get,V.ofValue,fP]
      rfl
     exact .inl ⟨f,us,yz,kX,v,hp',c',hc,by rw[vg];exact⟨rfl,hK⟩⟩
   · exact h.elim
 · rename_i y args lI
   simp only at lI
   subst lI
   obtain⟨t,fI,iM,ho,rfl,rfl⟩:=kR hx
   simp only[pD]at h
   split at h
   · rename_i us fP
     split at h
     · rename_i f fL hf
       obtain⟨kX,v,hp',c',hc,hK⟩:=h
       rw[cF,iw,fS]at hK
       have hv:st.get (.tmp t)=(di.t t).get st.tmps:=(bj st (.tmp t)).symm
       have yz:bL st.get o=some (f,fL):=by
        unfold bL
        rw[ho]
        unfold Zz at hf
        split at hf
        · rename_i jB
          simp only[Option.some.injEq,Prod.mk.injEq]at hf
          obtain⟨rfl,rfl⟩:=hf
          simp only[hv,jB,fP]
        · rename_i jB
          simp only[Option.some.injEq,Prod.mk.injEq]at hf
          obtain⟨rfl,rfl⟩:=hf
          simp only[hv,jB,fP,nD,Option.map_some]
        · rename_i jB
          simp only[Option.some.injEq,Prod.mk.injEq]at hf
          obtain⟨rfl,rfl⟩:=hf
          simp only[hv,jB,fP,nD,Option.map_some]
        · rename_i jB
          simp only[hv,jB,fP]
          exact hf
        · simp at hf
       exact .inl ⟨f,fL,yz,kX,v,hp',c',hc,by rw[vg];exact⟨rfl,hK⟩⟩
     · exact h.elim
   · exact h.elim
 · rename_i op ty lI
   simp only at lI
   subst lI
   obtain⟨rfl,rfl⟩:=eB hx
   obtain⟨v,hp',hrn,hK⟩:=h
   rw[cF,iw,fS]at hK
   exact .inr ⟨v,hp',hrn o rfl rfl,by rw[vg];exact⟨rfl,hK⟩⟩
 · simp only[iw,fS]at h
   obtain⟨h1,v,heap',h2,h3⟩:=rD hx h
   exact .inr ⟨v,heap',jQ h2,by rw[vg];exact⟨rfl,h3⟩⟩
theorem Rel.lit {n:Nat} {tm:TS} {hp:HS} {d:Nat} {b c:Bool} (h:Rel M A ρ F ⟨n,tm,hp⟩ a w) (hf:find tm d=some (bV b)) (hb:b=c):Rel M A ρ F ⟨n,(d,bV c)::tm,hp⟩ a w:=by
 subst hb
 refine h.forget rfl (fun t v hv=>?_) (fun _ _ h=>h)
 simp only[ai]at hv
 split at hv
 · rename_i e;subst e;rw[←hv];exact hf
 · exact hv
theorem KI.sound {ops:Array Oper} {o:Oper} {i n:Nat} {x:Ro} {g:Option (Nat×Bool)} {ctr:Nat} {tm:TS} {hp:HS} {K:TS→HS→Nat→Prop} {Q:Exit→Act→World→Prop} {K':Act→World→Prop}
 (hi:ops[i]? =some o) (hx:aX P o=some x) (hgd:(o.guard=none∧g=none)∨ ∃j want d,o.guard=some (j,want)∧(ops[j]?).bind (·.dst)=some d∧g=some (d,want))
 (h:KI P n ⟨o.dst,g,x⟩ tm hp ctr K) (hr:Rel M A ρ (bg ctr) ⟨n,tm,hp⟩ a w) (hk: ∀a' w',Post M A ρ w (nJ n K) a' w'→K' a' w'):wpOp P ops Q i K' a w:=by
 unfold KI at h
 split at h
 · exact h.elim
 · rename_i hd
   simp only at hd
   have iq: ∀ {aY:TS},Rel M A ρ (bg ctr) ⟨n,aY,hp⟩ a w→aU ops o aY=some false→K (dj aY o.dst (.ef [])) hp ctr→wpOp P ops Q i K' a w:=by
    intro aY dl jH hK
    refine lS.sound (K:=nJ n K) (ctr:=ctr) ?_ dl hk
    unfold lS
    simp only[hi]
    refine⟨hd,?_⟩
    simp only[jH,fu]
    exact⟨rfl,hK⟩
   have wanted: ∀ {aY:TS},Rel M A ρ (bg ctr) ⟨n,aY,hp⟩ a w→aU ops o aY=some true→uY P n ⟨o.dst,g,x⟩ aY hp ctr K→wpOp P ops Q i K' a w:=by
    intro aY dl jH hX
    exact lS.sound (K:=nJ n K) (ctr:=ctr) (uY.wpOp (st:=⟨n,aY,hp⟩) hi hx hd jH hX) dl hk
   rcases hgd with⟨yx,rfl⟩|⟨j,want,d,yx,hj,rfl⟩
   · simp only at h
     exact wanted hr (by simp[aU,yx]) h
   · have ff: ∀ {aY:TS} {b:Bool},find aY d=some (bV b)→aU ops o aY=some (b==want):=by
      intro aY b hf
      simp only[aU,yx,hj,hf]
     simp only at h
     split at h
     · rename_i b hf
       split at h
       · rcases jS h with⟨hb,h⟩|⟨hb,h⟩
         · exact wanted (hr.lit hf hb) (by rw[ff (b:=true) (by simp[ai])];rfl) h
         · exact iq (hr.lit hf hb) (by rw[ff (b:=false) (by simp[ai])];rfl) h
       · rcases jS h with⟨hb,h⟩|⟨hb,h⟩
         · exact iq (hr.lit hf hb) (by rw[ff (b:=true) (by simp[ai])];rfl) h
         · exact wanted (hr.lit hf hb) (by rw[ff (b:=false) (by simp[ai])];rfl) h
     · rename_i hf
       exact iq hr (by simp only[aU,yx,hj,hf]) h
     · exact h.elim
theorem iZ.sound {ops:Array Oper} {n:Nat} {K:TS→HS→Nat→Prop} {Q:Exit→Act→World→Prop}: ∀ {l:List Oper} {rs:List kp} {k:Nat} {M A:Nat→Prop} {ρ:Env} {tm:TS} {hp:HS} {a:Act} {w:World} {ctr:Nat},
 (∀j,ops[k+j]? =l[j]?)→aQ P ops l=some rs→iZ P n rs tm hp ctr K→Rel M A ρ (bg ctr) ⟨n,tm,hp⟩ a w→(∀a' w',Post M A ρ w (nJ n K) a' w'→Q .normal a' w')→
 wpOps P ops Q (List.range' k l.length) a w
 | [],rs,k,M,A,ρ,tm,hp,a,w,ctr,hl,eU,h,hr,hq=>by
   simp only[aQ,Option.some.injEq]at eU
   subst eU
   exact hq _ _ (Post.here hr ⟨rfl,h⟩)
 |o::l,rs,k,M,A,ρ,tm,hp,a,w,ctr,hl,eU,h,hr,hq=>by
  simp only[aQ]at eU
  split at eU
  · rename_i x l' hx hl'
    have hi:ops[k]? =some o:=by simpa using hl 0
    have rest: ∀ {g:Option (Nat×Bool)},rs=⟨o.dst,g,x⟩::l'→((o.guard=none∧g=none)∨ ∃j want d,o.guard=some (j,want)∧(ops[j]?).bind (·.dst)=some d∧g=some (d,want))→wpOps P ops Q (List.range' k (l.length+1)) a w:=by
     intro g QS hgd
     subst QS
     simp only[iZ]at h
     rw[List.range'_succ,wpOps_cons]
     refine KI.sound hi hx hgd h hr (fun a' w' hp'=>?_)
     obtain⟨st',c',A',ρ',⟨h1,JV⟩,h2,h3,h4,h5⟩:=hp'
     subst h1
     exact iZ.sound (k:=k+1) (fun j=>by have:=hl (j+1);rw[show k+1+j=k+(j+1) by omega,this];simp) hl' JV h2 (fun a2 w2 hp2=>hq _ _ (hp2.trans h3 h4 h5))
    split at eU
    · rename_i hg
      simp only[Option.some.injEq]at eU
      exact rest eU.symm (.inl ⟨hg,rfl⟩)
    · rename_i j want hg
      split at eU
      · rename_i d hd
        simp only[Option.some.injEq]at eU
        exact rest eU.symm (.inr ⟨j,want,d,hg,hd,rfl⟩)
      · simp at eU
  · simp at eU
theorem CO (v:Value):(V.ofValue v).ids=[]:=by
 cases v with
 |agg cs=>
  simp only[V.ofValue]
  split
  · simp only[V.ids,W.ids,List.flatMap_eq_nil_iff,List.mem_map]
    rintro c ⟨x,_,rfl⟩
    rfl
  · rfl
 |_=>rfl
theorem pO {place:Nat→Option (Nat×Nat)}: ∀ {ps:List (Nat×Operand)} {l:List (Nat×Nat×di)},nH place ps=some l→ ∀p,p∈ps→dy p.2∈l.map (·.2.2)
 | [],l,h,p,hp=>by simp at hp
 |(i,x)::r,l,h,p,hp=>by
  simp only[nH]at h
  split at h
  · rename_i off size l' h1 h2
    simp only[Option.some.injEq]at h
    subst h
    rcases List.mem_cons.1 hp with rfl|hp
    · simp
    · simp only[List.map_cons,List.mem_cons];exact .inr (pO h2 p hp)
  · simp at h
theorem ya {o:Oper} {r:Ro} (h:aK P o=some r):(∀x,x∈o.op.operands→dy x∈r.iO∨ ∃f,x= .func f)∧(looks o.op=true→r.looks=true)∧(writes o.op=true→r.YV=true):=by
 obtain⟨dst,op,ty,pos,after,guard⟩:=o
 cases op
 case call c=>
  obtain⟨callee,args,iM⟩:=c
  simp only[aK]at h
  split at h
  · split at h
    · rename_i x t hx ht
      split at h
      · simp only[Option.some.injEq]at h
        subst h
        refine⟨fun y hy=>?_,fun _=>rfl,fun hw=>by simp[writes]at hw⟩
        have:y∈args.toList:=by simpa[Op.operands,Call.operands]using hy
        rw[hx]at this
        simp only[List.mem_singleton]at this
        subst this
        exact .inl (by simp[Ro.iO])
      · simp only[Option.some.injEq]at h
        subst h
        refine⟨fun y hy=>?_,fun _=>rfl,fun hw=>by simp[writes]at hw⟩
        have:y∈args.toList:=by simpa[Op.operands,Call.operands]using hy
        rw[hx]at this
        simp only[List.mem_singleton]at this
        subst this
        exact .inl (by simp[Ro.iO])
      · simp at h
    · simp at h
  · split at h
    · rename_i x y hx
      simp only[Option.some.injEq]at h
      subst h
      refine⟨fun z hz=>?_,fun _=>rfl,fun hw=>by simp[writes]at hw⟩
      have:z∈args.toList:=by simpa[Op.operands,Call.operands]using hz
      rw[hx]at this
      simp only[List.mem_cons,List.not_mem_nil,or_false]at this
      rcases this with rfl|rfl
      · exact .inl (by simp[Ro.iO])
      · exact .inl (by simp[Ro.iO])
    · simp at h
  · split at h
    · rename_i x y hx
      simp only[Option.some.injEq]at h
      subst h
      refine⟨fun z hz=>?_,fun _=>rfl,fun hw=>by simp[writes]at hw⟩
      have:z∈args.toList:=by simpa[Op.operands,Call.operands]using hz
      rw[hx]at this
      simp only[List.mem_cons,List.not_mem_nil,or_false]at this
      rcases this with rfl|rfl
      · exact .inl (by simp[Ro.iO])
      · exact .inl (by simp[Ro.iO])
    · simp at h
  · split at h
    · rename_i s x t t' hx ht
      split at h
      · split at h
        · split at h
          · simp only[Option.some.injEq]at h
            subst h
            refine⟨fun y hy=>?_,fun _=>rfl,fun _=>rfl⟩
            have:y∈args.toList:=by simpa[Op.operands,Call.operands]using hy
            rw[hx]at this
            simp only[List.mem_cons,List.not_mem_nil,or_false]at this
            rcases this with rfl|rfl
            · exact .inl (by simp[Ro.iO])
            · exact .inl (by simp[Ro.iO])
          · simp at h
        · simp at h
      · simp at h
    · simp at h
  · rename_i f
    split at h
    · simp only[Option.some.injEq]at h
      subst h
      refine⟨fun y hy=>?_,fun _=>rfl,fun hw=>by simp[writes]at hw⟩
      simp only[Op.operands,Call.operands,Array.mem_append]at hy
      rcases hy with hy|hy
      · exact .inr ⟨f,by simpa using hy⟩
      · exact .inl (by simp only[Ro.iO,List.mem_map];exact⟨y,by simpa using hy,rfl⟩)
    · simp at h
  · simp at h
 case build t ps=>
  simp only[aK]at h
  split at h
  · split at h
    · simp only[Option.map_eq_some_iff]at h
      obtain⟨l,hl,rfl⟩:=h
      refine⟨fun y hy=>?_,fun hl=>by simp[looks]at hl,fun hw=>by simp[writes]at hw⟩
      simp[Op.operands]at hy
      obtain⟨i,hi⟩:=hy
      exact .inl (pO hl (i,y) (by simpa using hi))
    · simp at h
  · split at h
    · simp only[Option.map_eq_some_iff]at h
      obtain⟨l,hl,rfl⟩:=h
      refine⟨fun y hy=>?_,fun hl=>by simp[looks]at hl,fun hw=>by simp[writes]at hw⟩
      simp[Op.operands]at hy
      obtain⟨i,hi⟩:=hy
      exact .inl (pO hl (i,y) (by simpa using hi))
    · simp at h
  · simp at h
 case buildSlice t len ps=>
  simp only[aK]at h
  split at h
  · split at h
    · split at h
      · simp only[Option.some.injEq]at h
        subst h
        refine⟨fun y hy=>?_,fun hl=>by simp[looks]at hl,fun hw=>by simp[writes]at hw⟩
        simp[Op.operands]at hy
        obtain⟨i,hi⟩:=hy
        refine .inl ?_
        simp only[Ro.iO,List.map_map,List.mem_map]
        exact⟨(i,y),by simpa using hi,rfl⟩
      · simp at h
    · simp at h
  · simp at h
 case makeFunc fn first captured=>
  cases fn with
  |func f=>
   simp only[aK]at h
   split at h
   · rename_i hc
     simp only[Option.some.injEq]at h
     subst h
     simp only[Bool.and_eq_true,Array.isEmpty_iff]at hc
     obtain⟨rfl,_⟩:=hc
     refine⟨fun y hy=>?_,fun hl=>by simp[looks]at hl,fun hw=>by simp[writes]at hw⟩
     refine .inl ?_
     simp only[Ro.iO,List.mem_map]
     exact⟨y,by simpa[Op.operands]using hy,rfl⟩
   · simp at h
  |_=>simp[aK]at h
 case slice t x lo hi mx=>
  cases mx with
  |some m=>simp[aK]at h
  |none=>
   simp only[aK]at h
   split at h
   · simp only[Option.map_eq_some_iff]at h
     obtain⟨n,hn,rfl⟩:=h
     refine⟨fun y hy=>?_,fun hl=>by simp[looks]at hl,fun hw=>by simp[writes]at hw⟩
     refine .inl ?_
     cases lo<;>cases hi<;>simp[Op.operands,Ro.iO]at hy⊢ <;>(first|(rcases hy with rfl|rfl|rfl<;>simp)|(rcases hy with rfl|rfl<;>simp)|(subst hy;simp))
   · simp at h
 case unOp op t x=>
  cases op<;>simp only[aK]at h<;>try (simp at h;done)
  all_goals
   simp only[Option.some.injEq]at h
   subst h
   refine⟨fun y hy=>?_,fun hl=>by simp[looks]at hl,fun hw=>by simp[writes]at hw⟩
   simp[Op.operands]at hy
   subst hy
   simp[Ro.iO]
 all_goals
  simp only[aK]at h
  repeat' (split at h)
  all_goals first
   |contradiction
   |(simp at h;done)
   |(simp only[Option.some.injEq]at h
     subst h
     refine⟨fun y hy=>?_,fun hl=>by first|rfl|(simp[looks]at hl;done),fun hw=>by first|rfl|(simp[writes]at hw;done)⟩
     first
      |(simp[Op.operands]at hy;done)
      |(simp[Op.operands]at hy;rcases hy with rfl|rfl|rfl<;>simp[Ro.iO];done)
      |(simp[Op.operands]at hy;rcases hy with rfl|rfl<;>simp[Ro.iO];done)
      |(simp[Op.operands]at hy;subst hy;simp[Ro.iO];done))
   |(simp only[Option.map_eq_some_iff]at h
     obtain⟨q,hq,rfl⟩:=h
     refine⟨fun y hy=>?_,fun hl=>by first|rfl|(simp[looks]at hl;done),fun hw=>by first|rfl|(simp[writes]at hw;done)⟩
     first
      |(simp[Op.operands]at hy;done)
      |(simp[Op.operands]at hy;rcases hy with rfl|rfl|rfl<;>simp[Ro.iO];done)
      |(simp[Op.operands]at hy;rcases hy with rfl|rfl<;>simp[Ro.iO];done)
      |(simp[Op.operands]at hy;subst hy;simp[Ro.iO];done))
theorem OJ.step {o:Oper} {x:Ro} {g:Option (Nat×Bool)} {n ctr:Nat} {tm:TS} {hp:HS} {K:TS→HS→Nat→Prop} (hx:aX P o=some x) (h:OJ P ⟨o.dst,g,x⟩ tm hp ctr K):
 ∃v hp',(match bL (St.get ⟨n,tm,hp⟩) o with
  |some (g,us)=>enters P g=true∧eL P hp ctr g us v hp'
  |none=>aq P (St.get ⟨n,tm,hp⟩) hp ctr o=some (v,hp'))∧K (dj tm o.dst v) hp' (ctr+4):=by
 unfold OJ at h
 split at h
 · rename_i f args lI
   simp only at lI
   subst lI
   obtain⟨fI,iM,ho,rfl,kX⟩:=mm hx
   have Hl:=pD ⟨n,tm,hp⟩ fI.toList
   simp only at Hl
   rw[Hl]at h
   split at h
   · rename_i us fP
     obtain⟨v,hp',hc,hK⟩:=h
     rw[cF,iw,fS]at hK
     have yz:bL (St.get ⟨n,tm,hp⟩) o=some (f,us):=by
      unfold bL
      rw[ho]
      have hf:St.get ⟨n,tm,hp⟩ (.func f)= .w (.one (.t (.val (.func (.func f) #[] #[])))):=rfl
      simp only[hf,fP]
      rfl
     exact⟨v,hp',by rw[yz];exact⟨kX,hc⟩,hK⟩
   · exact h.elim
 · rename_i y args lI
   simp only at lI
   subst lI
   obtain⟨t,fI,iM,ho,rfl,rfl⟩:=kR hx
   have Hl:=pD ⟨n,tm,hp⟩ fI.toList
   simp only at Hl
   rw[Hl]at h
   split at h
   · rename_i us fP
     split at h
     · rename_i f fL hf
       obtain⟨kX,v,hp',hc,hK⟩:=h
       rw[cF,iw,fS]at hK
       have hv:St.get ⟨n,tm,hp⟩ (.tmp t)=(di.t t).get tm:=(bj ⟨n,tm,hp⟩ (.tmp t)).symm
       have yz:bL (St.get ⟨n,tm,hp⟩) o=some (f,fL):=by
        unfold bL
        rw[ho]
        unfold Zz at hf
        split at hf
        · rename_i jB
          simp only[Option.some.injEq,Prod.mk.injEq]at hf
          obtain⟨rfl,rfl⟩:=hf
          simp only[hv,jB,fP]
        · rename_i jB
          simp only[Option.some.injEq,Prod.mk.injEq]at hf
          obtain⟨rfl,rfl⟩:=hf
          simp only[hv,jB,fP,nD,Option.map_some]
        · rename_i jB
          simp only[Option.some.injEq,Prod.mk.injEq]at hf
          obtain⟨rfl,rfl⟩:=hf
          simp only[hv,jB,fP,nD,Option.map_some]
        · rename_i jB
          simp only[hv,jB,fP]
          exact hf
        · simp at hf
       exact⟨v,hp',by rw[yz];exact⟨kX,hc⟩,hK⟩
     · exact h.elim
   · exact h.elim
 · rename_i op ty lI
   simp only at lI
   subst lI
   obtain⟨rfl,rfl⟩:=eB hx
   obtain⟨v,hp',⟨yz,dJ⟩,hK⟩:=h
   rw[cF,iw,fS]at hK
   have aiA:bL (St.get ⟨n,tm,hp⟩) o=none:=by
    have:=yz (St.get ⟨n,tm,hp⟩)
    unfold bL at this⊢
    exact this
   exact⟨v,hp',by rw[aiA];exact dJ n o rfl rfl,hK⟩
 · rename_i r hne
   simp only[iw,fS]at h
   obtain⟨h1,v,hp',h2,h3⟩:=rD (st:=⟨n,tm,hp⟩) hx h
   exact⟨v,hp',by rw[h1];exact h2,h3⟩
theorem AB {o:Oper} {r:Ro} (h:aX P o=some r):(∀x,x∈o.op.operands→dy x∈r.iO∨ ∃f,x= .func f)∧(looks o.op=true→r.looks=true)∧(writes o.op=true→r.YV=true):=by
 unfold aX at h
 split at h
 · rename_i r' dl
   replace dl:=dR dl
   simp only[Option.some.injEq]at h
   subst h
   exact ya dl
 · simp only[Option.some.injEq]at h
   subst h
   rcases lB o with⟨t,args,iM,ho,e⟩|e
   · rw[e,ho]
     refine⟨fun x hx=> .inl ?_,fun _=>rfl,fun hw=>by simp[writes]at hw⟩
     have hx':x= .tmp t∨x∈args:=by simpa[Op.operands,Call.operands]using hx
     simp only[Ro.iO,List.mem_cons,List.mem_map]
     rcases hx' with rfl|hx'
     · exact .inl rfl
     · exact .inr ⟨x,by simpa using hx',rfl⟩
   · rw[e]
     refine⟨fun x hx=> .inl ?_,fun hl=>hl,fun hw=>hw⟩
     simp only[Ro.iO,List.mem_map]
     exact⟨x,by simpa using hx,rfl⟩
theorem zM {ops:Array Oper} {o:Oper} {x:Ro} {g:Option (Nat×Bool)} {n ctr:Nat} {tm:TS} {hp:HS} (hx:aX P o=some x)
 (hgd:(o.guard=none∧g=none)∨ ∃j want d,o.guard=some (j,want)∧(ops[j]?).bind (·.dst)=some d∧g=some (d,want)):
 (dP ⟨o.dst,g,x⟩ tm ctr).dst=o.dst∧(∀t,t∈names ops o→t∈ (dP ⟨o.dst,g,x⟩ tm ctr).nm)∧(∀k,k∈jG (St.get ⟨n,tm,hp⟩) o→k∈ (dP ⟨o.dst,g,x⟩ tm ctr).rd)∧
   (∀k,k∈uZ (St.get ⟨n,tm,hp⟩) ctr o→k∈ (dP ⟨o.dst,g,x⟩ tm ctr).wr):=by
 obtain⟨h1,h2,h3⟩:=AB hx
 have hrd: ∀k,k∈jG (St.get ⟨n,tm,hp⟩) o→k∈ (dP ⟨o.dst,g,x⟩ tm ctr).rd:=by
  intro k hk
  simp only[jG]at hk
  split at hk
  · rename_i hl
    simp only[dP,h2 hl,if_true,List.mem_flatMap]
    simp only[List.mem_flatMap]at hk
    obtain⟨y,hy,Zf⟩:=hk
    rw[←bj]at Zf
    rcases h1 y (by simpa using hy)with hm|⟨f,rfl⟩
    · exact⟨dy y,hm,Zf⟩
    · simp only[dy,di.get,CO]at Zf
      simp at Zf
  · simp at hk
 refine⟨rfl,fun t ht=>?_,hrd,fun k hk=>?_⟩
 · simp only[names,List.mem_append,List.mem_filterMap]at ht
   simp only[dP,List.mem_append,List.mem_filterMap]
   rcases ht with⟨y,hy,hyt⟩|ht
   · left
     cases y with
     |tmp t'=>
      simp only[Option.some.injEq]at hyt
      subst hyt
      rcases h1 (.tmp t') (by simpa using hy)with hm|⟨f,hf⟩
      · exact⟨.t t',hm,rfl⟩
      · simp at hf
     |_=>simp at hyt
   · right
     rcases hgd with⟨hg,rfl⟩|⟨j,want,d,hg,hd,rfl⟩
     · simp[hg]at ht
     · simp only[hg,hd]at ht
       simpa using ht
 · simp only[uZ,List.mem_append]at hk
   simp only[dP,List.mem_append]
   rcases hk with hk|hk
   · exact .inl hk
   · split at hk
     · rename_i hw
       right
       rw[if_pos (h3 hw)]
       exact hrd k hk
     · simp at hk
theorem KH.step {ops:Array Oper} {o:Oper} {n ctr:Nat} {x:Ro} {g:Option (Nat×Bool)} {tm:TS} {hp:HS} {K:iD→TS→HS→Nat→Prop}
 (hx:aX P o=some x) (hgd:(o.guard=none∧g=none)∨ ∃j want d,o.guard=some (j,want)∧(ops[j]?).bind (·.dst)=some d∧g=some (d,want)) (h:KH P n ⟨o.dst,g,x⟩ tm hp ctr K):
 ∃aY v hp',(∀t,find aY t=find tm t)∧fJ P ops o n aY hp ctr v hp'∧K (dP ⟨o.dst,g,x⟩ aY ctr) (dj aY o.dst v) hp' (ctr+4):=by
 unfold KH at h
 split at h
 · exact h.elim
 · rename_i hd
   simp only at hd
   have wanted: ∀ {aY:TS},(∀t,find aY t=find tm t)→aU ops o aY=some true→OJ P ⟨o.dst,g,x⟩ aY hp ctr (K (dP ⟨o.dst,g,x⟩ aY ctr))→
    ∃aY v hp',(∀t,find aY t=find tm t)∧fJ P ops o n aY hp ctr v hp'∧K (dP ⟨o.dst,g,x⟩ aY ctr) (dj aY o.dst v) hp' (ctr+4):=by
    intro aY he hg hX
    obtain⟨v,hp',h1,h2⟩:=OJ.step (n:=n) hx hX
    exact⟨aY,v,hp',he,⟨hd,by rw[hg];exact h1⟩,h2⟩
   have iq: ∀ {aY:TS},(∀t,find aY t=find tm t)→aU ops o aY=some false→K (dP ⟨o.dst,g,x⟩ aY ctr) (dj aY o.dst (.ef [])) hp (ctr+4)→
    ∃aY v hp',(∀t,find aY t=find tm t)∧fJ P ops o n aY hp ctr v hp'∧K (dP ⟨o.dst,g,x⟩ aY ctr) (dj aY o.dst v) hp' (ctr+4):=by
    intro aY he hg hK
    exact⟨aY, .ef [],hp,he,⟨hd,by rw[hg];exact⟨rfl,rfl⟩⟩,hK⟩
   rcases hgd with⟨yx,rfl⟩|⟨j,want,d,yx,hj,rfl⟩
   · simp only at h
     exact wanted (fun _=>rfl) (by simp[aU,yx]) h
   · have ff: ∀ {aY:TS} {b:Bool},find aY d=some (bV b)→aU ops o aY=some (b==want):=by
      intro aY b hf
      simp only[aU,yx,hj,hf]
     simp only at h
     split at h
     · rename_i b hf
       have lit: ∀ {c:Bool},b=c→ ∀t,find ((d,bV c)::tm) t=find tm t:=by
        intro c hb t
        subst hb
        simp only[ai]
        split
        · rename_i e;subst e;exact hf.symm
        · rfl
       split at h
       · rcases jS h with⟨hb,h⟩|⟨hb,h⟩
         · exact wanted (lit hb) (by rw[ff (b:=true) (by simp[ai])];rfl) h
         · exact iq (lit hb) (by rw[ff (b:=false) (by simp[ai])];rfl) h
       · rcases jS h with⟨hb,h⟩|⟨hb,h⟩
         · exact iq (lit hb) (by rw[ff (b:=true) (by simp[ai])];rfl) h
         · exact wanted (lit hb) (by rw[ff (b:=false) (by simp[ai])];rfl) h
     · rename_i hf
       exact iq (fun _=>rfl) (by simp only[aU,yx,hj,hf]) h
     · exact h.elim
theorem rE.trace {ops:Array Oper} {n base:Nat} {K:List iD→TS→HS→Nat→Prop}: ∀ {l:List Oper} {rs:List kp} {k:Nat} {HF:List iD} {tm:TS} {hp:HS},(∀j,ops[k+j]? =l[j]?)→aQ P ops l=some rs→
 HF.length=k→rE P n rs HF tm hp (base+4 * k) K→
 ∃ (tmT:Nat→TS) (hpT:Nat→HS) (v:Nat→V) (fs:List iD),K fs (tmT (k+l.length)) (hpT (k+l.length)) (base+4 * (k+l.length))∧(∀i,i < k→fs[i]? =HF[i]?)∧(∀t,find (tmT k) t=find tm t)∧hpT k=hp∧
  ∀j o,l[j]? =some o→fJ P ops o n (tmT (k+j)) (hpT (k+j)) (base+4 * (k+j)) (v (k+j)) (hpT (k+j+1))∧(∀t,find (tmT (k+j+1)) t=find (dj (tmT (k+j)) o.dst (v (k+j))) t)∧
   ∃f,fs[k+j]? =some f∧f.dst=o.dst∧(∀t,t∈names ops o→t∈f.nm)∧(∀q,q∈jG (St.get ⟨n,tmT (k+j),hpT (k+j)⟩) o→q∈f.rd)∧(∀q,q∈uZ (St.get ⟨n,tmT (k+j),hpT (k+j)⟩) (base+4 * (k+j)) o→q∈f.wr)
 | [],rs,k,HF,tm,hp,hl,eU,hk,h=>by
   simp only[aQ,Option.some.injEq]at eU
   subst eU
   exact⟨fun _=>tm,fun _=>hp,fun _=> .undef,HF,by simpa[rE]using h,fun _ _=>rfl,fun _=>rfl,rfl,fun j o hj=>by simp at hj⟩
 |o::l,rs,k,HF,tm,hp,hl,eU,hk,h=>by
  simp only[aQ]at eU
  split at eU
  · rename_i x l' hx hl'
    have hi:ops[k]? =some o:=by simpa using hl 0
    have jH: ∃g,rs=⟨o.dst,g,x⟩::l'∧((o.guard=none∧g=none)∨ ∃j want d,o.guard=some (j,want)∧(ops[j]?).bind (·.dst)=some d∧g=some (d,want)):=by
     split at eU
     · rename_i hg
       simp only[Option.some.injEq]at eU
       exact⟨_,eU.symm, .inl ⟨hg,rfl⟩⟩
     · rename_i j want hg
       split at eU
       · rename_i d hd
         simp only[Option.some.injEq]at eU
         exact⟨_,eU.symm, .inr ⟨j,want,d,hg,hd,rfl⟩⟩
       · simp at eU
    obtain⟨g,QS,hgd⟩:=jH
    clear eU
    subst QS
    · skip
      simp only[rE]at h
      obtain⟨aY,v0,hp',he,hst,hK⟩:=KH.step (ops:=ops) hx hgd h
      have JN:=zM (ops:=ops) (n:=n) (ctr:=base+4 * k) (tm:=aY) (hp:=hp) hx hgd
      rw[show base+4 * k+4=base+4 * (k+1) by omega]at hK
      obtain⟨tmT,hpT,v,fs,q1,q2,q3,q4,q5⟩:=rE.trace (k:=k+1) (fun j=>by have:=hl (j+1);rw[show k+1+j=k+(j+1) by omega,this];simp) hl' (by simp[hk]) hK
      have CX:fs[k]? =some (dP ⟨o.dst,g,x⟩ aY (base+4 * k)):=by
       rw[q2 k (by omega),List.getElem?_append_right (by omega),hk];simp
      refine⟨fun i=>if i=k then aY else tmT i,fun i=>if i=k then hp else hpT i,fun i=>if i=k then v0 else v i,fs,?_,?_,?_,?_,?_⟩
      · have e1:k+(o::l).length=k+1+l.length:=by simp;omega
        have e2:¬k+1+l.length=k:=by omega
        simp only[e1,e2,if_false]
        exact q1
      · intro i hi'
        rw[q2 i (by omega),List.getElem?_append_left (by omega)]
      · intro t;simp only[if_true];exact he t
      · simp
      · intro j oj hj
        cases j with
        |zero=>
         simp only[List.getElem?_cons_zero,Option.some.injEq]at hj
         subst hj
         have e2:¬k+1=k:=by omega
         simp only[Nat.add_zero,if_true,e2,if_false,q4]
         exact⟨hst,fun t=>q3 t,_,CX,JN⟩
        |succ j=>
         have:=q5 j oj (by simpa using hj)
         have e1:¬k+(j+1)=k:=by omega
         have e2:¬k+(j+1)+1=k:=by omega
         simp only[e1,e2,if_false]
         rw[show k+(j+1)=k+1+j by omega]
         exact this
  · simp at eU
theorem jR: ∀ {Es:List (List Nat)} {k:Nat},vl k Es=true→ ∀i es,Es[i]? =some es→ ∀e,e∈es→e < k+i
 | [],k,h,i,es,hi,e,he=>by simp at hi
 |x::r,k,h,i,es,hi,e,he=>by
  simp only[vl,Bool.and_eq_true]at h
  cases i with
  |zero=>
   simp only[List.getElem?_cons_zero,Option.some.injEq]at hi
   subst hi
   have:=List.all_eq_true.1 h.1 e he
   simpa using this
  |succ i=>
   have:=jR h.2 i es (by simpa using hi) e he
   omega
theorem Wp.DY {c:Code} {Q:Exit→St→Nat→Prop} {ctr:Nat} {aY:TS} {hp':HS} {c':Nat} (hw:dL st.tmps st.heap ctr aY hp' c') (h:Wp P c Q ⟨st.n,aY,hp'⟩ c'):Wp P c Q st ctr:=by
 intro M A ρ a w hr
 obtain⟨A2,ρ2,uD,he,hg⟩:=hw M A ρ st.n a w hr
 exact wp_mono (h M A2 ρ2 a w uD) (fun e a' w' hp=>hp.trans (cJ.refl _ _) he hg)
theorem Wp.post {c:Code} {Q Q':Exit→St→Nat→Prop} {ctr:Nat} (h:Wp P c Q st ctr)
 (hq: ∀e st' c',Q e st' c'→Q' e st' c'∨ ∃tm2 hp2 c2,dL st'.tmps st'.heap c' tm2 hp2 c2∧Q' e ⟨st'.n,tm2,hp2⟩ c2):Wp P c Q' st ctr:=by
 intro M A ρ a w hr
 refine wp_mono (h M A ρ a w hr) ?_
 rintro e a' w' ⟨st',c',A',ρ',h1,h2,h3,h4,h5⟩
 rcases hq e st' c' h1 with h1|⟨tm2,hp2,c2,hw,h1⟩
 · exact⟨st',c',A',ρ',h1,h2,h3,h4,h5⟩
 · obtain⟨A2,ρ2,uD,he,hg⟩:=hw M A' ρ' st'.n a' w' h2
   exact⟨_,c2,A2,ρ2,h1,uD,h3,h4.trans he,h5.trans hg h3.size⟩
theorem X.sound {n:Nat}: ∀ {c:Code} {r:Rc},aC P c=some r→ ∀ {Q:Exit→TS→HS→Nat→Prop} {tm:TS} {hp:HS} {ctr:Nat},X P n r Q tm hp ctr→Wp P c (fun e=>nJ n (Q e)) ⟨n,tm,hp⟩ ctr:=by
 intro c
 induction c with
 |skip=>
  intro r hr Q tm hp ctr h
  simp only[aC,Option.some.injEq]at hr
  subst hr
  exact Wp.skip ⟨rfl,h⟩
 |ret=>
  intro r hr Q tm hp ctr h
  simp only[aC,Option.some.injEq]at hr
  subst hr
  exact Wp.ret ⟨rfl,h⟩
 |exit id=>
  intro r hr Q tm hp ctr h
  simp only[aC,Option.some.injEq]at hr
  subst hr
  exact Wp.exit ⟨rfl,h⟩
 |seq x y Jv Ju=>
  intro r hr Q tm hp ctr h
  simp only[aC]at hr
  split at hr
  · rename_i rx ry hx hy
    simp only[Option.some.injEq]at hr
    subst hr
    simp only[X]at h
    refine Wp.seq ((Jv hx h).mono ?_)
    rintro e st' c' ⟨h1,h2⟩
    subst h1
    cases e with
    |normal=>exact Ju hy h2
    |_=>exact⟨rfl,h2⟩
  · simp at hr
 |cond c x y Jv Ju=>
  intro r hr Q tm hp ctr h
  simp only[aC]at hr
  split at hr
  · rename_i rx ry hx hy
    simp only[Option.some.injEq]at hr
    subst hr
    simp only[X]at h
    split at h
    · rename_i b hb
      have hb':((⟨n,tm,hp⟩:St).get c).gA =some b:=by rw[←bj];exact hb
      refine Wp.cond hb' ?_
      rcases jS h with⟨rfl,h⟩|⟨rfl,h⟩
      · exact Jv hx h
      · exact Ju hy h
    · exact h.elim
  · simp at hr
 |block id b ih=>
  intro r hr Q tm hp ctr h
  simp only[aC]at hr
  split at hr
  · rename_i rb hb
    simp only[Option.some.injEq]at hr
    subst hr
    simp only[X]at h
    refine Wp.block ((ih hb h).mono ?_)
    rintro e st' c' ⟨h1,h2⟩
    cases e with
    |exit id'=>
     simp only[rN]at h2
     simp only[ob]
     split
     · rename_i e;rw[if_pos e]at h2;exact⟨h1,h2⟩
     · rename_i e;rw[if_neg e]at h2;exact⟨h1,h2⟩
    |_=>exact⟨h1,h2⟩
  · simp at hr
 |loop b ih=>
  intro r hr Q tm hp ctr h
  simp only[aC]at hr
  split at hr
  · rename_i rb hb
    simp only[Option.some.injEq]at hr
    subst hr
    simp only[X]at h
    obtain⟨I,kX,wB⟩:=h
    obtain⟨uj,nc,c0,K4,m,hI⟩:=kX.get
    refine Wp.DY (st:=⟨n,tm,hp⟩) K4 ?_
    refine Wp.loop (fun m=>nJ n (I m)) ?_ m _ _ ⟨rfl,hI⟩
    rintro m st' c' ⟨h1,h2⟩
    obtain⟨n',aY,hp'⟩:=st'
    simp only at h1 h2
    subst h1
    refine Wp.post (ih hb (wB m aY hp' c' h2)) ?_
    rintro e st2 c2 ⟨h3,h4⟩
    cases e with
    |normal=>
     obtain⟨tm3,S9,c3,hw3,m',hm',Rl⟩:=bQ.get h4
     exact .inr ⟨tm3,S9,c3,hw3,m',hm',h3,Rl⟩
    |_=>exact .inl ⟨h3,h4⟩
  · simp at hr
 |region id ops d=>
  intro r hr Q tm hp ctr h
  cases d with
  |true=>
   simp only[aC]at hr
   split at hr
   · rename_i l hl
     split at hr
     · rename_i hc
       simp only[Bool.and_eq_true]at hc
       simp only[Option.some.injEq]at hr
       subst hr
       simp only[X]at h
       intro M A ρ a w bR
       obtain⟨tmT,hpT,v,fs,⟨q0,q1⟩,_,q3,q4,q5⟩:=rE.trace (P:=P) (ops:=ops) (n:=n) (base:=ctr) (k:=0) (fun j=>by simp) hl rfl (by simpa using h)
       simp only[Nat.zero_add]at q1 q5
       have CS:Rel M A ρ (bg ctr) ⟨n,tmT 0,hpT 0⟩ a w:=bR.forget rfl (fun t u hu=>by rw[←q3 t];exact hu) (fun k b hb=>by rw[q4]at hb;exact hb)
       refine wZ hc.1 (fun i o ho=>q5 i o (by simpa using ho)) (fun i o ho e he=>?_) q0 CS ?_
       · have:=jR hc.2 i (aZ o) (by simp[ho]) e he
         omega
       · rintro a' w' ⟨st',c',A',ρ',⟨rfl,rfl⟩,h2⟩
         exact⟨_,_,A',ρ',⟨rfl,by simpa using q1⟩,h2⟩
     · simp at hr
   · simp at hr
  |false=>
   simp only[aC]at hr
   split at hr
   · rename_i l hl
     simp only[Option.some.injEq]at hr
     subst hr
     simp only[X]at h
     intro M A ρ a w bR
     refine wp_region ?_
     have:=iZ.sound (P:=P) (ops:=ops) (k:=0) (l:=ops.toList) (Q:=fun e a' w'=>Post M A ρ w (nJ n (Q e)) a' w') (fun j=>by simp) hl h bR (fun _ _ hp=>hp)
     rw[List.range_eq_range']
     simpa using this
   · simp at hr
 |_=>intro r hr;simp[aC]at hr
end Go.aR
end
section
namespace Go.aR
open Go
inductive Pn where
 |e
 |o (p:Pn)
 |i (p:Pn)
 deriving DecidableEq
def Jn:Nat→Nat→Pn
 |0,_=> .e
 |f+1,n=>match n with
  |0=> .e
  |m+1=>match m % 2 with
   |0=> .o (Jn f (m / 2))
   |_=> .i (Jn f (m / 2))
def key (n:Nat):Pn:=Jn n n
def Pn.dec:Pn→Nat
 | .e=>0
 | .o p=>2 * p.dec+1
 | .i p=>2 * p.dec+2
theorem qP: ∀ (f n:Nat),n≤f→(Jn f n).dec=n
 |0,n,h=>by
  have:n=0:=by omega
  subst this
  rfl
 |f+1,0,_=>rfl
 |f+1,m+1,h=>by
  simp only[Jn]
  have ih:=qP f (m / 2) (by omega)
  split
  · rename_i h0
    simp only[Pn.dec,ih]
    omega
  · rename_i h0
    simp only[Pn.dec,ih]
    have:m % 2≠0:=h0
    omega
theorem key_inj {a b:Nat} (h:key a=key b):a=b:=by
 have h1:=qP a a (Nat.le_refl _)
 have h2:=qP b b (Nat.le_refl _)
 unfold key at h
 rw[h,h2]at h1
 exact h1.symm
inductive Tr where
 |nil
 |node (v:Option V) (l r:Tr)
def Tr.get:Tr→Pn→Option V
 | .nil,_=>none
 | .node v l r,p=>match p with
   | .e=>v
   | .o q=>l.get q
   | .i q=>r.get q
def Tr.set:Pn→Tr→V→Tr
 | .e,t,x=>match t with
   | .nil=> .node (some x) .nil .nil
   | .node _ l r=> .node (some x) l r
 | .o p,t,x=>match t with
   | .nil=> .node none (Tr.set p .nil x) .nil
   | .node v l r=> .node v (Tr.set p l x) r
 | .i p,t,x=>match t with
   | .nil=> .node none .nil (Tr.set p .nil x)
   | .node v l r=> .node v l (Tr.set p r x)
def Tr.put {α:Type}:Pn→Tr→V→(Tr→α)→α
 | .e,t,x,k=>match t with
   | .nil=>k (.node (some x) .nil .nil)
   | .node _ l r=>k (.node (some x) l r)
 | .o p,t,x,k=>match t with
   | .nil=>Tr.put p .nil x fun l=>k (.node none l .nil)
   | .node v l r=>Tr.put p l x fun l=>k (.node v l r)
 | .i p,t,x,k=>match t with
   | .nil=>Tr.put p .nil x fun r=>k (.node none .nil r)
   | .node v l r=>Tr.put p r x fun r=>k (.node v l r)
theorem Tr.put_eq {α:Type}: ∀ (p:Pn) (t:Tr) (x:V) (k:Tr→α),Tr.put p t x k=k (Tr.set p t x)
 | .e,t,x,k=>by cases t<;>rfl
 | .o p,t,x,k=>by cases t<;>simp only[Tr.put,Tr.set,Tr.put_eq p]
 | .i p,t,x,k=>by cases t<;>simp only[Tr.put,Tr.set,Tr.put_eq p]
theorem Tr.vj (q:Pn):Tr.nil.get q=none:=by cases q<;>rfl
theorem Tr.Bp: ∀ (p:Pn) (t:Tr) (x:V) (q:Pn),(Tr.set p t x).get q=if q=p then some x else t.get q
 | .e,t,x,q=>by cases t<;>cases q<;>simp[Tr.set,Tr.get]
 | .o p,t,x,q=>by cases t<;>cases q<;>simp[Tr.set,Tr.get,Tr.Bp p,Tr.vj]
 | .i p,t,x,q=>by cases t<;>cases q<;>simp[Tr.set,Tr.get,Tr.Bp p,Tr.vj]
def eR (tr:Tr) (L:TS):Prop:= ∀t,find L t=tr.get (key t)
def kS {α:Type} (tm:Tr) (dst:Option Nat) (v:V) (k:Tr→α):α:=
 match dst with
 |some d=>Tr.put (key d) tm v k
 |none=>k tm
def vO (tm:Tr) (dst:Option Nat) (v:V):Tr:=
 match dst with
 |some d=>Tr.set (key d) tm v
 |none=>tm
theorem ix {α:Type} (tm:Tr) (dst:Option Nat) (v:V) (k:Tr→α):kS tm dst v k=k (vO tm dst v):=by
 cases dst<;>simp[kS,vO,Tr.put_eq]
theorem eR.put {tr:Tr} {L:TS} (h:eR tr L) (dst:Option Nat) (v:V):eR (vO tr dst v) (dj L dst v):=by
 intro t
 cases dst with
 |none=>exact h t
 |some d=>
  simp only[vO,dj,Tr.Bp,ai]
  by_cases e:d=t
  · subst e;simp
  · have:¬key t=key d:=fun h'=>e (key_inj h').symm
    simp[e,this,h t]
def gT (tm:Tr):di→V
 | .t n=>(tm.get (key n)).getD .undef
 | .c v=>v
theorem lM {tr:Tr} {L:TS} (h:eR tr L):gT tr=fun x=>x.get L:=by
 funext x
 cases x with
 |t n=>simp only[gT,di.get,h n]
 |c v=>rfl
def ox {α:Sort _} (n:Nat) (k:Nat→α):α:=
 match n with
 |0=>k 0
 |m+1=>k (Nat.succ m)
theorem dO {α:Sort _} (n:Nat) (k:Nat→α):ox n k=k n:=by cases n<;>rfl
def HH {α:Sort _} (n:Int) (k:Int→α):α:=
 match n with
 | .ofNat m=>ox m fun m=>k (.ofNat m)
 | .negSucc m=>ox m fun m=>k (.negSucc m)
theorem EH {α:Sort _} (n:Int) (k:Int→α):HH n k=k n:=by cases n<;>simp[HH,dO]
def HJ {α:Sort _} (b:Bool) (k:Bool→α):α:=
 match b with
 |true=>k true
 |false=>k false
theorem qb {α:Sort _} (b:Bool) (k:Bool→α):HJ b k=k b:=by cases b<;>rfl
def gQ {α:Type} (b:Bool) (x y:α):α:=
 match b with
 |true=>x
 |false=>y
theorem bq {b:Bool} {x:Bool} (h:gQ b x false=true):b=true∧x=true:=by cases b<;>simp_all[gQ]
def nth {α:Type}:List α→Nat→Option α
 | [],_=>none
 |x::r,n=>match n with
  |0=>some x
  |m+1=>nth r m
theorem mr {α:Type}: ∀ (l:List α) (n:Nat),nth l n=l[n]?
 | [],n=>by simp[nth]
 |x::r,0=>by simp[nth]
 |x::r,n+1=>by simp[nth,mr r n]
theorem xu {a b:Nat} (h:Nat.blt a b=true):a < b:=Nat.le_of_ble_eq_true h
theorem QA {a b:Nat} (h:a < b):Nat.blt a b=true:=Nat.ble_eq_true_of_le h
theorem Gg (a b:Nat):Nat.blt a b=decide (a < b):=by
 by_cases h:a < b
 · rw[QA h,decide_eq_true h]
 · rw[decide_eq_false h]
   cases h':Nat.blt a b with
   |false=>rfl
   |true=>exact absurd (xu h') h
def nR (k:IntKind) (n:Int):Int:=
 match k with
 | .i64=>match n with
   | .ofNat m=>gQ (Nat.blt m 9223372036854775808) (.ofNat m) (IntKind.wrap .i64 (.ofNat m))
   | .negSucc m=>gQ (Nat.blt m 9223372036854775808) (.negSucc m) (IntKind.wrap .i64 (.negSucc m))
 | .u64=>match n with
   | .ofNat m=> .ofNat (m % 18446744073709551616)
   | .negSucc m=>IntKind.wrap .u64 (.negSucc m)
 | .u32=>match n with
   | .ofNat m=> .ofNat (m % 4294967296)
   | .negSucc m=>IntKind.wrap .u32 (.negSucc m)
 |k=>k.wrap n
theorem aa {n:Int} (h0: -9223372036854775808≤n) (h1:n < 9223372036854775808):IntKind.i64.wrap n=n:=by
 simp[IntKind.wrap,IntKind.bits,IntKind.signed]
 omega
theorem Cj (k:IntKind) (b:Bool) (n:Int) (h:b=true→k.wrap n=n):gQ b n (k.wrap n)=k.wrap n:=by
 cases b with
 |false=>rfl
 |true=>exact(h rfl).symm
theorem nQ (k:IntKind) (n:Int):nR k n=k.wrap n:=by
 unfold nR
 split
 · split
   · rename_i m
     refine Cj .i64 _ _ fun h=>aa ?_ ?_
     · have:=xu h;simp only[Int.ofNat_eq_natCast];omega
     · have:=xu h;simp only[Int.ofNat_eq_natCast];omega
   · rename_i m
     refine Cj .i64 _ _ fun h=>aa ?_ ?_
     · have:=xu h;omega
     · have:=xu h;omega
 · split
   · rename_i m
     simp only[IntKind.wrap,IntKind.bits,IntKind.signed,Bool.false_and,Int.ofNat_eq_natCast]
     simp
   · rfl
 · split
   · rename_i m
     simp only[IntKind.wrap,IntKind.bits,IntKind.signed,Bool.false_and,Int.ofNat_eq_natCast]
     simp
   · rfl
 · rfl
def G7 (a b:Int):Bool:=
 match a,b with
 | .ofNat x, .ofNat y=>Nat.blt x y
 | .ofNat _, .negSucc _=>false
 | .negSucc _, .ofNat _=>true
 | .negSucc x, .negSucc y=>Nat.blt y x
theorem Ei (a b:Int):G7 a b=decide (a < b):=by
 cases a with
 |ofNat x=>
  cases b with
  |ofNat y=>simp only[G7,Gg];exact decide_eq_decide.2 (by simp only[Int.ofNat_eq_natCast];omega)
  |negSucc y=>simp only[G7];exact(decide_eq_false (by simp only[Int.ofNat_eq_natCast];omega)).symm
 |negSucc x=>
  cases b with
  |ofNat y=>simp only[G7];exact(decide_eq_true (by simp only[Int.ofNat_eq_natCast];omega)).symm
  |negSucc y=>simp only[G7,Gg];exact decide_eq_decide.2 (by omega)
def RL (a b:Int):Bool:=
 match a,b with
 | .ofNat x, .ofNat y=>Nat.beq x y
 | .negSucc x, .negSucc y=>Nat.beq x y
 |_,_=>false
theorem Kl (a b:Int):RL a b=(a==b):=by
 rw[Bool.eq_iff_iff,beq_iff_eq]
 cases a<;>cases b<;>simp[RL]
 omega
def Ej:IntKind→Nat
 | .i8=>0| .i16=>1| .i32=>2| .i64=>3| .u8=>4| .u16=>5| .u32=>6| .u64=>7
theorem FO {k k':IntKind} (h:Nat.beq (Ej k) (Ej k')=true):k=k':=by
 cases k<;>cases k'<;>first|rfl|simp[Ej]at h
def PR (n:Nat):Int:= .ofNat (2 ^ n)
theorem LP (n:Nat):PR n=(2:Int) ^ n:=by simp[PR]
def PG (a:Int) (n:Nat):Int:=
 match a with
 | .ofNat m=> .ofNat (m / 2 ^ n)
 |a=>a.fdiv (2 ^ n)
theorem LC (a:Int) (n:Nat):PG a n=a.fdiv (2 ^ n):=by
 cases a with
 |ofNat m=>
  simp only[PG]
  rw[Int.fdiv_eq_ediv_of_nonneg _ (by exact_mod_cast Nat.zero_le _)]
  simp
 |negSucc m=>rfl
def orI (k:IntKind) (a b:Int):Int:=
 match a,b with
 | .ofNat x, .ofNat y=>gQ (Nat.blt x (2 ^ k.bits)&&Nat.blt y (2 ^ k.bits)) (nR k (.ofNat (x|||y))) (k.wrap (BitVec.ofInt k.bits (.ofNat x)|||BitVec.ofInt k.bits (.ofNat y)).toNat)
 |a,b=>k.wrap (BitVec.ofInt k.bits a|||BitVec.ofInt k.bits b).toNat
theorem kD {w x:Nat} (h:x < 2 ^ w):(BitVec.ofInt w (Int.ofNat x)).toNat=x:=by
 rw[BitVec.toNat_ofInt]
 show((x:Int) % ((2 ^ w:Nat):Int)).toNat=x
 rw[←Int.natCast_emod,Int.toNat_natCast,Nat.mod_eq_of_lt h]
theorem P3 (k:IntKind) (a b:Int):orI k a b=k.wrap (BitVec.ofInt k.bits a|||BitVec.ofInt k.bits b).toNat:=by
 cases a<;>cases b<;>simp only[orI]
 rename_i x y
 cases h:(Nat.blt x (2 ^ k.bits)&&Nat.blt y (2 ^ k.bits))with
 |false=>rfl
 |true=>
  simp only[Bool.and_eq_true,Nat.blt,Nat.ble_eq]at h
  simp only[gQ,nQ,BitVec.toNat_or]
  rw[kD (by omega),kD (by omega)]
  rfl
def Sf (k:IntKind) (a b:Int):Int:=
 match a,b with
 | .ofNat x, .ofNat y=>gQ (Nat.blt x (2 ^ k.bits)&&Nat.blt y (2 ^ k.bits)) (nR k (.ofNat (x&&& y))) (k.wrap (BitVec.ofInt k.bits (.ofNat x)&&& BitVec.ofInt k.bits (.ofNat y)).toNat)
 |a,b=>k.wrap (BitVec.ofInt k.bits a&&& BitVec.ofInt k.bits b).toNat
theorem M6 (k:IntKind) (a b:Int):Sf k a b=k.wrap (BitVec.ofInt k.bits a&&& BitVec.ofInt k.bits b).toNat:=by
 cases a<;>cases b<;>simp only[Sf]
 rename_i x y
 cases h:(Nat.blt x (2 ^ k.bits)&&Nat.blt y (2 ^ k.bits))with
 |false=>rfl
 |true=>
  simp only[Bool.and_eq_true,Nat.blt,Nat.ble_eq]at h
  simp only[gQ,nQ,BitVec.toNat_and]
  rw[kD (by omega),kD (by omega)]
  rfl
end Go.aR
end
section
namespace Go.aR
open Go
def AL {α:Type} (bad:α) (g:di→V):List (Nat×di)→(List (Nat×W)→α)→α
 | [],k=>k []
 |(i,x)::r,k=>match g x with
  | .w u=>AL bad g r fun l=>k ((i,u)::l)
  |_=>bad
theorem zp {tm:TS}: ∀ {ps:List (Nat×di)} {k:List (Nat×W)→Bool},AL false (fun x=>x.get tm) ps k=true→ ∃l,su tm ps=some l∧k l=true
 | [],k,h=>⟨[],rfl,h⟩
 |(i,x)::r,k,h=>by
  simp only[AL]at h
  split at h
  · rename_i u hu
    obtain⟨l,h1,h2⟩:=zp h
    exact⟨_,by simp only[su,hu,h1],h2⟩
  · simp at h
def F3 {α:Type} (bad:α) (g:di→V):List C→List (Nat×Nat×di)→(List C→α)→α
 |cells,[],k=>k cells
 |cells,(off,size,x)::rest,k=>
  match g x with
  | .w u=>gQ (Nat.beq (cellsOf u).length size&&Nat.ble (off+size) cells.length) (hJ (aV cells off (cellsOf u)) fun cs=>F3 bad g cs rest k) bad
  |_=>bad
theorem Dd {tm:TS}: ∀ {ps:List (Nat×Nat×di)} {cells:List C} {k:List C→Bool},F3 false (fun x=>x.get tm) cells ps k=true→ ∃l,wW tm cells ps=some l∧k l=true
 | [],cells,k,h=>⟨cells,rfl,h⟩
 |(off,size,x)::r,cells,k,h=>by
  simp only[F3]at h
  split at h
  · rename_i u hu
    obtain⟨hc,h⟩:=bq h
    rw[bX]at h
    simp only[Bool.and_eq_true,Nat.beq_eq,Nat.ble_eq]at hc
    obtain⟨l,h1,h2⟩:=Dd h
    exact⟨l,by simp only[wW,hu,if_pos hc,h1],h2⟩
  · simp at h
def Ge {α:Type} (bad:α) (g:di→V):List di→(List (Nat×Nat×Nat×Nat)→α)→α
 | [],k=>k []
 |x::r,k=>match g x with
  | .w (.one (.ptr id sz i j))=>Ge bad g r fun l=>k ((id,sz,i,j)::l)
  |_=>bad
theorem Dy {tm:TS}: ∀ {ps:List di} {k:List (Nat×Nat×Nat×Nat)→Bool},Ge false (fun x=>x.get tm) ps k=true→ ∃l,zV tm ps=some l∧k l=true
 | [],k,h=>⟨[],rfl,h⟩
 |x::r,k,h=>by
  simp only[Ge]at h
  split at h
  · rename_i id sz i j hu
    obtain⟨l,h1,h2⟩:=Dy h
    exact⟨_,by simp only[zV,hu,h1],h2⟩
  · simp at h
def O2 {α:Type} (bad:α) (g:di→V):List di→(List W→α)→α
 | [],k=>k []
 |x::r,k=>match g x with
  | .w u=>O2 bad g r fun l=>k (u::l)
  |_=>bad
theorem vz {tm:TS}: ∀ {ps:List di} {k:List W→Bool},O2 false (fun x=>x.get tm) ps k=true→ ∃l,Fl tm ps=some l∧k l=true
 | [],k,h=>⟨[],rfl,h⟩
 |x::r,k,h=>by
  simp only[O2]at h
  split at h
  · rename_i u hu
    obtain⟨l,h1,h2⟩:=vz h
    exact⟨_,by simp only[Fl,hu,h1],h2⟩
  · simp at h
def Cs {α:Type} (bad:α) (n:Option Nat) (cs:List C) (j:Nat) (K:V→α):α:=
 match n with
 |some n=>gQ (Nat.ble (j+n) cs.length) (hJ ((cs.drop j).take n) fun l=>K (.w (.agg l))) bad
 |none=>match nth cs j with
  |some c=>yB c fun c=>K (.w (.one c))
  |none=>bad
theorem qG {n:Option Nat} {cs:List C} {j:Nat} {K:V→Bool} (h:Cs false n cs j K=true):qF n cs j fun v=>K v=true:=by
 unfold Cs at h
 unfold qF
 split at h
 · obtain⟨hc,h⟩:=bq h
   simp only[Nat.ble_eq]at hc
   simp only[if_pos hc,bX]at h⊢
   exact h
 · split at h
   · rename_i c hc
     rw[mr]at hc
     simp only[hc,kJ]at h⊢
     exact h
   · simp at h
def Bz {α:Type} (bad:α) (hp:HS) (c:C) (k:List C→Nat→α):α:=
 match c with
 | .ptr id sz i j=>match find hp id with
   |some (.row sz' xs)=>match nth xs i with
    |some e=>gQ (Nat.beq sz' sz) (k e j) bad
    |none=>bad
   |_=>bad
 | .rJ e j=>k (e.map .t) j
 |_=>bad
theorem zR {hp:HS} {c:C} {k:List C→Nat→Bool} (h:Bz false hp c k=true): ∃cs j,deref hp c=some (cs,j)∧k cs j=true:=by
 unfold Bz at h
 split at h
 · split at h
   · rename_i hf
     split at h
     · rename_i e he
       obtain⟨hc,h⟩:=bq h
       rw[mr]at he
       simp only[Nat.beq_eq]at hc
       exact⟨_,_,by simp[deref,hf,hc,he],h⟩
     · simp at h
   · simp at h
 · exact⟨_,_,rfl,h⟩
 · simp at h
def Wr {α:Type} (bad:α) (c:C) (k:Nat→α):α:=
 match c.wv with
 |some n=>ox n k
 |none=>bad
def R9 {α:Type} (bad:α) (op:BinOp) (k:IntKind) (a b:Int) (K:V→α):α:=
 match op with
 | .add=>HH (nR k (a+b)) fun n=>K (iV k n)
 | .sub=>HH (nR k (a - b)) fun n=>K (iV k n)
 | .mul=>HH (nR k (a * b)) fun n=>K (iV k n)
 | .eql=>HJ (RL a b) fun c=>K (bV c)
 | .neq=>HJ (!(RL a b)) fun c=>K (bV c)
 | .lss=>HJ (G7 a b) fun c=>K (bV c)
 | .leq=>HJ (!(G7 b a)) fun c=>K (bV c)
 | .gtr=>HJ (G7 b a) fun c=>K (bV c)
 | .geq=>HJ (!(G7 a b)) fun c=>K (bV c)
 | .quo=>gQ (!(RL b 0)) (HH (nR k (a.tdiv b)) fun n=>K (iV k n)) bad
 | .rem=>gQ (!(RL b 0)) (HH (a.tmod b) fun n=>K (iV k n)) bad
 | .shl=>gQ (!(G7 b 0)) (HH (nR k (a * PR (min b.toNat k.bits))) fun n=>K (iV k n)) bad
 | .shr=>gQ (!(G7 b 0)) (HH (PG a (min b.toNat k.bits)) fun n=>K (iV k n)) bad
 | .and=>HH (Sf k a b) fun n=>K (iV k n)
 | .or=>HH (orI k a b) fun n=>K (iV k n)
 |_=>bad
def ER {α:Type} (bad:α) (r:Ro) (g:di→V) (hp:HS) (nid:Nat) (K:V→HS→α):α:=
 match r with
 | .DL x=>tJ (g x) fun v=>K v hp
 | .pick c x y=>match(g c).gA with
   |some b=>gQ b (tJ (g x) fun v=>K v hp) (tJ (g y) fun v=>K v hp)
   |none=>bad
 | .alloc z=>K (.w (.one (.ptr nid z.length 0 0))) ((nid, .row z.length [z])::hp)
 | .box x=>match g x with
   | .w u=>hJ (cellsOf u) fun cs=>K (.w (.one (.ptr nid cs.length 0 0))) ((nid, .row cs.length [cs])::hp)
   |_=>bad
 | .build z ps=>F3 bad g z ps fun cs=>K (.w (.agg cs)) hp
 | .sY z len ps=>AL bad g ps fun l=>match po z.length (List.replicate len z) l with
    |some xs=>hJ xs fun xs=>K (.w (.one (.own nid z.length 0 len))) ((nid, .row z.length xs)::hp)
    |none=>bad
 | .load n x=>match g x with
   | .w (.one c)=>Bz bad hp c fun cs j=>Cs bad n cs j fun v=>K v hp
   |_=>bad
 | .store n x y=>match g x,g y with
   | .w (.one (.ptr id sz i j)), .w u=>match find hp id with
     |some (.row sz' xs)=>match nth xs i with
      |some el=>gQ (Nat.beq sz' sz&&Nat.beq (cellsOf u).length n&&Nat.ble (j+n) el.length)
        (hJ (aV el j (cellsOf u)) fun DR=>hJ (xs.set i DR) fun xs'=>hJ (jx hp id (.row sz xs')) fun h=>K .undef h) bad
      |none=>bad
     |_=>bad
   |_,_=>bad
 | .zP off x=>match g x with
   | .w (.one (.ptr id sz i j))=>ox (j+off) fun q=>K (.w (.one (.ptr id sz i q))) hp
   | .w (.one (.rJ e j))=>ox (j+off) fun q=>K (.w (.one (.rJ e q))) hp
   |_=>bad
 | .field off n x=>match g x with
   | .w (.agg cs)=>Cs bad n cs off fun v=>K v hp
   |_=>bad
 | .CP size x i=>match g x,(g i).fO with
   | .w (.one (.own id sz i0 len)),some (_, .ofNat n)=>gQ (Nat.beq sz size&&Nat.blt n len) (ox (i0+n) fun q=>K (.w (.one (.ptr id sz q 0))) hp) bad
   | .w (.one (.t (.aA sz xs))),some (_, .ofNat n)=>match nth xs n with
     |some e=>gQ (Nat.beq sz size) (K (.w (.one (.rJ e 0))) hp) bad
     |none=>bad
   |_,_=>bad
 | .wz len size x i=>match g x,(g i).fO with
   | .w (.one c),some (_, .ofNat n)=>match c.shift (n * size)with
     |some d=>gQ (Nat.blt n len) (K (.w (.one d)) hp) bad
     |none=>bad
   |_,_=>bad
 | .slice size x lo hi=>match g x with
   | .w (.one c)=>match c.wv,c.PB with
     |some len,some sz=>match gb (lo.map g) 0,gb (hi.map g) len with
       |some l,some h=>gQ (Nat.beq sz size&&Nat.ble l h&&Nat.ble h len) (match BA c l h with
        |some d=>yB d fun d=>K (.w (.one d)) hp
        |none=>bad) bad
       |_,_=>bad
     |_,_=>bad
   |_=>bad
 | .make z bytes l c=>match(g l).fO,(g c).fO with
   |some (_, .ofNat l),some (_, .ofNat c)=>gQ (Nat.ble l c&&Nat.ble c 4611686018427387904&&Nat.ble (c * bytes) 281474976710656)
     (hJ (List.replicate l z) fun xs=>K (.w (.one (.own nid z.length 0 l))) ((nid, .row z.length xs)::hp)) bad
   |_,_=>bad
 | .extract x k=>match g x with
   | .ef ws=>match nth ws k with
     |some u=>tJ (.w u) fun v=>K v hp
     |none=>bad
   |_=>bad
 | .kM f df=>Ge bad g df fun l=>K (.w (.one (.kM f l))) hp
 | .len x=>match g x with
   | .w (.one c)=>Wr bad c fun n=>K (iV .i64 (.ofNat n)) hp
   |_=>bad
 | .append size bytes s x=>match g s,g x with
   | .w (.one s), .w (.one x)=>match sV hp x with
     |some (_,[])=>match s.wv with
      |some _=>yB s fun s=>K (.w (.one s)) hp
      |none=>bad
     |some (sz,y::ys)=>match s with
      | .own id sz' 0 len=>match find hp id with
        |some (.row dz xs)=>
         gQ (Nat.beq sz size&&Nat.beq sz' size&&Nat.beq dz size&&Nat.beq len xs.length&&Nat.ble ((len+(ys.length+1)) * bytes) aT&&Nat.ble (len+(ys.length+1)) maxLen)
          (hJ (del hp id) fun hp=>hJ (xs++y::ys) fun zs=>ox (len+(ys.length+1)) fun q=>K (.w (.one (.own nid size 0 q))) ((nid, .row size zs)::hp)) bad
        |_=>bad
      | .t (.val (.slice none 0 0))=>gQ (Nat.beq sz size&&Nat.ble ((ys.length+1) * bytes) aT&&Nat.ble (ys.length+1) maxLen)
         (hJ (y::ys) fun zs=>ox (ys.length+1) fun q=>K (.w (.one (.own nid size 0 q))) ((nid, .row size zs)::hp)) bad
      |_=>bad
     |none=>bad
   |_,_=>bad
 | .bin op x y=>match g x,g y with
   | .w (.one (.t (.val (.int k a)))), .w (.one (.t (.val (.int k' b))))=>gQ (Nat.beq (Ej k) (Ej k')) (R9 bad op k a b fun v=>K v hp) bad
   | .w (.one (.t (.val (.string a)))), .w (.one (.t (.val (.string b))))=>match op with
     | .add=>gQ (Nat.ble (a.data.toList.length+b.data.toList.length) 9223372036854775807) (hJ (a.data.toList++b.data.toList) fun l=>K (.w (.one (.t (.val (.string ⟨⟨l⟩⟩))))) hp) bad
     | .eql=>HJ (a.data.toList==b.data.toList) fun c=>K (bV c) hp
     | .neq=>HJ (!(a.data.toList==b.data.toList)) fun c=>K (bV c) hp
     |_=>bad
   |_,_=>bad
 | .KA op x y=>match(g x).gA,(g y).gA with
   |some a,some b=>match op with
    | .eql=>HJ (a==b) fun c=>K (bV c) hp
    | .neq=>HJ (!(a==b)) fun c=>K (bV c) hp
    |_=>bad
   |_,_=>bad
 | .RM neg ks x y=>match g x,g y with
   | .w (.agg cs), .w (.agg ds)=>match rh ks cs ds with
     |some b=>HJ b fun b=>match neg with
      |true=>K (bV (!b)) hp
      |false=>K (bV b) hp
     |none=>bad
   |_,_=>bad
 | .GF x y=>match(g x).fO,(g y).fO with
   |some (k,a),some (_,b)=>K (iV k (gQ (G7 b a) b a)) hp
   |_,_=>bad
 | .GG x y=>match(g x).fO,(g y).fO with
   |some (k,a),some (_,b)=>K (iV k (gQ (G7 a b) b a)) hp
   |_,_=>bad
 | .GH x=>match g x with
   | .w (.one (.t (.val (.string s))))=>ox s.data.toList.length fun n=>K (iV .i64 (.ofNat n)) hp
   |_=>bad
 | .IP x i=>match g x,(g i).fO with
   | .w (.one (.t (.val (.string s)))),some (_, .ofNat n)=>match nth s.data.toList n with
     |some b=>ox b.toNat fun q=>K (iV .u8 (.ofNat q)) hp
     |none=>bad
   |_,_=>bad
 | .not x=>match(g x).gA with
   |some b=>HJ (!b) fun c=>K (bV c) hp
   |none=>bad
 | .neg x=>match(g x).fO with
   |some (k,n)=>HH (nR k (0 - n)) fun n=>K (iV k n) hp
   |none=>bad
 | .conv k x=>match(g x).fO with
   |some (_,n)=>HH (nR k n) fun n=>K (iV k n) hp
   |none=>bad
 |_=>bad
set_option maxHeartbeats 1000000
theorem M5 {op:BinOp} {x y:di} {k:IntKind} {a b:Int} {tm:TS} {hp:HS} {nid:Nat} {K:V→HS→Bool} (hx:x.get tm=iV k a) (hy:y.get tm=iV k b)
 (h:R9 false op k a b (fun v=>K v hp)=true):XR (.bin op x y) tm hp nid fun v hp'=>K v hp'=true:=by
 simp only[XR,hx,hy,if_true]
 cases op<;>simp only[R9,EH,qb,nQ,Kl,Ei,LP,LC,M6,P3]at h
 case add=>exact h
 case sub=>exact h
 case mul=>exact h
 case eql=>exact h
 case neq=>exact h
 case lss=>exact h
 case leq=>
  have e:(!decide (b < a))=decide (a≤b):=by rw[Bool.eq_iff_iff];simp
  rw[e]at h
  exact h
 case gtr=>exact h
 case geq=>
  have e:(!decide (a < b))=decide (a≥b):=by rw[Bool.eq_iff_iff];simp
  rw[e]at h
  exact h
 case quo=>
  obtain⟨h1,h2⟩:=bq h
  exact⟨by simpa using h1,h2⟩
 case rem=>
  obtain⟨h1,h2⟩:=bq h
  exact⟨by simpa using h1,h2⟩
 case shl=>
  obtain⟨h1,h2⟩:=bq h
  exact⟨by simpa using h1,h2⟩
 case shr=>
  obtain⟨h1,h2⟩:=bq h
  exact⟨by simpa using h1,h2⟩
 case and=>exact h
 case or=>exact h
 all_goals simp at h
theorem Sb (s:ByteArray) (n:Nat):s.data.toList[n]? =s[n]? :=by
 by_cases h:n < s.size
 · have h2:n < s.data.size:=h
   rw[getElem?_pos s n h]
   simp only[Array.getElem?_toList]
   rw[getElem?_pos s.data n h2]
   rfl
 · have h2:¬n < s.data.size:=h
   rw[getElem?_neg s n h]
   simp only[Array.getElem?_toList]
   rw[getElem?_neg s.data n h2]
theorem YI {r:Ro} {tm:TS} {hp:HS} {nid:Nat} {K:V→HS→Bool} (h:ER false r (fun x=>x.get tm) hp nid K=true):XR r tm hp nid fun v hp'=>K v hp'=true:=by
 cases r with
 |DL x=>simpa only[ER,XR,cF]using h
 |pick c x y=>
  simp only[ER,XR,cF]at h⊢
  split at h
  · rename_i b hb
    simp only[hb]
    cases b
    · exact h
    · exact h
  · simp at h
 |alloc z=>exact h
 |box x=>
  simp only[ER,XR,bX]at h⊢
  split at h
  · rename_i u hu;simp only[hu];exact h
  · simp at h
 |build z ps=>
  simp only[ER,XR,bX]at h⊢
  obtain⟨l,h1,h2⟩:=Dd h
  simp only[h1]
  exact h2
 |sY z len ps=>
  simp only[ER,XR,bX]at h⊢
  obtain⟨l,h1,h2⟩:=zp h
  simp only[h1]
  split at h2
  · rename_i xs hxs;simp only[hxs];exact h2
  · simp at h2
 |load n x=>
  simp only[ER,XR]at h⊢
  split at h
  · rename_i c hc
    simp only[hc]
    obtain⟨cs,j,h1,h2⟩:=zR h
    cases c with
    |ptr id sz i j'=>
     simp only[deref]at h1
     split at h1
     · rename_i sz' xs hf
       simp only[hf]
       split at h1
       · rename_i hs
         rw[if_pos hs]
         simp only[Option.map_eq_some_iff,Prod.mk.injEq]at h1
         obtain⟨e,he,rfl,rfl⟩:=h1
         simp only[qA,he]
         exact qG h2
       · simp at h1
     · simp at h1
    |_=>simp only[h1];exact qG h2
  · simp at h
 |store n x y=>
  simp only[ER,XR,bX]at h⊢
  split at h
  · rename_i id sz i j u hx hy
    simp only[hx,hy]
    split at h
    · rename_i sz' xs hf
      simp only[hf]
      split at h
      · rename_i el hel
        rw[mr]at hel
        simp only[qA,hel]
        obtain⟨hc,h⟩:=bq h
        simp only[Bool.and_eq_true,Nat.beq_eq,Nat.ble_eq]at hc
        rw[if_pos ⟨hc.1.1,hc.1.2,hc.2⟩]
        exact h
      · simp at h
    · simp at h
  · simp at h
 |zP off x=>
  simp only[ER,XR,dO]at h⊢
  split at h
  · rename_i hx;simp only[hx];exact h
  · rename_i hx;simp only[hx];exact h
  · simp at h
 |field off n x=>
  simp only[ER,XR]at h⊢
  split at h
  · rename_i hx;simp only[hx];exact qG h
  · simp at h
 |CP size x i=>
  simp only[ER,XR,dO]at h⊢
  split at h
  · rename_i id sz i0 len q n hx hi
    simp only[hx,hi]
    obtain⟨hc,h⟩:=bq h
    simp only[Bool.and_eq_true,Nat.beq_eq,Nat.blt,Nat.ble_eq]at hc
    rw[if_pos hc.1]
    refine⟨⟨Int.natCast_nonneg n,?_⟩,h⟩
    show(n:Int) < (len:Int)
    omega
  · rename_i sz xs q n hx hi
    simp only[hx,hi]
    split at h
    · rename_i e he
      rw[mr]at he
      obtain⟨hc,h⟩:=bq h
      simp only[Nat.beq_eq]at hc
      rw[if_pos hc]
      exact⟨Int.natCast_nonneg n,e,he,h⟩
    · simp at h
  · simp at h
 |wz len size x i=>
  simp only[ER,XR]at h⊢
  split at h
  · rename_i c q n hx hi
    simp only[hx,hi]
    split at h
    · rename_i d hd
      obtain⟨hc,h⟩:=bq h
      have e:(Int.ofNat n).toNat=n:=rfl
      simp only[e,hd]
      simp only[Nat.blt,Nat.ble_eq]at hc
      refine⟨⟨Int.natCast_nonneg n,?_⟩,h⟩
      show(n:Int) < (len:Int)
      omega
    · simp at h
  · simp at h
 |slice size x lo hi=>
  simp only[ER,XR,kJ]at h⊢
  split at h
  · rename_i c hc
    simp only[hc]
    split at h
    · rename_i len sz hl hs
      simp only[hl,hs]
      split at h
      · rename_i l hh h1 h2
        obtain⟨hc,h⟩:=bq h
        simp only[Bool.and_eq_true,Nat.beq_eq,Nat.ble_eq]at hc
        rw[if_pos hc.1.1]
        refine Gf h1 (Gf h2 ⟨⟨hc.1.2,hc.2⟩,?_⟩)
        split at h
        · rename_i d hd;simp only[xh,hd];exact h
        · simp at h
      · simp at h
    · simp at h
  · simp at h
 |make z bytes l c=>
  simp only[ER,XR,bX]at h⊢
  split at h
  · rename_i q l' q' c' hl hc
    simp only[hl,hc]
    obtain⟨hh,h⟩:=bq h
    obtain⟨ahM,hh3⟩:=Bool.and_eq_true _ _▸hh
    obtain⟨Q9,Xn⟩:=Bool.and_eq_true _ _▸ahM
    have g1:=Nat.le_of_ble_eq_true Q9
    have g2:=Nat.le_of_ble_eq_true Xn
    have g3:=Nat.le_of_ble_eq_true hh3
    refine⟨⟨Int.natCast_nonneg l',Int.ofNat_le.2 g1,?_,?_⟩,h⟩
    · show(c':Int)≤_
      omega
    · show(c':Int) * (bytes:Int)≤_
      rw[←Int.natCast_mul]
      generalize c' * bytes=q at g3
      omega
  · simp at h
 |extract x k=>
  simp only[ER,XR,cF]at h⊢
  split at h
  · rename_i ws hx
    simp only[hx]
    split at h
    · rename_i u hu
      rw[mr]at hu
      simp only[hu]
      exact h
    · simp at h
  · simp at h
 |kM f df=>
  simp only[ER,XR]at h⊢
  obtain⟨l,h1,h2⟩:=Dy h
  simp only[h1]
  exact h2
 |len x=>
  simp only[ER,XR,Wr,dO]at h⊢
  split at h
  · rename_i c hc
    simp only[hc]
    split at h
    · rename_i n hn;simp only[hn];exact h
    · simp at h
  · simp at h
 |append size bytes s x=>
  simp only[ER,XR,bX,dO,kJ]at h⊢
  split at h
  · rename_i s' x' hs hx
    simp only[hs,hx]
    split at h
    · rename_i sz he
      simp only[he]
      split at h
      · rename_i ln Ze;simp only[Ze];exact h
      · simp at h
    · rename_i sz y ys he
      simp only[he]
      split at h
      · rename_i id sz' len
        split at h
        · rename_i dz xs hf
          simp only[hf]
          obtain⟨hc,h⟩:=bq h
          simp only[Bool.and_eq_true,Nat.beq_eq,Nat.ble_eq]at hc
          obtain⟨⟨⟨⟨⟨h1,h2⟩,h3⟩,h4⟩,h5⟩,h6⟩:=hc
          subst h4
          rw[if_pos ⟨h1,h2,h3⟩]
          exact⟨⟨rfl,h5,h6⟩,h⟩
        · simp at h
      · obtain⟨hc,h⟩:=bq h
        simp only[Bool.and_eq_true,Nat.beq_eq,Nat.ble_eq]at hc
        obtain⟨⟨h1,h2⟩,h3⟩:=hc
        rw[if_pos h1]
        exact⟨⟨h2,h3⟩,h⟩
      · simp at h
    · simp at h
  · simp at h
 |bin op x y=>
  simp only[ER]at h
  split at h
  · rename_i k a k' b hx hy
    obtain⟨hc,h'⟩:=bq h
    have:=FO hc
    subst this
    exact M5 hx hy h'
  · rename_i a b hx hy
    simp only[XR,hx,hy]
    split at h
    · obtain⟨h1,h2⟩:=bq h
      rw[bX]at h2
      have e:(⟨⟨a.data.toList++b.data.toList⟩⟩:ByteArray)=a++b:=by
       apply ByteArray.ext
       rw[ByteArray.data_append]
       apply Array.ext'
       simp
      rw[e]at h2
      exact⟨by have h3:=Nat.le_of_ble_eq_true h1;rw[Array.length_toList,Array.length_toList]at h3;exact h3,h2⟩
    · simpa only[qb,ByteArray.toList_eq]using h
    · simpa only[qb,ByteArray.toList_eq]using h
    · simp at h
  · simp at h
 |Ky x=>simp[ER]at h
 |RM neg ks x y=>
  simp only[ER,XR]at h⊢
  split at h
  · rename_i cs ds hx hy
    simp only[hx,hy]
    split at h
    · rename_i b hb
      simp only[hb]
      rw[qb]at h
      cases neg<;>exact h
    · simp at h
  · simp at h
 |KA op x y=>
  simp only[ER,XR]at h⊢
  split at h
  · rename_i a b hx hy
    simp only[hx,hy]
    split at h
    · simpa only[qb]using h
    · simpa only[qb]using h
    · simp at h
  · simp at h
 |GF x y=>
  simp only[ER,XR,Ei]at h⊢
  split at h
  · rename_i k a k' b hx hy
    simp only[hx,hy]
    have e:gQ (decide (b < a)) b a=if b < a then b else a:=by by_cases hb:b < a<;>simp[gQ,hb]
    rw[e]at h
    exact h
  · simp at h
 |GG x y=>
  simp only[ER,XR,Ei]at h⊢
  split at h
  · rename_i k a k' b hx hy
    simp only[hx,hy]
    have e:gQ (decide (a < b)) b a=if b > a then b else a:=by by_cases hb:a < b<;>simp[gQ,hb]
    rw[e]at h
    exact h
  · simp at h
 |GH x=>
  simp only[ER,XR,dO]at h⊢
  split at h
  · rename_i s hx;simp only[hx];exact h
  · simp at h
 |IP x i=>
  simp only[ER,XR,dO]at h⊢
  split at h
  · rename_i s q n hx hi
    simp only[hx,hi]
    split at h
    · rename_i b hb
      rw[mr]at hb
      refine⟨Int.natCast_nonneg n,b,?_,h⟩
      have e:(Int.ofNat n).toNat=n:=rfl
      rw[e, ←Sb]
      exact hb
    · simp at h
  · simp at h
 |not x=>
  simp only[ER,XR,qb]at h⊢
  split at h
  · rename_i b hb;simp only[hb];exact h
  · simp at h
 |neg x=>
  simp only[ER,XR,EH,nQ]at h⊢
  split at h
  · rename_i k n hx;simp only[hx];exact h
  · simp at h
 |conv k x=>
  simp only[ER,XR,EH,nQ]at h⊢
  split at h
  · rename_i q n hx;simp only[hx];exact h
  · simp at h
 |call f xs=>simp[ER]at h
 |kN x xs=>simp[ER]at h
 |raw op ty=>simp[ER]at h
end Go.aR
end
section
namespace Go.aR
open Go
variable {P:Program} {M A:Nat→Prop} {ρ:Env} {F:Nat→Prop} {st:St} {a:Act} {w:World}
abbrev bare (op:Op) (ty:TypeId):Oper:=⟨none,op,ty, "", #[],none⟩
theorem tN (ev:Operand→Value) (o:Oper):execOp ev (bare o.op o.type)=execOp ev o:=by cases o;rfl
theorem yH (get:Operand→V) (o:Oper):bc P get (bare o.op o.type)=bc P get o:=by cases o;rfl
theorem tO (get:Operand→V) (hp:HS) (nid:Nat) (o:Oper):aq P get hp nid (bare o.op o.type)=aq P get hp nid o:=by cases o;rfl
theorem Ax {w:World} {b:Nat} {en en':Array MapEntry} {c c':Nat} (hb:w.heap[b]? =some (.map en c)) (k:Nat):({w with heap:=w.heap.setIfInBounds b (.map en' c')}:World).shape? k=w.shape? k:=by
 simp only[World.shape?]
 by_cases hk:b=k
 · subst hk
   have hlt:b < w.heap.size:=by
    rcases Nat.lt_or_ge b w.heap.size with h|h
    · exact h
    · simp[Array.getElem?_eq_none h]at hb
   have e:(w.heap.setIfInBounds b (.map en' c'))[b]? =some (.map en' c'):=by simp[hlt]
   rw[e,hb]
 · rw[Array.getElem?_setIfInBounds_ne hk]
theorem Rel.sc (h:Rel M A ρ F st a w) {id clock clock':Nat} {es es':List (Value×C×Nat)} {b:Nat} {en en':Array MapEntry}
 (hf:find st.heap id=some (.mp es clock)) (hρ:ρ id=some (.fF b)) (hb:w.heap[b]? =some (.map en clock)) (hs:en'.size=es'.length)
 (hc: ∀ (i:Nat) (k:Value) (c:C) (n:Nat),es'[i]? =some (k,c,n)→ ∃e,en'[i]? =some e∧e.key=k∧e.born=n∧RC w A ρ c e.val∧xP c e.val):
 Rel M A ρ F {st with heap:=jx st.heap id (.mp es' clock')} a {w with heap:=w.heap.setIfInBounds b (.map en' clock')}∧cJ M w {w with heap:=w.heap.setIfInBounds b (.map en' clock')}:=by
 obtain⟨hlt,hM,hA⟩:=(h.heap id _ hf).lt hρ
 have CU: ∀k,k≠b→(w.heap.setIfInBounds b (.map en' clock'))[k]? =w.heap[k]? :=fun k hk=>Array.getElem?_setIfInBounds_ne (fun e=>hk e.symm)
 have hk:ej A A w {w with heap:=w.heap.setIfInBounds b (.map en' clock')}:=⟨by simp,fun k _ hn=>⟨CU k (fun e=>hn (e▸hA)),hn⟩⟩
 have hsh: ∀k,k < w.heap.size→({w with heap:=w.heap.setIfInBounds b (.map en' clock')}:World).shape? k=w.shape? k:=fun k _=>Ax hb k
 have dJ:cJ M w {w with heap:=w.heap.setIfInBounds b (.map en' clock')}:=⟨rfl,rfl,rfl,by simp,fun k _ ho=>CU k (fun e=>ho (e▸hM)),hsh⟩
 refine⟨⟨h.size,h.defers,fun t v hv=>(h.tmps t v hv).keeps hk hsh (cN.refl _),?_,?_,h.fresh,?_,?_,h.dN.EN dJ (fun _ _ h=>h)⟩,dJ⟩
 · intro k blk CX
   simp only[bt]at CX
   split at CX
   · rename_i ek
     subst ek
     simp only[hf,Option.map_some,Option.some.injEq]at CX
     subst CX
     refine⟨b,en',hρ,hM,hA,by simp[hlt],hs,fun i k c n hi=>?_⟩
     obtain⟨e,h1,h2,h3,h4,h5⟩:=hc i k c n hi
     exact⟨e,h1,h2,h3,h4.keeps hk hsh (cN.refl _),h5⟩
   · rename_i ek
     refine(h.heap k blk CX).keeps hk hsh (cN.refl _) (fun _ h=>h) (fun b' hb'=>CU b' (fun e=>ek ?_))
     subst e
     exact h.inj k id blk _ b' CX hf hb' hρ
 · intro k k' blk fH b' h1 h2 r1 r2
   have g: ∀q bl,find (jx st.heap id (.mp es' clock')) q=some bl→ ∃BX,find st.heap q=some BX:=by
    intro q bl hq
    simp only[bt]at hq
    split at hq
    · rename_i e;subst e;exact⟨_,hf⟩
    · exact⟨_,hq⟩
   obtain⟨Yh,g1⟩:=g k blk h1
   obtain⟨Tp,g2⟩:=g k' fH h2
   exact h.inj k k' Yh Tp b' g1 g2 r1 r2
 · intro q hq;simpa using h.bound q hq
 · intro q hq;exact h.may q (by simpa using hq)
theorem Rel.Jf (h:Rel M A ρ F st a w) {nid:Nat} (hn:F nid):
 Rel M (fun b=>A b∨b=w.heap.size) (dn ρ nid (.fF w.heap.size)) (Sub F nid) {st with heap:=(nid, .mp [] 0)::st.heap} a (w.alloc (.map #[] 0))∧cN ρ (dn ρ nid (.fF w.heap.size)):=by
 have hρ:=h.fresh nid hn
 have cC:cN ρ (dn ρ nid (.fF w.heap.size)):=cN.jx hρ
 have hk:=nN (A:=A) (w:=w) (.map #[] 0)
 have hs:=kx (w:=w) (.map #[] 0)
 have hnew:(w.alloc (.map #[] 0)).heap[w.heap.size]? =some (.map #[] 0):=heap_alloc_new w _
 refine⟨⟨h.size,h.defers,fun t v hv=>(h.tmps t v hv).keeps hk hs cC,?_,?_,?_,?_,?_,h.dN.EN (cJ.alloc _ _ _) (fun b hb h=>h.elim id (fun e=>by omega))⟩,cC⟩
 · intro id blk hf
   simp only[ai]at hf
   split at hf
   · rename_i e'
     subst e'
     simp only[Option.some.injEq]at hf
     subst hf
     exact⟨w.heap.size, #[],by simp[dn],h.may _ (Nat.le_refl _), .inr rfl,hnew,rfl,fun i k c n hi=>by simp at hi⟩
   · have hb:=h.heap id blk hf
     exact hb.keeps hk hs cC (fun b hb=> .inl hb) (fun b zK=>RowKit.Below.heap_alloc w _ b (hb.lt zK).1)
 · intro id id' blk fH b hf lJ hr dl
   simp only[ai]at hf lJ
   simp only[dn]at hr dl
   by_cases e1:nid=id<;>by_cases e2:nid=id'
   · omega
   · simp only[e2,if_false]at lJ
     have:¬id'=nid:=fun e=>e2 e.symm
     simp only[this,if_false]at dl
     simp only[e1.symm,if_true,Option.some.injEq,Loc.fF.injEq]at hr
     have:=((h.heap id' fH lJ).lt dl).1
     omega
   · simp only[e1,if_false]at hf
     have:¬id=nid:=fun e=>e1 e.symm
     simp only[this,if_false]at hr
     simp only[e2.symm,if_true,Option.some.injEq,Loc.fF.injEq]at dl
     have:=((h.heap id blk hf).lt hr).1
     omega
   · simp only[e1,e2,if_false]at hf lJ
     have n1:¬id=nid:=fun e=>e1 e.symm
     have n2:¬id'=nid:=fun e=>e2 e.symm
     simp only[n1,n2,if_false]at hr dl
     exact h.inj id id' blk fH b hf lJ hr dl
 · intro id hi
   have:¬id=nid:=fun e=>hi.2 ⟨by omega,by omega⟩
   simp only[dn,this,if_false]
   exact h.fresh id hi.1
 · intro b hb
   simp only[World.alloc,Array.size_push]
   rcases hb with hb|hb
   · have:=h.bound b hb;omega
   · omega
 · intro b hb
   refine h.may b ?_
   simp only[World.alloc,Array.size_push]at hb
   omega
theorem Rel.LW (h:Rel M A ρ F st a w) (o:Obj):Rel M A ρ F st a (w.alloc o)∧cJ M w (w.alloc o):=by
 have hk:ej A A w (w.alloc o):=⟨by simp,fun b hlt hn=>⟨RowKit.Below.heap_alloc w o b hlt,hn⟩⟩
 have hs:=kx (w:=w) o
 refine⟨⟨h.size,h.defers,fun t v hv=>(h.tmps t v hv).keeps hk hs (cN.refl _),fun id blk hf=>?_,h.inj,h.fresh,fun b hb=>?_,fun b hb=>?_,h.dN.EN (cJ.alloc _ _ _) (fun _ _ h=>h)⟩,cJ.alloc M w o⟩
 · have hb:=h.heap id blk hf
   exact hb.keeps hk hs (cN.refl _) (fun _ h=>h) (fun b zK=>RowKit.Below.heap_alloc w _ b (hb.lt zK).1)
 · have:=h.bound b hb
   simp only[World.alloc,Array.size_push];omega
 · simp only[World.alloc,Array.size_push]at hb
   exact h.may b (by omega)
theorem Rel.Vt (h:Rel M A ρ F st a w) {id sz:Nat} {xs:List (List C)} (hf:find st.heap id=some (.row sz xs)) (n:Nat):Rel M A ρ F {st with heap:=jx st.heap id (.row sz (xs.take n))} a w:=by
 refine⟨h.size,h.defers,h.tmps,fun k blk hk=>?_,fun k k' blk fH b h1 h2 r1 r2=>?_,h.fresh,h.bound,h.may,h.dN⟩
 · simp only[bt]at hk
   split at hk
   · rename_i ek
     subst ek
     simp only[hf,Option.map_some,Option.some.injEq]at hk
     subst hk
     obtain⟨h1,h2⟩:=h.heap k _ hf
     refine⟨fun e he=>h1 e (List.mem_of_mem_take he),?_⟩
     rcases h2 with⟨b,c,e,k1,k2,k3,k4,k5,k6⟩|⟨k1,k2⟩
     · refine .inl ⟨b,c,e,k1,k2,k3,k4,?_,fun i el j q hi hj=>?_⟩
       · have:(xs.take n).length * sz≤xs.length * sz:=Nat.mul_le_mul_right _ (by simp;omega)
         omega
       · have hi':xs[i]? =some el:=by
          rw[List.getElem?_take]at hi
          split at hi
          · exact hi
          · simp at hi
         exact k6 i el j q hi' hj
     · exact .inr ⟨k1,by simp[k2]⟩
   · exact h.heap k blk hk
 · have g: ∀q bl,find (jx st.heap id (.row sz (xs.take n))) q=some bl→ ∃BX,find st.heap q=some BX:=by
    intro q bl hq
    simp only[bt]at hq
    split at hq
    · rename_i e;subst e;exact⟨_,hf⟩
    · exact⟨_,hq⟩
   obtain⟨Yh,g1⟩:=g k blk h1
   obtain⟨Tp,g2⟩:=g k' fH h2
   exact h.inj k k' Yh Tp b g1 g2 r1 r2
end Go.aR
end
section
namespace Go.aR
open Go
variable {P:Program} {M A:Nat→Prop} {ρ:Env} {F:Nat→Prop} {st:St} {a:Act} {w:World}
def eI:List C→Option (List T)
 | []=>some []
 | .t x::r=>(eI r).map (x:: ·)
 |_::_=>none
def recv (v:V):Option (Bool×List T):=
 match v with
 | .w (.one (.t t))=>some (false,[t])
 | .w (.agg cs)=>(eI cs).map fun ts=>(true,ts)
 |_=>none
def mvC:V→Option C
 | .w (.one c)=>some c
 | .w (.agg cs)=>(eI cs).map .pk
 |_=>none
def EX {α:Type} (P:Program) (bad:α) (op:Op) (ty:TypeId) (g:di→V) (hp:HS) (ctr:Nat) (K:V→HS→α):α:=
 let other:=match aq P (fun x=>g (dy x)) hp ctr (bare op ty)with
  |some (v,hp')=>tJ v fun v=>K v hp'
  |none=>match bc P (fun x=>g (dy x)) (bare op ty)with
   |some v=>tJ v fun v=>K v hp
   |none=>bad
 match op with
 | .makeMap _ none=>K (.w (.one (.map ctr))) ((ctr, .mp [] 0)::hp)
 | .mapUpdate t m k x=>match g (dy m),(g (dy k)).val?,mvC (g (dy x))with
   | .w (.one (.map id)),some kv,some c=>match P.underlying t,find hp id with
     |some (.map kt _),some (.mp es clock)=>match jo P false kt kv es with
      |some (some i)=>match nth es i with
       |some (old,_,born)=>gQ (Instr.sameBits 10000 old kv) (hJ (es.set i (kv,c,born)) fun es'=>hJ (jx hp id (.mp es' clock)) fun h=>K .undef h) bad
       |none=>bad
      |some none=>hJ (es++[(kv,c,clock)]) fun es'=>ox (clock+1) fun q=>hJ (jx hp id (.mp es' q)) fun h=>K .undef h
      |none=>bad
     |_,_=>bad
   |_,_,_=>bad
 | .lookup t m k ok=>match g (dy m),(g (dy k)).val? with
   | .w (.one (.map id)),some kv=>match P.underlying t,find hp id with
     |some (.map kt et),some (.mp es _)=>match jo P es.isEmpty kt kv es with
      |some (some i)=>match nth es i with
       |some (_,c,_)=>yB c fun c=>K (match ok with|true=> .ef [cw c,bT true]|false=> .w (cw c)) hp
       |none=>bad
      |some none=>match mI P et with
       |some z=>yB (.t (.val z)) fun c=>K (match ok with|true=> .ef [.one c,bT false]|false=> .w (.one c)) hp
       |none=>bad
      |none=>bad
     |_,_=>bad
   |_,_=>bad
 | .call ⟨.builtin .len,args,iM⟩=>match args.toList,iM.toList with
   | [x],[t]=>match g (dy x)with
     | .w (.one (.map id))=>match P.underlying t,find hp id with
       |some (.map _ _),some (.mp es _)=>ox es.length fun n=>K (iV .i64 (.ofNat n)) hp
       |_,_=>bad
     |_=>other
   |_,_=>other
 | .call ⟨.builtin .delete,args,iM⟩=>match args.toList,iM.toList with
   | [m,k],[t,_]=>match g (dy m),(g (dy k)).val? with
     | .w (.one (.map id)),some kv=>match P.underlying t,find hp id with
       |some (.map kt _),some (.mp es clock)=>match jo P es.isEmpty kt kv es with
        |some (some i)=>hJ (es.eraseIdx i) fun es'=>hJ (jx hp id (.mp es' clock)) fun h=>K (.ef []) h
        |some none=>K (.ef []) hp
        |none=>bad
       |_,_=>bad
     |_,_=>bad
   |_,_=>bad
 | .range t x=>match g (dy x)with
   | .w (.one (.map id))=>match P.underlying t,find hp id with
     |some (.map _ _),some (.mp _ _)=>K (.w (.one (.it id))) hp
     |_,_=>bad
   |_=>bad
 | .next x false=>match g (dy x)with
   | .w (.one (.it id))=>match find hp id with
     |some (.mp [] _)=>K (.ef [bT false]) hp
     |_=>bad
   |_=>bad
 | .makeFunc (.func f) first df=>match first.toList,df.toList with
   | [x],[]=>match recv (g (dy x))with
     |some (b,ts)=>K (.w (.one (.lQ f b ts))) hp
     |none=>bad
   |_,_=>other
 | .call ⟨.builtin .append,args,iM⟩=>match args.toList,iM.toList with
   | [s,x],[t,t']=>match P.underlying t' with
     |some (.int _)=>match g (dy s),(g (dy x)).fO,P.underlying t with
      | .w (.one (.t (.val (.slice none 0 0)))),some (.i64, .ofNat (n+1)),some (.slice e)=>match nY P e,jW P e with
        |some (size,bytes),some z=>gQ (Nat.beq z.length size&&Nat.ble ((n+1) * bytes) 70368744177664&&Nat.ble (n+1) 70368744177664)
          (hJ (List.replicate (n+1) z) fun zs=>K (.w (.one (.own ctr size 0 (n+1)))) ((ctr, .row size zs)::hp)) bad
        |_,_=>bad
      |_,_,_=>bad
     |_=>other
   |_,_=>other
 | .binOp bo t x y _=>match g (dy x),g (dy y),P.underlying t with
   | .w (.one (.ptr _ _ _ _)), .w (.one (.t (.val (.pointer none)))),some (.pointer _)=>match bo with
     | .eql=>K (bV false) hp
     | .neq=>K (bV true) hp
     |_=>bad
   |_,_,_=>other
 |_=>other
def E4 (P:Program) (n:Nat) (o:Oper) (tm:Tr) (hp:HS) (ctr:Nat) (v:V) (hp':HS):Prop:=
 ∀ (M A:Nat→Prop) (ρ:Env) (a:Act) (w:World) (L:TS),eR tm L→Rel M A ρ (bg ctr) ⟨n,L,hp⟩ a w→oK M A ρ (bg (ctr+4)) a w ((execOp a.eval o).run P w) ⟨n,L,hp'⟩ v
theorem ct {ctr:Nat}: ∀id,bg (ctr+4) id→bg ctr id:=fun id h=>by simp only[bg]at *;omega
theorem get_eq {tm:Tr} {L:TS} (hL:eR tm L) (n:Nat) (hp:HS):(fun x=>gT tm (dy x))=St.get ⟨n,L,hp⟩:=by
 funext x
 rw[lM hL]
 exact bj ⟨n,L,hp⟩ x
theorem RV.at {tm:Tr} {L:TS} {n:Nat} {hp:HS} (hL:eR tm L) (hr:Rel M A ρ F ⟨n,L,hp⟩ a w) (x:Operand):RV w A ρ (gT tm (dy x)) (a.eval x):=by
 have:=hr.get x
 rw[←congrFun (get_eq hL n hp) x]at this
 exact this
theorem De {n:Nat} {o:Oper} {tm:Tr} {hp hp':HS} {ctr:Nat} {v:V} (h:aq P (fun x=>gT tm (dy x)) hp ctr (bare o.op o.type)=some (v,hp')):E4 P n o tm hp ctr v hp':=by
 intro M A ρ a w L hL hr
 rw[tO,get_eq hL n hp]at h
 obtain⟨x,w',A',ρ',h1,h2,h3⟩:=mz (st:=⟨n,L,hp⟩) h hr (Nat.le_refl ctr)
 exact⟨x,w',A',ρ',h1,h2.sub ij,h3⟩
theorem yG {n:Nat} {o:Oper} {tm:Tr} {hp:HS} {ctr:Nat} {v:V} (h:bc P (fun x=>gT tm (dy x)) (bare o.op o.type)=some v):E4 P n o tm hp ctr v hp:=by
 intro M A ρ a w L hL hr
 rw[yH,get_eq hL n hp]at h
 exact iA (st:=⟨n,L,hp⟩) h hr ct
theorem mc: ∀ {cs:List C} {ts:List T},eI cs=some ts→cs=ts.map .t
 | [],ts,h=>by simp only[eI,Option.some.injEq]at h;subst h;rfl
 | .t x::r,ts,h=>by
   simp only[eI,Option.map_eq_some_iff]at h
   obtain⟨l,hl,rfl⟩:=h
   simp[mc hl]
 | .own .. ::_,ts,h=>by simp[eI]at h
 | .ptr .. ::_,ts,h=>by simp[eI]at h
 | .rJ .. ::_,ts,h=>by simp[eI]at h
 | .kM .. ::_,ts,h=>by simp[eI]at h
 | .map _::_,ts,h=>by simp[eI]at h
 | .it _::_,ts,h=>by simp[eI]at h
 | .lQ .. ::_,ts,h=>by simp[eI]at h
 | .pk .. ::_,ts,h=>by simp[eI]at h
 | .any::_,ts,h=>by simp[eI]at h
theorem CA {v:V} {c:C} {x:Value} (h:mvC v=some c) (hr:RV w A ρ v x):RC w A ρ c x∧xP c x:=by
 unfold mvC at h
 split at h
 · simp only[Option.some.injEq]at h
   subst h
   exact⟨hr.1, .inl hr.2⟩
 · simp only[Option.map_eq_some_iff]at h
   obtain⟨l,hl,rfl⟩:=h
   have:=mc hl
   subst this
   exact xP.pk hr
 · simp at h
theorem GQ {v:V} {b:Bool} {ts:List T} {x:Value} (h:recv v=some (b,ts)) (hr:RV w A ρ v x):RF w A b ts x:=by
 unfold recv at h
 split at h
 · simp only[Option.some.injEq,Prod.mk.injEq]at h
   obtain⟨rfl,rfl⟩:=h
   exact⟨_,rfl,hr.1,hr.2⟩
 · simp only[Option.map_eq_some_iff,Prod.mk.injEq]at h
   obtain⟨l,hl,rfl,rfl⟩:=h
   have:=mc hl
   subst this
   obtain⟨vs,rfl,h1,h2⟩:=hr
   exact⟨vs,rfl,by simpa using h1,fun k t y ht hy=>h2 k (.t t) y (by simp[ht]) hy⟩
 · simp at h
theorem lA {t t' ty e:TypeId} {ik:IntKind} {i:TypeInfo} {z:Value} (ht:P.underlying t=some (.slice e)) (ht':P.underlying t'=some (.int ik)) (hi:P.info? e=some i) (hz:i.zero=some z)
 (n:Nat) (h0:0 < n) (hsz:0 < i.size) (hn:n≤70368744177664) (h48:n * i.bytes≤70368744177664) (w:World):
 (Builtin.append_ #[t,t'] ty #[.slice none 0 0, .int .i64 (n:Int)]).run P w=
   .ok (.slice (some ⟨w.heap.size,0,none⟩) n (grownCap w n 0 e)) (w.drew.alloc (.cells (Builtin.zeroCells z.cells n++Builtin.zeroCells z.cells (grownCap w n 0 e - n)) e)):=by
 have K6:n≠0:=by omega
 have hs0:i.size≠0:=by omega
 have aiU:¬ (9223372036854775807 < (n:Int)):=by omega
 have aiV:¬ (281474976710656 < Builtin.nextslicecap n 0 * i.bytes):=by rw[nextslicecap_zero h0];omega
 have hw:IntKind.i64.wrap (n:Int)=(n:Int):=wrap_i64 (by omega) (by omega)
 have hneg:¬ ((n:Int) < 0):=by omega
 have aiG:¬ (281474976710656 < (n:Int) * (i.bytes:Int)):=by rw[←Int.natCast_mul];generalize n * i.bytes=q at h48;omega
 simp[Builtin.append_,run_underlying ht,run_underlying ht',sizeOf,typeInfo,zeroValue,hi,hz,asInt,asIntOf,hw,hneg,aiG,K6,hs0,aiU,aiV,Question.forced,run_firstCells_none,newRow,grownCap]
 intro h
 rcases Nat.mul_eq_zero.1 h with h|h
 · exact absurd h K6
 · exact absurd h hs0
set_option maxHeartbeats 1000000
theorem KT {n:Nat} {o:Oper} {tm:Tr} {hp:HS} {ctr:Nat} {K:V→HS→Bool} (h:EX P false o.op o.type (gT tm) hp ctr K=true): ∃v hp',E4 P n o tm hp ctr v hp'∧K v hp'=true:=by
 obtain⟨op,hop⟩: ∃op,op=o.op:=⟨_,rfl⟩
 have other:(match aq P (fun x=>gT tm (dy x)) hp ctr (bare o.op o.type)with
  |some (v,hp')=>tJ v fun v=>K v hp'
  |none=>match bc P (fun x=>gT tm (dy x)) (bare o.op o.type)with
   |some v=>tJ v fun v=>K v hp
   |none=>false)=true→ ∃v hp',E4 P n o tm hp ctr v hp'∧K v hp'=true:=by
  intro h
  split at h
  · rename_i v hp' he
    rw[cF]at h
    exact⟨v,hp',De he,h⟩
  · split at h
    · rename_i v he
      rw[cF]at h
      exact⟨v,hp,yG he,h⟩
    · simp at h
 have lK: ∀ (ev:Operand→Value),execOp ev o=execOp ev (bare op o.type):=fun ev=>by rw[hop,tN]
 rw[←hop]at h other
 unfold EX at h
 simp only at h
 split at h
 ·
  rename_i t
  refine⟨_,_,?_,h⟩
  intro M A ρ a w L hL hr
  obtain⟨r1,r2⟩:=Rel.Jf (st:=⟨n,L,hp⟩) hr (Nat.le_refl ctr)
  refine⟨.map (some w.heap.size),w.alloc (.map #[] 0),_,_, .inl ?_,r1.sub ij,⟨⟨w.heap.size,by simp[dn],rfl⟩,rfl⟩,cJ.alloc M w _,r2,bp.new A w⟩
  rw[lK]
  simp[execOp,Instr.makeMap]
 ·
  rename_i t m k x
  split at h
  · rename_i id kv c hm hk hx
    split at h
    · rename_i kt et es clock hu hf
      split at h
      · rename_i i o7
        split at h
        · rename_i old c0 born Be
          obtain⟨lU,h⟩:=bq h
          rw[bX,bX]at h
          rw[mr]at Be
          refine⟨_,_,?_,h⟩
          intro M A ρ a w L hL hr
          have vm:=RV.at hL hr m
          rw[hm]at vm
          have vk:=V.bh hk (RV.at hL hr k)
          have vx:=CA hx (RV.at hL hr x)
          obtain⟨b,en,q1,q2,q3,q4,q5⟩:=fZ hr hf vm
          obtain⟨c1,o2,c2,c3,c4⟩:=cZ o7 (fe (id:=id) (clock:=clock) q4 q5) w
          cases o2 with
          |none=>simp at c3
          |some p=>
           obtain⟨j,v⟩:=p
           simp only[Option.map_some,Option.some.injEq]at c3
           subst c3
           obtain⟨e0,e1,e2,e3,_⟩:=q5 j old c0 born Be
           have hi:j < en.size:=(Array.getElem?_eq_some_iff.1 e1).1
           have Tf:en[j]=e0:=by simpa[hi]using e1
           obtain⟨r1,r2⟩:=Rel.sc (st:=⟨n,L,hp⟩) (clock':=clock) (es':=es.set j (kv,c,born)) (en':=en.modify j fun e=>{e with key:=kv,val:=a.eval x}) hr hf q1 q3 (by simp[q4]) (fun i k' c' n' hi'=>by
            by_cases hij:j=i
            · subst hij
              rw[List.getElem?_set_self (by rw[←q4];exact hi)]at hi'
              simp only[Option.some.injEq,Prod.mk.injEq]at hi'
              obtain⟨rfl,rfl,rfl⟩:=hi'
              refine⟨{e0 with key:=kv,val:=a.eval x},by simp[Array.getElem?_modify,e1],rfl,e3,vx.1,vx.2⟩
            · rw[List.getElem?_set_ne hij]at hi'
              obtain⟨e,g1,g2,g3,g4,g5⟩:=q5 i k' c' n' hi'
              exact⟨e,by simp[Array.getElem?_modify,hij,g1],g2,g3,g4,g5⟩)
           refine⟨undef,_,A,ρ, .inr ⟨?_,rfl⟩,r1.sub ct,trivial,r2,cN.refl _,bp.refl _ _⟩
           have hks:(Instr.keyThatStays (((en[j]?).map (·.key)).getD kv) kv).run P w= .ok kv w:=by
            simp[Instr.keyThatStays,e1,e2,lU]
           rw[lK]
           simp only[execOp,Instr.mapUpdate,Sem.run_bind,run_underlying hu,Result.andThen_ok,q2,mW q3,vk,c1,c2,hks,Cq _ q3,Sem.run_pure]
        · simp at h
      · rename_i o7
        rw[bX,dO,bX]at h
        refine⟨_,_,?_,h⟩
        intro M A ρ a w L hL hr
        have vm:=RV.at hL hr m
        rw[hm]at vm
        have vk:=V.bh hk (RV.at hL hr k)
        have vx:=CA hx (RV.at hL hr x)
        obtain⟨b,en,q1,q2,q3,q4,q5⟩:=fZ hr hf vm
        obtain⟨c1,o2,c2,c3,c4⟩:=cZ o7 (fe (id:=id) (clock:=clock) q4 q5) w
        cases o2 with
        |some p=>simp at c3
        |none=>
         obtain⟨r1,r2⟩:=Rel.sc (st:=⟨n,L,hp⟩) (clock':=clock+1) (es':=es++[(kv,c,clock)]) (en':=en.push {key:=kv,val:=a.eval x,born:=clock}) hr hf q1 q3 (by simp[q4]) (fun i k' c' n' hi'=>by
          by_cases hlt:i < es.length
          · rw[List.getElem?_append_left hlt]at hi'
            obtain⟨e,g1,g2,g3,g4,g5⟩:=q5 i k' c' n' hi'
            exact⟨e,by rw[Array.getElem?_push,if_neg (by omega)];exact g1,g2,g3,g4,g5⟩
          · rw[List.getElem?_append_right (by omega)]at hi'
            have hz:i - es.length=0:=by
             have:=(List.getElem?_eq_some_iff.1 hi').1
             simp at this
             omega
            rw[hz]at hi'
            simp only[List.getElem?_cons_zero,Option.some.injEq,Prod.mk.injEq]at hi'
            obtain⟨rfl,rfl,rfl⟩:=hi'
            exact⟨⟨kv,a.eval x,clock⟩,by rw[Array.getElem?_push,if_pos (by omega)],rfl,rfl,vx.1,vx.2⟩)
         refine⟨undef,_,A,ρ, .inr ⟨?_,rfl⟩,r1.sub ct,trivial,r2,cN.refl _,bp.refl _ _⟩
         rw[lK]
         simp only[execOp,Instr.mapUpdate,Sem.run_bind,run_underlying hu,Result.andThen_ok,q2,mW q3,vk,c1,c2,Cq _ q3,Sem.run_pure]
      · simp at h
    · simp at h
  · simp at h
 ·
  rename_i t m k ok
  split at h
  · rename_i id kv hm hk
    split at h
    · rename_i kt et es clock hu hf
      split at h
      · rename_i i o7
        split at h
        · rename_i k0 c born Be
          rw[kJ]at h
          rw[mr]at Be
          refine⟨_,_,?_,h⟩
          intro M A ρ a w L hL hr
          have vm:=RV.at hL hr m
          rw[hm]at vm
          have vk:=V.bh hk (RV.at hL hr k)
          obtain⟨b,en,q1,q2,q3,q4,q5⟩:=fZ hr hf vm
          obtain⟨c1,o2,c2,c3,c4⟩:=cZ o7 (fe (id:=id) (clock:=clock) q4 q5) w
          cases o2 with
          |none=>simp at c3
          |some p=>
           obtain⟨j,v⟩:=p
           simp only[Option.map_some,Option.some.injEq]at c3
           subst c3
           obtain⟨e0,e1,e2,e3,e4,e5⟩:=q5 j k0 c born Be
           obtain⟨e',g1,rfl⟩:=c4 j v rfl
           rw[e1]at g1
           simp only[Option.some.injEq]at g1
           subst g1
           have hrun:(execOp a.eval o).run P w= .ok (.value (if ok then .tuple #[e0.val, .bool true]else e0.val)) w:=by
            rw[lK]
            simp only[execOp,Instr.lookup,Sem.run_bind,run_underlying hu,Result.andThen_ok,q2,mW q3,Sem.run_pure,vk,dZ q4,c1,c2]
           refine⟨_,w,A,ρ, .inl hrun,hr.sub ct,?_,cJ.refl _ _,cN.refl _,bp.refl _ _⟩
           cases ok with
           |true=>exact Gz (e5.rw e4)
           |false=>exact e5.rw e4
        · simp at h
      · rename_i o7
        split at h
        · rename_i z hz
          rw[kJ]at h
          refine⟨_,_,?_,h⟩
          intro M A ρ a w L hL hr
          have vm:=RV.at hL hr m
          rw[hm]at vm
          have vk:=V.bh hk (RV.at hL hr k)
          obtain⟨b,en,q1,q2,q3,q4,q5⟩:=fZ hr hf vm
          obtain⟨c1,o2,c2,c3,c4⟩:=cZ o7 (fe (id:=id) (clock:=clock) q4 q5) w
          cases o2 with
          |some p=>simp at c3
          |none=>
           obtain⟨Wu,wA⟩:=rL hz w
           have hrun:(execOp a.eval o).run P w= .ok (.value (if ok then .tuple #[z, .bool false]else z)) w:=by
            rw[lK]
            simp only[execOp,Instr.lookup,Sem.run_bind,run_underlying hu,Result.andThen_ok,q2,mW q3,Sem.run_pure,vk,dZ q4,c1,c2,Wu]
           refine⟨_,w,A,ρ, .inl hrun,hr.sub ct,?_,cJ.refl _ _,cN.refl _,bp.refl _ _⟩
           cases ok with
           |true=>exact Gz (u0:= .one (.t (.val z))) ⟨RT.val wA,wA⟩
           |false=>exact⟨RT.val wA,wA⟩
        · simp at h
      · simp at h
    · simp at h
  · simp at h
 ·
  rename_i args iM
  split at h
  · rename_i x t hargs jr
    split at h
    · rename_i id hx
      split at h
      · rename_i kt et es clock hu hf
        rw[dO]at h
        refine⟨_,_,?_,h⟩
        intro M A ρ a w L hL hr
        have vm:=RV.at hL hr x
        rw[hx]at vm
        obtain⟨b,en,q1,q2,q3,q4,q5⟩:=fZ hr hf vm
        have ea:args= #[x]:=by rw[←Array.toArray_toList (xs:=args),hargs]
        have et:iM= #[t]:=by rw[←Array.toArray_toList (xs:=iM),jr]
        subst ea
        subst et
        have hrun:(execOp a.eval o).run P w= .ok (.value (goInt en.size)) w:=by
         rw[lK]
         simp[execOp,resolve,invoke,builtin,Builtin.len_,run_underlying hu,q2,mW q3]
        refine⟨_,w,A,ρ, .inl hrun,hr.sub ct,?_,cJ.refl _ _,cN.refl _,bp.refl _ _⟩
        rw[q4]
        exact RV.ofValue w A ρ (goInt es.length)
      · simp at h
    · exact other h
  · exact other h
 ·
  rename_i args iM
  split at h
  · rename_i m k t t' hargs jr
    split at h
    · rename_i id kv hm hk
      split at h
      · rename_i kt et es clock hu hf
        have ea:args= #[m,k]:=by rw[←Array.toArray_toList (xs:=args),hargs]
        have et:iM= #[t,t']:=by rw[←Array.toArray_toList (xs:=iM),jr]
        subst ea
        subst et
        split at h
        · rename_i i o7
          rw[bX,bX]at h
          refine⟨_,_,?_,h⟩
          intro M A ρ a w L hL hr
          have vm:=RV.at hL hr m
          rw[hm]at vm
          have vk:=V.bh hk (RV.at hL hr k)
          obtain⟨b,en,q1,q2,q3,q4,q5⟩:=fZ hr hf vm
          obtain⟨c1,o2,c2,c3,c4⟩:=cZ o7 (fe (id:=id) (clock:=clock) q4 q5) w
          cases o2 with
          |none=>simp at c3
          |some p=>
           obtain⟨j,v⟩:=p
           simp only[Option.map_some,Option.some.injEq]at c3
           subst c3
           obtain⟨e',g1,_⟩:=c4 j v rfl
           have hj:j < en.size:=(Array.getElem?_eq_some_iff.1 g1).1
           obtain⟨r1,r2⟩:=Rel.sc (st:=⟨n,L,hp⟩) (clock':=clock) (es':=es.eraseIdx j) (en':=en.eraseIdxIfInBounds j) hr hf q1 q3
            (by rw[Array.eraseIdxIfInBounds,dif_pos hj,Array.size_eraseIdx,List.length_eraseIdx,if_pos (by omega),q4]) (fun i k' c' n' hi'=>by
            rw[List.getElem?_eraseIdx]at hi'
            have he:(en.eraseIdxIfInBounds j)[i]? =if i < j then en[i]? else en[i+1]? :=by
             rw[Array.eraseIdxIfInBounds,dif_pos hj,Array.getElem?_eraseIdx]
            rw[he]
            split at hi'
            · rename_i hlt;rw[if_pos hlt];exact q5 i k' c' n' hi'
            · rename_i hlt;rw[if_neg hlt];exact q5 (i+1) k' c' n' hi')
           have hrun:(execOp a.eval o).run P w= .ok (.value (.tuple #[])) {w with heap:=w.heap.setIfInBounds b (.map (en.eraseIdxIfInBounds j) clock)}:=by
            rw[lK]
            simp only[execOp,resolve,invoke,builtin,Builtin.delete_]
            simp[run_underlying hu,q2,mW q3,vk,dZ q4,c1,c2,Cq _ q3]
           exact⟨_,_,A,ρ, .inl hrun,r1.sub ct,⟨#[],rfl,rfl,by simp⟩,r2,cN.refl _,bp.refl _ _⟩
        · rename_i o7
          refine⟨_,_,?_,h⟩
          intro M A ρ a w L hL hr
          have vm:=RV.at hL hr m
          rw[hm]at vm
          have vk:=V.bh hk (RV.at hL hr k)
          obtain⟨b,en,q1,q2,q3,q4,q5⟩:=fZ hr hf vm
          obtain⟨c1,o2,c2,c3,c4⟩:=cZ o7 (fe (id:=id) (clock:=clock) q4 q5) w
          cases o2 with
          |some p=>simp at c3
          |none=>
           have JQ:b < w.heap.size:=by
            rcases Nat.lt_or_ge b w.heap.size with hl|hg
            · exact hl
            · simp[Array.getElem?_eq_none hg]at q3
           have JE:({w with heap:=w.heap.setIfInBounds b (.map en clock)}:World)=w:=by
            have:w.heap.setIfInBounds b (.map en clock)=w.heap:=by
             apply Array.ext_getElem?
             intro i
             by_cases hi:b=i
             · subst hi;simp[JQ,q3];simpa[JQ]using q3.symm
             · rw[Array.getElem?_setIfInBounds_ne hi]
            rw[this]
           have hrun:(execOp a.eval o).run P w= .ok (.value (.tuple #[])) w:=by
            rw[lK]
            simp only[execOp,resolve,invoke,builtin,Builtin.delete_]
            simp[run_underlying hu,q2,mW q3,vk,dZ q4,c1,c2,Cq _ q3,JE]
           exact⟨_,_,A,ρ, .inl hrun,hr.sub ct,⟨#[],rfl,rfl,by simp⟩,cJ.refl _ _,cN.refl _,bp.refl _ _⟩
        · simp at h
      · simp at h
    · simp at h
  · simp at h
 ·
  rename_i t x
  split at h
  · rename_i id hx
    split at h
    · rename_i kt et es clock hu hf
      refine⟨_,_,?_,h⟩
      intro M A ρ a w L hL hr
      have vm:=RV.at hL hr x
      rw[hx]at vm
      obtain⟨b,en,q1,q2,q3,q4,q5⟩:=fZ hr hf vm
      obtain⟨r1,r2⟩:=Rel.LW hr (.mapIter (some b) clock #[] clock)
      have hrun:(execOp a.eval o).run P w= .ok (.value (.pointer (some ⟨w.heap.size,0,none⟩))) (w.alloc (.mapIter (some b) clock #[] clock)):=by
       rw[lK]
       simp[execOp,Instr.range,run_underlying hu,q2,mW q3]
      refine⟨_,_,A,ρ, .inl hrun,r1.sub ct,⟨⟨b,w.heap.size,clock,clock,q1,rfl,by simp,fun hA=>?_,heap_alloc_new w _⟩,rfl⟩,r2,cN.refl _,bp.refl _ _⟩
      have:=hr.bound _ hA
      omega
    · simp at h
  · simp at h
 ·
  rename_i x
  split at h
  · rename_i id hx
    split at h
    · rename_i clock hf
      refine⟨_,_,?_,h⟩
      intro M A ρ a w L hL hr
      have vi:=RV.at hL hr x
      rw[hx]at vi
      obtain⟨b,r,since,last,k1,k2,k3,k4,k5⟩:=vi.1
      obtain⟨b',en,g1,g2,g3,g4,g5,g6⟩:=hr.heap id _ hf
      rw[k1]at g1
      simp only[Option.some.injEq,Loc.fF.injEq]at g1
      subst g1
      have kX:en= #[]:=by
       apply Array.eq_empty_of_size_eq_zero
       simpa using g5
      subst kX
      have Ev:(getObj r).run P w= .ok (.mapIter (some b) since #[] last) w:=by simp[getObj,Sem.run,k5]
      have hrun:(execOp a.eval o).run P w= .ok (.value (.tuple #[.bool false])) w:=by
       rw[lK]
       simp only[execOp,Instr.next,k2]
       simp[Ev,mW g4,Question.forced]
      exact⟨_,_,A,ρ, .inl hrun,hr.sub ct,⟨_,rfl,rfl,fun k u y hu hy=>by
       match k with
       |0=>simp at hu hy;subst hu;subst hy;exact RW.bT false
       |k+1=>simp at hu⟩,cJ.refl _ _,cN.refl _,bp.refl _ _⟩
    · simp at h
  · simp at h
 ·
  rename_i f first df
  split at h
  · rename_i x wH XC
    split at h
    · rename_i b ts K5
      refine⟨_,_,?_,h⟩
      intro M A ρ a w L hL hr
      have vx:=RV.at hL hr x
      have ea:first= #[x]:=by rw[←Array.toArray_toList (xs:=first),wH]
      have et:df= #[]:=by rw[←Array.toArray_toList (xs:=df),XC]
      subst ea
      subst et
      have hrun:(execOp a.eval o).run P w= .ok (.value (.func (.func f) #[a.eval x] #[])) w:=by
       rw[lK]
       simp[execOp,Instr.makeFunc]
      exact⟨_,_,A,ρ, .inl hrun,hr.sub ct,⟨⟨_,rfl,GQ K5 vx⟩,rfl⟩,cJ.refl _ _,cN.refl _,bp.refl _ _⟩
    · simp at h
  · exact other h
 ·
  rename_i args iM
  split at h
  · rename_i s x t t' hargs jr
    split at h
    · rename_i ik A4
      split at h
      · rename_i m e hs hx hu
        split at h
        · rename_i size bytes z hT hz
          obtain⟨hc,h⟩:=bq h
          rw[bX]at h
          refine⟨_,_,?_,h⟩
          intro M A ρ a w L hL hr
          have vs:=RV.at hL hr s
          rw[hs]at vs
          have vx:=V.iS hx (RV.at hL hr x)
          have WI:a.eval s= .slice none 0 0:=V.bh (v:= .slice none 0 0) rfl vs
          have ea:args= #[s,x]:=by rw[←Array.toArray_toList (xs:=args),hargs]
          have et:iM= #[t,t']:=by rw[←Array.toArray_toList (xs:=iM),jr]
          subst ea
          subst et
          obtain⟨inf,zv,z1,z2,z3,z4,z5,z6⟩:=mA hT
          obtain⟨aeP,zv',y1,y2,y3,y4,y5⟩:=fm hz w A ρ
          rw[z1]at y1
          simp only[Option.some.injEq]at y1
          subst y1
          rw[z2]at y2
          simp only[Option.some.injEq]at y2
          subst y2
          obtain⟨aiE,XD⟩:=Bool.and_eq_true _ _▸hc
          obtain⟨mX,wL⟩:=Bool.and_eq_true _ _▸aiE
          have g2:=Nat.le_of_ble_eq_true wL
          have g3:=Nat.le_of_ble_eq_true XD
          have hsize:z.length=size:=by rw[←y4];exact z3
          have hrun:=lA (P:=P) (ty:=o.type) hu A4 z1 z2 (m+1) (by omega) (by omega) g3 (by rw[z4];exact g2) w
          have hge:=grownCap_ge w (m+1) 0 e
          obtain⟨e1,e2,e3⟩:=ng y5 (m+1)
          have hlen:(List.replicate (m+1) z).length=m+1:=by simp
          obtain⟨A',ρ',r1,r2,r3,r4,r5⟩:=kg (st:=⟨n,L,hp⟩) (e:=e) (z:=zv.cells) (cap:=grownCap w (m+1) 0 e) (zs:=List.replicate (m+1) z) (vs:=(Builtin.zeroCells zv.cells (m+1)).toList) (size:=size) hr (Nat.le_refl ctr) z5
           (fun el hel=>by rw[List.eq_of_mem_replicate hel];exact hsize)
           (by rw[Array.length_toList,size_zeroCells,z5,hlen]) (by rw[hlen];exact hge)
           (fun i el j k hi hj=>by
             obtain⟨y,hy,tF,uD⟩:=e3 i el j k hi hj
             refine⟨y,?_,tF,uD⟩
             rw[Array.getElem?_toList, ←hsize]
             have ez:Builtin.zeroCells zv.cells (m+1)=(Array.range ((m+1) * z.length)).map fun k=>zv.cells[k % zv.cells.size]! :=by
              unfold Builtin.zeroCells
              have:zv.cells.size=z.length:=by rw[y3,y4]
              rw[this]
             rw[ez]
             exact hy)
          rw[hlen]at r1 r2 r3
          simp only[Array.toArray_toList]at r1 r2 r3
          refine⟨_,_,A',ρ', .inl ?_,r1.sub ij,r2,r3,r4,r5⟩
          rw[lK]
          have Wx:a.eval x= .int .i64 ((m+1:Nat):Int):=vx
          have Rj:(execOp a.eval (bare (Op.call ⟨.builtin .append, #[s,x], #[t,t']⟩) o.type)).run P w=((Builtin.append_ #[t,t'] o.type #[a.eval s,a.eval x]).run P w).andThen fun v w'=> .ok (.value v) w':=by
           simp[execOp,resolve,invoke,builtin]
          rw[Rj,WI,Wx,hrun]
          rfl
        · simp at h
      · simp at h
    · exact other h
  · exact other h
 ·
  rename_i bo t x y t'
  split at h
  · rename_i id sz i j e hx hy hu
    have VB: ∀ (b:Addr) (w:World),(Op.equal t (.pointer (some b)) (.pointer none)).run P w= .ok false w:=by
     intro b w
     show(Op.equalIn 10000 t (.pointer (some b)) (.pointer none)).run P w=_
     unfold Op.equalIn
     simp[run_underlying hu]
    have fin: ∀ (c:Bool),(∀ (b:Addr) (w:World),(binOp bo t (.pointer (some b)) (.pointer none)).run P w= .ok (.bool c) w)→E4 P n o tm hp ctr (bV c) hp:=by
     intro c hc M A ρ a w L hL hr
     have vx:=RV.at hL hr x
     rw[hx]at vx
     have vy:=RV.at hL hr y
     rw[hy]at vy
     obtain⟨b,_,hb⟩:=vx.1
     have Y7:a.eval y= .pointer none:=V.bh (v:= .pointer none) rfl vy
     have hg:(eqGuard bo t x y (.pointer (some ⟨b,i * sz+j,none⟩)) (.pointer none)).run P w= .ok () w:=by
      unfold eqGuard
      cases bo<;>simp
     have hrun:(execOp a.eval o).run P w= .ok (.value (.bool c)) w:=by
      rw[lK]
      simp only[execOp,hb,Y7,Sem.run_bind,hg,Result.andThen_ok,hc,Sem.run_pure]
     exact⟨_,w,A,ρ, .inl hrun,hr.sub ct,RV.ofValue w A ρ (.bool c),cJ.refl _ _,cN.refl _,bp.refl _ _⟩
    split at h
    · exact⟨_,_,fin false (fun b w=>by simp[binOp,VB]),h⟩
    · exact⟨_,_,fin true (fun b w=>by simp[binOp,VB]),h⟩
    · simp at h
  · exact other h
 · exact other h
end Go.aR
end
section
namespace Go.aR
open Go
variable {P:Program} {M A:Nat→Prop} {ρ:Env} {F:Nat→Prop} {st:St} {a:Act} {w:World}
def FE (bits:List Nat) (lo:Nat) (fs:List iD):Bool:=
 (List.range fs.length).all fun j=>match fs[j]? with
   |some g=>(List.range j).all fun i=>match fs[i]? with
    |some f=>(bits.getD (lo+j) 0).testBit (lo+i)||f.apart g
    |none=>true
   |none=>true
theorem vQ {bits:List Nat} {lo:Nat} {fs:List iD} (h:FE bits lo fs=true) {i j:Nat} {f g:iD} (hij:i < j) (hf:fs[i]? =some f) (hg:fs[j]? =some g):
 (bits.getD (lo+j) 0).testBit (lo+i)=true∨f.apart g=true:=by
 unfold FE at h
 have hj:j < fs.length:=(List.getElem?_eq_some_iff.1 hg).1
 have:=List.all_eq_true.1 h j (List.mem_range.2 hj)
 simp only[hg]at this
 have:=List.all_eq_true.1 this i (List.mem_range.2 hij)
 simp only[hf,Bool.or_eq_true]at this
 exact this
theorem GJ {ops:Array Oper} {n base lo m:Nat} {tmT:Nat→TS} {hpT:Nat→HS} {v:Nat→V} {fs:List iD} {Q:Exit→Act→World→Prop}
 (hlm:lo+m≤ops.size)
 (hstep: ∀i o,i < m→ops[lo+i]? =some o→fJ P ops o n (tmT i) (hpT i) (base+4 * i) (v i) (hpT (i+1))∧(∀t,find (tmT (i+1)) t=find (dj (tmT i) o.dst (v i)) t)∧
   ∃f,fs[i]? =some f∧f.dst=o.dst∧(∀t,t∈names ops o→t∈f.nm)∧(∀k,k∈jG (St.get ⟨n,tmT i,hpT i⟩) o→k∈f.rd)∧(∀k,k∈uZ (St.get ⟨n,tmT i,hpT i⟩) (base+4 * i) o→k∈f.wr))
 (hE: ∀i o,ops[i]? =some o→ ∀e,e∈aZ o→e < i)
 (hok:FE (kZ (ops.toList.map aZ) []) lo fs=true)
 (Et: ∀k,lo+m≤k→k < ops.size→ ∀i,i < m→((kZ (ops.toList.map aZ) []).getD k 0).testBit (lo+i)=true)
 (bR:Rel M A ρ (bg base) ⟨n,tmT 0,hpT 0⟩ a w)
 (JJ: ∀ (fuel:Nat) (listed:Array Bool) (a':Act) (w':World),listed.size=ops.size→(∀i,i < ops.size→listed.getD i false=decide (i < lo+m))→ops.size - (lo+m)≤fuel→
   Gp M A ρ w (fun st c=>st=⟨n,tmT m,hpT m⟩∧c=base+4 * m) a' w'→wpAny P .any ops Q fuel listed a' w'):
 ∀ (fuel:Nat) (listed:Array Bool),listed.size=ops.size→(∀i,i < ops.size→listed.getD i false=decide (i < lo))→ops.size - lo≤fuel→wpAny P .any ops Q fuel listed a w:=by
 let N:=m
 let dst:Nat→Option Nat:=fun i=>(ops[lo+i]?).bind (·.dst)
 let wr:Nat→List Nat:=fun i=>((ops[lo+i]?).map fun o=>uZ (St.get ⟨n,tmT i,hpT i⟩) (base+4 * i) o).getD []
 have hop: ∀i,i < N→ ∃o,ops[lo+i]? =some o:=fun i hi=>by
  have:lo+i < ops.size:=by simp only[N]at hi;omega
  exact⟨ops[lo+i],by simp[this]⟩
 have wJ: ∀i o,ops[lo+i]? =some o→dst i=o.dst:=fun i o h=>by simp only[dst,h,Option.bind_some]
 have hwr: ∀i o,ops[lo+i]? =some o→wr i=uZ (St.get ⟨n,tmT i,hpT i⟩) (base+4 * i) o:=by
  intro i o h
  simp only[wr,h,Option.map_some,Option.getD_some]
 have wE: ∀i,i < N→ ∀k,¬k∈wr i→find (hpT (i+1)) k=find (hpT i) k:=by
  intro i hi k hk
  obtain⟨o,ho⟩:=hop i hi
  obtain⟨h1,_⟩:=hstep i o hi ho
  obtain⟨_,_,h3⟩:=h1.loc (tm2:=tmT i) (hp2:=hpT i) (fun _ _=>rfl) (fun _ _=>rfl) (fun _ _=>rfl)
  rw[hwr i o ho]at hk
  exact(h3.2 k hk).1
 have Jz: ∀i,i < N→ ∀t,find (tmT (i+1)) t=find (dj (tmT i) (dst i) (v i)) t:=by
  intro i hi t
  obtain⟨o,ho⟩:=hop i hi
  rw[(hstep i o hi ho).2.1 t,wJ i o ho]
 have XM: ∀ (i:Nat) (es:List Nat),(ops.toList.map aZ)[i]? =some es→ ∀e,e∈es→e < i:=by
  intro i es h e he
  simp only[List.getElem?_map,Array.getElem?_toList,Option.map_eq_some_iff]at h
  obtain⟨o,ho,rfl⟩:=h
  exact hE i o ho e he
 let Lg:Array Bool→Nat→Bool:=fun listed i=>listed.getD i false
 let dg:Array Bool→Nat→Bool:=fun listed i=>listed.getD (lo+i) false
 let Fr:(Nat→Bool)→Nat→Prop:=fun L k=>base+4 * N≤k∨ ∃j,j < N∧L j=false∧base+4 * j≤k∧k < base+4 * j+4
 have iW: ∀ {L:Nat→Bool} {i:Nat},i < ops.size→(∀k o,ops[k]? =some o→L k=true→ ∀e,e∈aZ o→L e=true)→(∀o,ops[i]? =some o→ ∀e,e∈aZ o→L e=true)→
  ∀j,((kZ (ops.toList.map aZ) []).getD i 0).testBit j=true→L j=true:=by
  intro L i hi dA Lb j hb
  refine(qg XM i (by simpa using hi) (fun k es _ Hx jI e he=>?_) (fun es jI e he=>?_) j hb).1
  · simp only[List.getElem?_map,Array.getElem?_toList,Option.map_eq_some_iff]at jI
    obtain⟨o,ho,rfl⟩:=jI
    exact dA k o ho Hx e he
  · simp only[List.getElem?_map,Array.getElem?_toList,Option.map_eq_some_iff]at jI
    obtain⟨o,ho,rfl⟩:=jI
    exact Lb o ho e he
 have finish: ∀ (fuel:Nat) (listed:Array Bool) (a':Act) (w':World) (A':Nat→Prop) (ρ':Env),listed.size=ops.size→(∀i,i < lo→Lg listed i=true)→(∀i,lo+m≤i→i < ops.size→Lg listed i=false)→ops.size - (lo+m)≤fuel→(∀i,i < N→dg listed i=true)→
  Rel M A' ρ' (Fr (dg listed)) ⟨n,oC dst v (tmT 0) (dg listed) N,oE wr hpT (hpT 0) (dg listed) N⟩ a' w'→cJ M w w'→cN ρ ρ'→bp A A' w→wpAny P .any ops Q fuel listed a' w':=by
  intro fuel listed a' w' A' ρ' hsz Ez JR If hall hr dJ cC hg
  refine JJ fuel listed a' w' hsz (fun i hi=>?_) If ⟨⟨n,tmT m,hpT m⟩,base+4 * m,A',ρ',⟨rfl,rfl⟩,?_,dJ,cC,hg⟩
  · by_cases h1:i < lo
    · rw[show listed.getD i false=true from Ez i h1];simp;omega
    · by_cases h2:i < lo+m
      · have:=hall (i - lo) (by simp only[N];omega)
        simp only[dg]at this
        rw[show lo+(i - lo)=i by omega]at this
        rw[this];simp[h2]
      · rw[show listed.getD i false=false from JR i (by omega) hi];simp;omega
  have h1:Rel M A' ρ' (Fr (dg listed)) ⟨n,tmT m,hpT m⟩ a' w':=hr.forget rfl (fun t u hu=>by
   rw[show find (⟨n,oC dst v (tmT 0) (dg listed) N,oE wr hpT (hpT 0) (dg listed) N⟩:St).tmps t=find (tmT N) t from qt dst v (tmT 0) tmT N rfl Jz (dg listed) t N (Nat.le_refl _) hall];exact hu) (fun k b hb=>by
   rw[show find (⟨n,oC dst v (tmT 0) (dg listed) N,oE wr hpT (hpT 0) (dg listed) N⟩:St).heap k=find (hpT N) k from qW wr hpT (hpT 0) N rfl wE (dg listed) k N (Nat.le_refl _) hall];exact hb)
  exact h1.sub (fun k hk=> .inl hk)
 have main: ∀ (c fuel:Nat) (listed:Array Bool) (a':Act) (w':World) (A':Nat→Prop) (ρ':Env),listed.size=ops.size→(∀i,i < lo→Lg listed i=true)→(∀i,lo+m≤i→i < ops.size→Lg listed i=false)→nZ (dg listed) N=c→c+(ops.size - (lo+m))≤fuel→
  (∀k o,ops[k]? =some o→Lg listed k=true→ ∀e,e∈aZ o→Lg listed e=true)→
  Rel M A' ρ' (Fr (dg listed)) ⟨n,oC dst v (tmT 0) (dg listed) N,oE wr hpT (hpT 0) (dg listed) N⟩ a' w'→cJ M w w'→cN ρ ρ'→bp A A' w→
  wpAny P .any ops Q fuel listed a' w':=by
  intro c
  induction c with
  |zero=>
   intro fuel listed a' w' A' ρ' hsz Ez JR Ex If dA hr dJ cC hg
   exact finish fuel listed a' w' A' ρ' hsz Ez JR (by omega) (sW Ex) hr dJ cC hg
  |succ c ih=>
   intro fuel listed a' w' A' ρ' hsz Ez JR Ex If dA hr dJ cC hg
   obtain⟨fuel,rfl⟩: ∃f,fuel=f+1:=⟨fuel - 1,by omega⟩
   have hex: ∃i,i < N∧dg listed i=false:=by
    by_cases h: ∃i,i < N∧dg listed i=false
    · exact h
    · exfalso
      have: ∀i,i < N→dg listed i=true:=fun i hi=>by cases h':dg listed i with|true=>rfl|false=>exact absurd ⟨i,hi,h'⟩ h
      have h0: ∀k,k≤N→nZ (dg listed) k=0:=by
       intro k
       induction k with
       |zero=>intro _;rfl
       |succ k ihk=>intro hk;simp only[nZ,ihk (by omega),this k (by omega)];rfl
      rw[h0 N (Nat.le_refl _)]at Ex
      omega
   refine⟨fun CV=>?_,fun ig hi=>?_⟩
   · exfalso
     obtain⟨i,hi,hL,Er⟩:=exists_least hex
     obtain⟨o,ho⟩:=hop i hi
     have:lo+i∈Region.ready .any ops listed:=by
      rw[mem_ready]
      refine⟨?_,o,ho,fun e he hb=>?_⟩
      · simp only[dg,Array.getD_eq_getD_getElem?]at hL⊢
        have kr:lo+i < listed.size:=by have:=(Array.getElem?_eq_some_iff.1 ho).1;omega
        simpa[kr]using hL
      · have hm:e.on∈aZ o:=by simp only[aZ,List.mem_map,List.mem_filter];exact⟨e,⟨by simpa using he,hb⟩,rfl⟩
        have hlt:=hE (lo+i) o ho _ hm
        by_cases h1:e.on < lo
        · exact Ez _ h1
        · have:=Er (e.on - lo) (by omega)
          simp only[dg]at this
          rw[show lo+(e.on - lo)=e.on by omega]at this
          exact this
     rw[CV]at this
     simp at this
   · rw[mem_ready]at hi
     obtain⟨h0,o,Ta,wI⟩:=hi
     have Q8:ig < ops.size:=(Array.getElem?_eq_some_iff.1 Ta).1
     have Mx:Lg listed ig=false:=by
      simp only[Lg,Array.getD_eq_getD_getElem?]at h0⊢
      have kr:ig < listed.size:=by omega
      simpa[kr]using h0
     have Lb: ∀e,e∈aZ o→Lg listed e=true:=by
      intro e he
      simp only[aZ,List.mem_map,List.mem_filter]at he
      obtain⟨ed,⟨h1,h2⟩,rfl⟩:=he
      exact wI ed (by simpa using h1) h2
     have hge:lo≤ig:=by
      rcases Nat.lt_or_ge ig lo with h|h
      · rw[Ez ig h]at Mx;simp at Mx
      · exact h
     have hlt:ig < lo+m:=by
      rcases Nat.lt_or_ge ig (lo+m)with h|h
      · exact h
      · exfalso
        obtain⟨i,hi,hL⟩:=hex
        have hb:=Et ig h Q8 i hi
        have:=iW Q8 dA (fun o' xR=>by rw[Ta]at xR;simp only[Option.some.injEq]at xR;subst xR;exact Lb) _ hb
        simp only[dg]at hL
        rw[show Lg listed (lo+i)=false from hL]at this
        simp at this
     obtain⟨i,rfl⟩: ∃i,ig=lo+i:=⟨ig - lo,by omega⟩
     have Bg:i < N:=by simp only[N];omega
     have ho:ops[lo+i]? =some o:=Ta
     have Hy:dg listed i=false:=Mx
     obtain⟨hst,afI,f,hf,fd,fn,fr,fw⟩:=hstep i o Bg ho
     have order: ∀j oj g,j≠i→j < N→ops[lo+j]? =some oj→fs[j]? =some g→(f.apart g=true∨g.apart f=true)∨(j < i∧dg listed j=true)∨(i < j∧dg listed j=false):=by
      intro j oj g fK hjN pW jH
      have hjS:lo+j < ops.size:=(Array.getElem?_eq_some_iff.1 pW).1
      rcases Nat.lt_or_gt_of_ne fK with hlt|hgt
      · rcases vQ hok hlt jH hf with hb|hb
        · exact .inr (.inl ⟨hlt,iW Q8 dA (fun o' xR=>by rw[ho]at xR;simp only[Option.some.injEq]at xR;subst xR;exact Lb) (lo+j) hb⟩)
        · exact .inl (.inr hb)
      · rcases vQ hok hgt hf jH with hb|hb
        · refine .inr (.inr ⟨hgt,?_⟩)
          cases hLj:dg listed j with
          |false=>rfl
          |true=>
           have:=iW hjS dA (fun o' xR=>dA (lo+j) o' xR hLj) (lo+i) hb
           rw[Mx]at this
           simp at this
        · exact .inl (.inl hb)
     have wQ: ∀j,j < N→ ∃oj g,ops[lo+j]? =some oj∧fs[j]? =some g∧g.dst=dst j∧ ∀k,k∈wr j→k∈g.wr:=by
      intro j hj
      obtain⟨oj,pW⟩:=hop j hj
      obtain⟨_,_,g,g1,g2,_,_,g5⟩:=hstep j oj hj pW
      exact⟨oj,g,pW,g1,by rw[g2,wJ j oj pW],fun k hk=>g5 k (by rw[hwr j oj pW]at hk;exact hk)⟩
     have apart_spec: ∀ {f g:iD},(f.apart g=true∨g.apart f=true)→(∀t,f.dst=some t→g.dst=some t→False)∧(∀t,g.dst=some t→t∈f.nm→False)∧(∀k,k∈g.wr→k∈f.rd→False)∧(∀k,k∈g.wr→k∈f.wr→False):=by
      intro f g h
      rcases h with h|h<;>simp only[iD.apart,Bool.and_eq_true]at h<;>obtain⟨⟨⟨⟨⟨h1,h2⟩,h3⟩,h4⟩,h5⟩,h6⟩:=h
      · exact⟨fun t a b=>cK (x:=t) h3 (by simp[a]) (by simp[b]),fun t a b=>cK (x:=t) h2 (by simp[a]) b,fun k a b=>cK h5 a b,fun k a b=>cK h6 b a⟩
      · exact⟨fun t a b=>cK (x:=t) h3 (by simp[b]) (by simp[a]),fun t a b=>cK (x:=t) h1 (by simp[a]) b,fun k a b=>cK h4 a b,fun k a b=>cK h6 a b⟩
     have E2: ∀t,t∈names ops o→find (oC dst v (tmT 0) (dg listed) N) t=find (tmT i) t:=by
      intro t ht
      rw[ni dst v (tmT 0) (dg listed) (fun j=>decide (j < i)) t N ?_,vG dst v (tmT 0) i t N (Nat.le_of_lt Bg),qt dst v (tmT 0) tmT N rfl Jz _ t i (Nat.le_of_lt Bg) (fun j hj=>by simpa using hj)]
      intro j hj Bj
      by_cases fK:j=i
      · subst fK;rw[Hy];simp
      · obtain⟨oj,g,pW,jH,gd,gw⟩:=wQ j hj
        rcases order j oj g fK hj pW jH with hap|⟨h1,h2⟩|⟨h1,h2⟩
        · exact((apart_spec hap).2.1 t (by rw[gd,Bj]) (fn t ht)).elim
        · rw[h2];simp[h1]
        · rw[h2];simp;omega
     have xD: ∀k,(k∈f.rd∨k∈f.wr)→find (oE wr hpT (hpT 0) (dg listed) N) k=find (hpT i) k:=by
      intro k hk
      rw[nO wr hpT (hpT 0) (dg listed) (fun j=>decide (j < i)) k N ?_,wD wr hpT (hpT 0) i k N (Nat.le_of_lt Bg),qW wr hpT (hpT 0) N rfl wE _ k i (Nat.le_of_lt Bg) (fun j hj=>by simpa using hj)]
      intro j hj Bj
      by_cases fK:j=i
      · subst fK;rw[Hy];simp
      · obtain⟨oj,g,pW,jH,gd,gw⟩:=wQ j hj
        rcases order j oj g fK hj pW jH with hap|⟨h1,h2⟩|⟨h1,h2⟩
        · rcases hk with hk|hk
          · exact((apart_spec hap).2.2.1 k (gw k Bj) hk).elim
          · exact((apart_spec hap).2.2.2 k (gw k Bj) hk).elim
        · rw[h2];simp[h1]
        · rw[h2];simp;omega
     have JM: ∀k,k∈four (base+4 * i)→k∈f.wr:=fun k hk=>fw k (by simp only[uZ,List.mem_append];exact .inl hk)
     obtain⟨nP,QN,Mt⟩:=hst.loc (tm2:=oC dst v (tmT 0) (dg listed) N) (hp2:=oE wr hpT (hpT 0) (dg listed) N) E2 (fun k hk=>xD k (.inl (fr k hk))) (fun k hk=>xD k (.inr (JM k hk)))
     rw[←hwr i o ho]at Mt
     refine fJ.sound ho QN hr (fun k h1 h2=> .inr ⟨i,Bg,Hy,h1,h2⟩) ?_
     intro a2 w2 A2 ρ2 r1 r2 r3 r4
     have JD: ∀j,dg (listed.setIfInBounds (lo+i) true) j=if j=i then true else dg listed j:=by
      intro j
      by_cases fK:j=i
      · subst fK
        have:lo+j < listed.size:=by omega
        simp[dg,Array.getD_eq_getD_getElem?,this]
      · simp only[dg,fK,if_false]
        exact getD_set_ne false (fun e=>fK (by omega))
     have JC: ∀k,k≠lo+i→Lg (listed.setIfInBounds (lo+i) true) k=Lg listed k:=fun k hk=>getD_set_ne false (fun e=>hk e.symm)
     have wN:dg (listed.setIfInBounds (lo+i) true) i=true:=by rw[JD];simp
     have mQ: ∀j,j≠i→dg (listed.setIfInBounds (lo+i) true) j=dg listed j:=fun j hj=>by rw[JD,if_neg hj]
     have later: ∀j,i < j→j < N→(∀oj g,ops[lo+j]? =some oj→fs[j]? =some g→(f.apart g=true∨g.apart f=true)→False)→dg (listed.setIfInBounds (lo+i) true) j=false:=by
      intro j h1 h2 h3
      obtain⟨oj,g,pW,jH,gd,gw⟩:=wQ j h2
      rw[mQ j (by omega)]
      rcases order j oj g (by omega) h2 pW jH with hap|⟨h4,_⟩|⟨_,h5⟩
      · exact(h3 oj g pW jH hap).elim
      · omega
      · exact h5
     refine ih fuel (listed.setIfInBounds (lo+i) true) a2 w2 A2 ρ2 (by simpa using hsz) (fun k hk=>by rw[JC k (by omega)];exact Ez k hk) (fun k hk hk'=>by rw[JC k (by omega)];exact JR k hk hk') ?_ (by omega) ?_ ?_ (dJ.trans r2) (cC.trans r3) (hg.trans r4 dJ.size)
     · have:=xj (L:=dg listed) (L':=dg (listed.setIfInBounds (lo+i) true)) Hy wN mQ (k:=N) Bg
       omega
     · intro k ok' uE Hx e he
       by_cases o7:k=lo+i
       · subst o7
         rw[ho]at uE
         simp only[Option.some.injEq]at uE
         subst uE
         exact getD_set_true (Lb e he)
       · rw[JC k o7]at Hx
         exact getD_set_true (dA k ok' uE Hx e he)
     · refine(Rel.forget (st':=⟨n,oC dst v (tmT 0) (dg (listed.setIfInBounds (lo+i) true)) N,oE wr hpT (hpT 0) (dg (listed.setIfInBounds (lo+i) true)) N⟩) r1 rfl (fun t u hu=>?_) (fun k b hb=>?_)).sub (fun k hk=>?_)
       · simp only[gV]
         split
         · rename_i hd
           have o6:=Ao dst v (tmT 0) (dg (listed.setIfInBounds (lo+i) true)) t i (by rw[wJ i o ho];exact hd) wN N Bg (fun j h1 h2 h3=>later j h1 h2 (fun oj g pW jH hap=>by
            obtain⟨_,g',_,xS,gd,_⟩:=wQ j h2
            rw[jH]at xS
            simp only[Option.some.injEq]at xS
            subst xS
            exact(apart_spec hap).1 t (by rw[fd];exact hd) (by rw[gd];exact h3)))
           rw[←o6];exact hu
         · rename_i hd
           rw[ni dst v (tmT 0) (dg listed) (dg (listed.setIfInBounds (lo+i) true)) t N (fun j hj Bj=>by
            by_cases fK:j=i
            · subst fK;rw[wJ j o ho]at Bj;exact absurd Bj hd
            · exact(mQ j fK).symm)]
           exact hu
       · by_cases hk:k∈wr i
         · have hkw:k∈f.wr:=fw k (by rw[←hwr i o ho];exact hk)
           have o6:=Bc wr hpT (hpT 0) (dg (listed.setIfInBounds (lo+i) true)) k i hk wN N Bg (fun j h1 h2 h3=>later j h1 h2 (fun oj g pW jH hap=>by
            obtain⟨_,g',_,xS,_,gw⟩:=wQ j h2
            rw[jH]at xS
            simp only[Option.some.injEq]at xS
            subst xS
            exact(apart_spec hap).2.2.2 k (gw k h3) hkw))
           rw[Mt.1 k hk, ←o6];exact hb
         · rw[(Mt.2 k hk).2,nO wr hpT (hpT 0) (dg listed) (dg (listed.setIfInBounds (lo+i) true)) k N (fun j hj Bj=>by
            by_cases fK:j=i
            · subst fK;exact absurd Bj hk
            · exact(mQ j fK).symm)]
           exact hb
       · refine⟨?_,?_⟩
         · rcases hk with hk|⟨j,h1,h2,h3⟩
           · exact .inl hk
           · by_cases fK:j=i
             · subst fK;rw[wN]at h2;simp at h2
             · rw[mQ j fK]at h2;exact .inr ⟨j,h1,h2,h3⟩
         · rintro⟨q1,q2⟩
           rcases hk with hk|⟨j,h1,h2,h3,h4⟩
           · omega
           · by_cases fK:j=i
             · subst fK;rw[wN]at h2;simp at h2
             · omega
 intro fuel listed hsz hl If
 have hLf: ∀i,i < N→dg listed i=false:=by
  intro i hi
  simp only[dg]
  rw[hl (lo+i) (by simp only[N]at hi;omega)]
  simp
 have XB: ∀k,k≤N→nZ (dg listed) k=k:=by
  intro k
  induction k with
  |zero=>intro _;rfl
  |succ k ih=>intro hk;simp only[nZ,ih (by omega),hLf k (by omega)];simp
 refine main m fuel listed a w A ρ hsz (fun i hi=>?_) (fun i hi hi'=>?_) (XB N (Nat.le_refl _)) (by omega) (fun k o ho Hx e he=>?_) ?_ (cJ.refl _ _) (cN.refl _) (bp.refl _ _)
 · show listed.getD i false=true
   rw[hl i (by omega)];simp[hi]
 · show listed.getD i false=false
   rw[hl i hi'];simp;omega
 · have hk:k < ops.size:=(Array.getElem?_eq_some_iff.1 ho).1
   have h1:k < lo:=by
    have:listed.getD k false=true:=Hx
    rw[hl k hk]at this
    simpa using this
   have h2:=hE k o ho e he
   show listed.getD e false=true
   rw[hl e (by omega)];simp;omega
 · have eT: ∀k,k≤N→oC dst v (tmT 0) (dg listed) k=tmT 0:=by
    intro k
    induction k with
    |zero=>intro _;rfl
    |succ k ih=>intro hk;simp only[oC,hLf k (by omega),Bool.false_eq_true,if_false,ih (by omega)]
   have eH: ∀k,k≤N→oE wr hpT (hpT 0) (dg listed) k=hpT 0:=by
    intro k
    induction k with
    |zero=>intro _;rfl
    |succ k ih=>intro hk;simp only[oE,hLf k (by omega),Bool.false_eq_true,if_false,ih (by omega)]
   rw[eT N (Nat.le_refl _),eH N (Nat.le_refl _)]
   refine bR.sub (fun k hk=>?_)
   simp only[bg]
   rcases hk with hk|⟨j,_,_,h3,_⟩<;>omega
end Go.aR
end
section
namespace Go.aR
open Go
abbrev ue (α:Type):=FuncId→List W→HS→Nat→(V→HS→Nat→α)→α
abbrev uf (α:Type):=FuncId→List W→HS→Nat→(V→HS→α)→α
section
variable {α:Type} (bad:α) (call:ue α) (dG:uf α)
def J8 (v:V) (us:List W) (k:FuncId→List W→α):α:=
 match v with
 | .w (.one (.kM f df))=>k f (us++df.map fun p=> .one (.ptr p.1 p.2.1 p.2.2.1 p.2.2.2))
 | .w (.one (.lQ f true ts))=>k f (.agg (ts.map .t)::us)
 | .w (.one (.lQ f false [t]))=>k f (.one (.t t)::us)
 | .w (.one (.t (.val (.func (.func f) first df))))=>gQ (first.isEmpty&&df.isEmpty) (k f us) bad
 |_=>bad
def EGo (P:Program) (o:kp) (tm:Tr) (hp:HS) (ctr:Nat) (K:Tr→HS→Nat→α):α:=
 match o.op with
 | .call f args=>O2 bad (gT tm) args fun us=>call f us hp ctr fun v hp' bB=>tJ v fun v=>kS tm o.dst v fun tm=>K tm hp' bB
 | .kN x args=>O2 bad (gT tm) args fun us=>J8 bad (gT tm x) us fun f us=>gQ (enters P f) (call f us hp ctr fun v hp' bB=>tJ v fun v=>kS tm o.dst v fun tm=>K tm hp' bB) bad
 | .raw op ty=>EX P bad op ty (gT tm) hp ctr fun v hp'=>kS tm o.dst v fun tm=>ox (ctr+4) fun c=>K tm hp' c
 | .append size bytes s x=>match gT tm s with
   | .w (.one (.own id sz 0 len))=>match find hp id with
     |some (.row dz xs)=>hJ (jx hp id (.row dz (xs.take len))) fun hp=>ER bad (.append size bytes s x) (gT tm) hp ctr fun v hp'=>kS tm o.dst v fun tm=>ox (ctr+4) fun c=>K tm hp' c
     |_=>bad
   |_=>ER bad (.append size bytes s x) (gT tm) hp ctr fun v hp'=>kS tm o.dst v fun tm=>ox (ctr+4) fun c=>K tm hp' c
 | .slice size x lo hi=>match gT tm x with
   | .w (.one (.t (.val (.slice none 0 0))))=>match gb (lo.map (gT tm)) 0,gb (hi.map (gT tm)) 0 with
     |some 0,some 0=>kS tm o.dst (.w (.one (.t (.val (.slice none 0 0))))) fun tm=>ox (ctr+4) fun c=>K tm hp c
     |_,_=>bad
   |_=>ER bad (.slice size x lo hi) (gT tm) hp ctr fun v hp'=>kS tm o.dst v fun tm=>ox (ctr+4) fun c=>K tm hp' c
 |r=>ER bad r (gT tm) hp ctr fun v hp'=>kS tm o.dst v fun tm=>ox (ctr+4) fun c=>K tm hp' c
def EOp (P:Program) (o:kp) (tm:Tr) (hp:HS) (ctr:Nat) (K:Tr→HS→Nat→α):α:=
 match o.guard with
 |none=>EGo bad call P o tm hp ctr K
 |some (d,want)=>
  match tm.get (key d)with
  |some (.w (.one (.t (.val (.bool b)))))=>gQ (b==want) (EGo bad call P o tm hp ctr K) (kS tm o.dst (.ef []) fun tm=>K tm hp ctr)
  |some (.ef [])=>kS tm o.dst (.ef []) fun tm=>K tm hp ctr
  |_=>bad
def NF (P:Program):List kp→Tr→HS→Nat→(Tr→HS→Nat→α)→α
 | [],tm,hp,ctr,K=>K tm hp ctr
 |o::r,tm,hp,ctr,K=>EOp bad call P o tm hp ctr fun tm hp ctr=>NF P r tm hp ctr K
def NG (P:Program) (o:kp) (tm:Tr) (hp:HS) (ctr:Nat) (K:Tr→HS→Nat→α):α:=
 match o.op with
 | .call f args=>O2 bad (gT tm) args fun us=>dG f us hp ctr fun v hp'=>tJ v fun v=>kS tm o.dst v fun tm=>ox (ctr+4) fun c=>K tm hp' c
 | .kN x args=>O2 bad (gT tm) args fun us=>J8 bad (gT tm x) us fun f us=>gQ (enters P f) (dG f us hp ctr fun v hp'=>tJ v fun v=>kS tm o.dst v fun tm=>ox (ctr+4) fun c=>K tm hp' c) bad
 | .raw op ty=>match aq P (fun x=>gT tm (dy x)) hp ctr (bare op ty)with
   |some (v,hp')=>tJ v fun v=>kS tm o.dst v fun tm=>ox (ctr+4) fun c=>K tm hp' c
   |none=>bad
 |r=>ER bad r (gT tm) hp ctr fun v hp'=>kS tm o.dst v fun tm=>ox (ctr+4) fun c=>K tm hp' c
def F0 (o:kp) (tm:Tr) (ctr:Nat):iD:=
 let rd:=if o.op.looks then o.op.iO.flatMap fun x=>(gT tm x).ids else []
 ⟨o.dst,o.op.iO.filterMap VX++(o.guard.map (·.1)).toList,rd,four ctr++if o.op.YV then rd else []⟩
def SM (P:Program) (o:kp) (tm:Tr) (hp:HS) (ctr:Nat) (K:Tr→HS→Nat→α):α:=
 match o.guard with
 |none=>NG bad dG P o tm hp ctr K
 |some (d,want)=>
  match tm.get (key d)with
  |some (.w (.one (.t (.val (.bool b)))))=>gQ (b==want) (NG bad dG P o tm hp ctr K) (kS tm o.dst (.ef []) fun tm=>ox (ctr+4) fun c=>K tm hp c)
  |some (.ef [])=>kS tm o.dst (.ef []) fun tm=>ox (ctr+4) fun c=>K tm hp c
  |_=>bad
def DH (P:Program):List kp→List iD→Tr→HS→Nat→(List iD→Tr→HS→Nat→α)→α
 | [],fs,tm,hp,ctr,K=>K fs tm hp ctr
 |o::r,fs,tm,hp,ctr,K=>SM bad dG P o tm hp ctr fun aY hp' bB=>DH P r (fs++[F0 o tm ctr]) aY hp' bB K
def CH (bits:List Nat) (N j:Nat):Bool:=
 (List.range j).all (fun i=>(bits.getD j 0).testBit i)&& (List.range (N - (j+1))).all (fun d=>(bits.getD (j+1+d) 0).testBit j)
def ca (bits:List Nat) (N:Nat):Nat→List kp→List kp×List kp
 |_,[]=>([],[])
 |j,o::r=>gQ (CH bits N j) ([],o::r) (o::(ca bits N (j+1) r).1,(ca bits N (j+1) r).2)
def FL (bits:List Nat) (lo m N:Nat):Bool:=
 (List.range (N - (lo+m))).all fun d=>(List.range m).all fun i=>(bits.getD (lo+m+d) 0).testBit (lo+i)
def xN (P:Program) (bits:List Nat) (N:Nat):Nat→Nat→List kp→Tr→HS→Nat→(Tr→HS→Nat→α)→α
 |0,_,_,_,_,_,_=>bad
 |f+1,lo,ops,tm,hp,ctr,K=>
  DH bad dG P (ca bits N lo ops).1 [] tm hp ctr fun fs tm hp ctr=>
   gQ (FE bits lo fs&&FL bits lo (ca bits N lo ops).1.length N)
    (match(ca bits N lo ops).2 with
    | []=>K tm hp ctr
    |o::r=>EOp bad call P o tm hp ctr fun tm hp ctr=>xN P bits N f (lo+(ca bits N lo ops).1.length+1) r tm hp ctr K) bad
def Kb (K:Tr→HS→Nat→α) (Q:Exit→Tr→HS→Nat→α):Exit→Tr→HS→Nat→α
 | .normal=>K
 |e=>Q e
def Ko (id:Nat) (Q:Exit→Tr→HS→Nat→α):Exit→Tr→HS→Nat→α
 | .exit id'=>gQ (Nat.beq id' id) (Q .normal) (Q (.exit id'))
 |e=>Q e
def Di (body:(Tr→HS→Nat→α)→Tr→HS→Nat→α):Nat→Tr→HS→Nat→α
 |0=>fun _ _ _=>bad
 |n+1=>body (Di body n)
def E (P:Program) (fuel:Nat):Rc→(Exit→Tr→HS→Nat→α)→Tr→HS→Nat→α
 | .skip,Q,tm,hp,ctr=>Q .normal tm hp ctr
 | .ret,Q,tm,hp,ctr=>Q .ret tm hp ctr
 | .exit id,Q,tm,hp,ctr=>Q (.exit id) tm hp ctr
 | .seq a b,Q,tm,hp,ctr=>E P fuel a (Kb (E P fuel b Q) Q) tm hp ctr
 | .cond c a b,Q,tm,hp,ctr=>
   match(gT tm c).gA with
   |some v=>gQ v (E P fuel a Q tm hp ctr) (E P fuel b Q tm hp ctr)
   |none=>bad
 | .block id b,Q,tm,hp,ctr=>E P fuel b (Ko id Q) tm hp ctr
 | .loop b,Q,tm,hp,ctr=>Di bad (fun self=>E P fuel b (Kb self Q)) fuel tm hp ctr
 | .region ops,Q,tm,hp,ctr=>NF bad call P ops tm hp ctr (Q .normal)
 | .draw ops es,Q,tm,hp,ctr=>xN bad call dG P (kZ es []) ops.length (ops.length+1) 0 ops tm hp ctr (Q .normal)
end
def ga (n:Nat):Rc→Bool
 | .seq a b=>ga n a&&ga n b
 | .cond _ a b=>ga n a&&ga n b
 | .block _ b=>ga n b
 | .loop b=>ga n b
 | .region ops=>ops.all fun o=>fE n o.dst
 | .draw ops _=>ops.all fun o=>fE n o.dst
 |_=>true
variable {P:Program} {M A:Nat→Prop} {ρ:Env} {F:Nat→Prop} {st:St} {a:Act} {w:World}
def At (M A:Nat→Prop) (ρ:Env) (w:World) (n:Nat) (tm:Tr) (hp:HS) (ctr:Nat) (a':Act) (w':World):Prop:=
 ∃L A' ρ',eR tm L∧Rel M A' ρ' (bg ctr) ⟨n,L,hp⟩ a' w'∧cJ M w w'∧cN ρ ρ'∧bp A A' w
theorem At.trans {A1:Nat→Prop} {ρ1:Env} {w1 w':World} {n:Nat} {tm:Tr} {hp:HS} {ctr:Nat} {a':Act} (h:At M A1 ρ1 w1 n tm hp ctr a' w') (dJ:cJ M w w1) (cC:cN ρ ρ1) (hg:bp A A1 w):At M A ρ w n tm hp ctr a' w':=by
 obtain⟨L,A',ρ',h1,h2,h3,h4,h5⟩:=h
 exact⟨L,A',ρ',h1,h2,dJ.trans h3,cC.trans h4,hg.trans h5 dJ.size⟩
theorem At.here {n:Nat} {L:TS} {tm:Tr} {hp:HS} {ctr:Nat} (ht:eR tm L) (h:Rel M A ρ (bg ctr) ⟨n,L,hp⟩ a w):At M A ρ w n tm hp ctr a w:=
 ⟨L,A,ρ,ht,h,cJ.refl _ _,cN.refl _,bp.refl _ _⟩
def Ts (P:Program) (n:Nat) (c:Code) (tm:Tr) (hp:HS) (ctr:Nat) (e:Exit) (aY:Tr) (hp':HS) (bB:Nat):Prop:=
 ∀ (M A:Nat→Prop) (ρ:Env) (a:Act) (w:World) (L:TS),eR tm L→Rel M A ρ (bg ctr) ⟨n,L,hp⟩ a w→
  c.wp P (fun e2 a' w'=>e2=e∧At M A ρ w n aY hp' bB a' w') a w
def og (P:Program) (call:ue Bool):Prop:= ∀f us hp ctr K,call f us hp ctr K=true→ ∃v hp' bB,gE P f us hp ctr v hp' bB∧K v hp' bB=true
def kP (P:Program) (dG:uf Bool):Prop:= ∀f us hp ctr K,dG f us hp ctr K=true→ ∃v hp',eL P hp ctr f us v hp'∧K v hp'=true
def iC (ops:Array Oper) (o:Oper) (g:Option (Nat×Bool)):Prop:=
 (o.guard=none∧g=none)∨ ∃j want d,o.guard=some (j,want)∧(ops[j]?).bind (·.dst)=some d∧g=some (d,want)
def xE (P:Program) (n:Nat) (ops:Array Oper) (i:Nat) (tm:Tr) (hp:HS) (ctr:Nat) (aY:Tr) (hp':HS) (bB:Nat):Prop:=
 ∀ (M A:Nat→Prop) (ρ:Env) (a:Act) (w:World) (L:TS) (Q:Exit→Act→World→Prop) (K':Act→World→Prop),eR tm L→Rel M A ρ (bg ctr) ⟨n,L,hp⟩ a w→
  (∀a' w',At M A ρ w n aY hp' bB a' w'→K' a' w')→wpOp P ops Q i K' a w
def rF (P:Program) (n:Nat) (ops:Array Oper) (o:Oper) (tm:Tr) (hp:HS) (ctr:Nat) (v:V) (hp':HS):Prop:=
 ∀L,eR tm L→fJ P ops o n L hp ctr v hp'
theorem rF.run {n:Nat} {ops:Array Oper} {o:Oper} {i:Nat} {tm:Tr} {hp hp':HS} {ctr:Nat} {v:V} (hi:ops[i]? =some o) (h:rF P n ops o tm hp ctr v hp'):
 xE P n ops i tm hp ctr (vO tm o.dst v) hp' (ctr+4):=by
 intro M A ρ a w L Q K' hL hr hk
 refine fJ.sound hi (h L hL) hr (fun k h1 _=>h1) ?_
 intro a' w' A' ρ' r1 r2 r3 r4
 exact hk a' w' ⟨_,A',ρ',hL.put o.dst v,r1.sub ij,r2,r3,r4⟩
theorem vK {n:Nat} {ops:Array Oper} {o:Oper} {g:Option (Nat×Bool)} {tm:Tr} {hp:HS} {ctr:Nat} (hd:fE n o.dst=true) (hgd:iC ops o g)
 (hg: ∃d want,g=some (d,want)∧((∃b,tm.get (key d)=some (bV b)∧(b==want)=false)∨tm.get (key d)=some (.ef []))):rF P n ops o tm hp ctr (.ef []) hp:=by
 intro L hL
 obtain⟨d,want,rfl,hg⟩:=hg
 rcases hgd with⟨_,h⟩|⟨j,want',d',h1,h2,h3⟩
 · simp at h
 · simp only[Option.some.injEq,Prod.mk.injEq]at h3
   obtain⟨rfl,rfl⟩:=h3
   refine⟨hd,?_⟩
   rcases hg with⟨b,hb,hne⟩|hb
   · rw[←hL d]at hb
     simp only[aU,h1,h2,hb,hne]
     exact⟨trivial,trivial⟩
   · rw[←hL d]at hb
     simp only[aU,h1,h2,hb]
     exact⟨trivial,trivial⟩
theorem guard_true {ops:Array Oper} {o:Oper} {g:Option (Nat×Bool)} {tm:Tr} {L:TS} (hL:eR tm L) (hgd:iC ops o g)
 (hg:g=none∨ ∃d want b,g=some (d,want)∧tm.get (key d)=some (bV b)∧(b==want)=true):aU ops o L=some true:=by
 rcases hgd with⟨h0,rfl⟩|⟨j,want,d,h1,h2,rfl⟩
 · simp[aU,h0]
 · rcases hg with h|⟨d',want',b,h3,h4,h5⟩
   · simp at h
   · simp only[Option.some.injEq,Prod.mk.injEq]at h3
     obtain⟨rfl,rfl⟩:=h3
     rw[←hL d]at h4
     simp only[aU,h1,h2,h4,h5]
theorem Gu {n:Nat} {ops:Array Oper} {o:Oper} {x:Ro} {g:Option (Nat×Bool)} {tm:Tr} {hp:HS} {ctr:Nat} {K:V→HS→Bool} (hx:aX P o=some x) (hd:fE n o.dst=true)
 (hgd:iC ops o g) (hg:g=none∨ ∃d want b,g=some (d,want)∧tm.get (key d)=some (bV b)∧(b==want)=true)
 (hE: ∃L,eR tm L) (h:ER false x (gT tm) hp ctr K=true): ∃v hp',rF P n ops o tm hp ctr v hp'∧K v hp'=true:=by
 obtain⟨L0,wM⟩:=hE
 rw[lM wM]at h
 obtain⟨h1,v,hp',h2,h3⟩:=rD (st:=⟨n,L0,hp⟩) hx (YI h)
 refine⟨v,hp',fun L hL=>⟨hd,?_⟩,h3⟩
 rw[guard_true hL hgd hg]
 have Ev: ∀y,St.get ⟨n,L,hp⟩ y=St.get ⟨n,L0,hp⟩ y:=by
  intro y
  cases y with
  |tmp t=>simp only[St.get];rw[hL t,wM t]
  |_=>rfl
 have c1:bL (St.get ⟨n,L,hp⟩) o=none:=by rw[ru (get':=St.get ⟨n,L0,hp⟩) (fun y _=>Ev y)];exact h1
 simp only[c1]
 rw[q9 (get':=St.get ⟨n,L0,hp⟩) (fun y _=>Ev y)]
 exact h2
def Tr.toL:Tr→(Pn→Pn)→List (Nat×V)
 | .nil,_=>[]
 | .node v l r,f=>(match v with|some x=>[((f .e).dec,x)]|none=>[])++l.toL (fun p=>f (.o p))++r.toL (fun p=>f (.i p))
theorem rm: ∀ {p q:Pn},p.dec=q.dec→p=q
 | .e, .e,_=>rfl
 | .e, .o _,h=>by simp[Pn.dec]at h
 | .e, .i _,h=>by simp[Pn.dec]at h
 | .o _, .e,h=>by simp[Pn.dec]at h
 | .i _, .e,h=>by simp[Pn.dec]at h
 | .o p, .o q,h=>by simp only[Pn.dec]at h;rw[rm (p:=p) (q:=q) (by omega)]
 | .i p, .i q,h=>by simp only[Pn.dec]at h;rw[rm (p:=p) (q:=q) (by omega)]
 | .o p, .i q,h=>by simp only[Pn.dec]at h;omega
 | .i p, .o q,h=>by simp only[Pn.dec]at h;omega
theorem jP {β:Type}: ∀ {l:List (Nat×β)} {t:Nat},(∀p,p∈l→p.1≠t)→find l t=none
 | [],t,_=>rfl
 |(k,v)::r,t,h=>by
  rw[ai,if_neg (h (k,v) (by simp))]
  exact jP fun p hp=>h p (by simp[hp])
theorem toL_keys: ∀ (tr:Tr) (f:Pn→Pn) (p:Nat×V),p∈tr.toL f→ ∃q,p.1=(f q).dec
 | .nil,f,p,h=>by simp[Tr.toL]at h
 | .node v l r,f,p,h=>by
   simp only[Tr.toL,List.mem_append]at h
   rcases h with(h|h)|h
   · cases v with
     |none=>simp at h
     |some x=>simp only[List.mem_singleton]at h;subst h;exact⟨.e,rfl⟩
   · obtain⟨q,hq⟩:=toL_keys l _ p h;exact⟨.o q,hq⟩
   · obtain⟨q,hq⟩:=toL_keys r _ p h;exact⟨.i q,hq⟩
theorem wT: ∀ (tr:Tr) (f:Pn→Pn) (hf: ∀p q,f p=f q→p=q) (q:Pn),find (tr.toL f) (f q).dec=tr.get q
 | .nil,f,hf,q=>by rw[Tr.vj];rfl
 | .node v l r,f,hf,q=>by
   have hl:=wT l (fun p=>f (.o p)) (fun p q h=>by have:=hf _ _ h;simpa using this)
   have hr:=wT r (fun p=>f (.i p)) (fun p q h=>by have:=hf _ _ h;simpa using this)
   have nl: ∀q,(∀q',Pn.o q'≠q)→find (l.toL fun p=>f (.o p)) (f q).dec=none:=by
    intro q hq
    refine jP fun p hp he=>?_
    obtain⟨q',FT⟩:=toL_keys l _ p hp
    rw[FT]at he
    exact hq q' (hf _ _ (rm he))
   have nr: ∀q,(∀q',Pn.i q'≠q)→find (r.toL fun p=>f (.i p)) (f q).dec=none:=by
    intro q hq
    refine jP fun p hp he=>?_
    obtain⟨q',FT⟩:=toL_keys r _ p hp
    rw[FT]at he
    exact hq q' (hf _ _ (rm he))
   have nv: ∀q,q≠ .e→find (match v with|some x=>[((f .e).dec,x)]|none=>[]) (f q).dec=none:=by
    intro q hq
    refine jP fun p hp he=>?_
    cases v with
    |none=>simp at hp
    |some x=>
     simp only[List.mem_singleton]at hp
     subst hp
     exact hq (hf _ _ (rm he)).symm
   simp only[Tr.toL,cL]
   cases q with
   |e=>
    rw[nl .e (by simp),nr .e (by simp)]
    cases v with
    |none=>simp[find,Tr.get]
    |some x=>simp[find,Tr.get]
   |o q=>
    rw[nv (.o q) (by simp),nr (.o q) (by simp),hl q]
    simp[Tr.get]
   |i q=>
    rw[nv (.i q) (by simp),nl (.i q) (by simp),hr q]
    simp[Tr.get]
theorem Ft (tr:Tr): ∃L,eR tr L:=by
 refine⟨tr.toL id,fun t=>?_⟩
 have h1:t=(id (key t)).dec:=by
  simp only[id]
  unfold key
  exact(qP t t (Nat.le_refl _)).symm
 have h2:=wT tr id (fun _ _ h=>h) (key t)
 rw[←h1]at h2
 exact h2
variable {call:ue Bool} {dG:uf Bool}
theorem vR {o:Oper} {size:Nat} {x:di} {lo hi:Option di} (h:aK P o=some (.slice size x lo hi)):
 ∃t x' lo' hi' e,o.op= .slice t x' lo' hi' none∧P.underlying t=some (.slice e)∧cA P e=some size∧x=dy x'∧lo=lo'.map dy∧hi=hi'.map dy:=by
 obtain⟨dst,op,ty,pos,after,guard⟩:=o
 cases op
 case slice t x' lo' hi' mx=>
  cases mx with
  |some m=>simp[aK]at h
  |none=>
   simp only[aK]at h
   split at h
   · rename_i e hu
     simp only[Option.map_eq_some_iff,Ro.slice.injEq]at h
     obtain⟨s,hs,rfl,rfl,rfl,rfl⟩:=h
     exact⟨t,x',lo',hi',e,rfl,hu,hs,rfl,rfl,rfl⟩
   · simp at h
 all_goals
  exfalso
  simp only[aK]at h
  repeat' split at h
  all_goals first|(simp at h;done)|simp_all
theorem xZ {o:Oper} {size:Nat} {x:di} {lo hi:Option di} (h:aX P o=some (.slice size x lo hi)):
 ∃t x' lo' hi' e,o.op= .slice t x' lo' hi' none∧P.underlying t=some (.slice e)∧cA P e=some size∧x=dy x'∧lo=lo'.map dy∧hi=hi'.map dy:=by
 unfold aX at h
 split at h
 · rename_i r hr
   replace hr:=dR hr
   simp only[Option.some.injEq]at h
   subst h
   exact vR hr
 · simp only[Option.some.injEq]at h
   rcases lB o with⟨t,fI,iM,ho,e⟩|e
   · rw[e]at h;simp at h
   · rw[e]at h;simp at h
theorem Df {get:Operand→V} {o:Oper} {p:FuncId×List W} {hp:HS} {nid:Nat} {r:V×HS} (hc:bL get o=some p) (he:aq P get hp nid o=some r):False:=by
 obtain⟨dst,op,ty,pos,after,guard⟩:=o
 unfold bL at hc
 simp only at hc
 split at hc
 · simp[aq]at he
 · simp at hc
theorem Kz {tm:Tr} {L:TS} {n:Nat} {hp:HS} (hL:eR tm L) (hr:Rel M A ρ F ⟨n,L,hp⟩ a w) {lo:Option Operand} (h:gb ((lo.map dy).map (gT tm)) 0=some 0):lo.map a.eval=none∨ ∃k,lo.map a.eval=some (.int k 0):=by
 cases lo with
 |none=>exact .inl rfl
 |some x=>
  right
  simp only[Option.map_some,gb]at h
  split at h
  · rename_i k m hm
    split at h
    · rename_i h0
      simp only[Option.some.injEq]at h
      have:m=0:=by omega
      subst this
      exact⟨k,by rw[Option.map_some,V.iS hm (RV.at hL hr x)]⟩
    · simp at h
  · simp at h
theorem AS {n:Nat} {o:Oper} {size:Nat} {x:di} {lo hi:Option di} {tm:Tr} {hp:HS} {ctr:Nat} (hx:aX P o=some (.slice size x lo hi)) (hy:gT tm x= .w (.one (.t (.val (.slice none 0 0)))))
 (hlo:gb (lo.map (gT tm)) 0=some 0) (hhi:gb (hi.map (gT tm)) 0=some 0):E4 P n o tm hp ctr (.w (.one (.t (.val (.slice none 0 0))))) hp:=by
 obtain⟨t,x',lo',hi',e,ho,hu,hs,rfl,rfl,rfl⟩:=xZ hx
 intro M A ρ a w L hL hr
 have vx:=RV.at hL hr x'
 rw[hy]at vx
 have hv:a.eval x'= .slice none 0 0:=V.bh (v:= .slice none 0 0) rfl vx
 have hrun:(execOp a.eval o).run P w= .ok (.value (.slice none 0 0)) w:=by
  rw[←tN,ho]
  rcases Kz hL hr hlo with h1|⟨k1,h1⟩<;>rcases Kz hL hr hhi with h2|⟨k2,h2⟩<;>
   simp[execOp,Instr.sliceAt,Instr.slice,hv,h1,h2,run_underlying hu,Instr.sliceBounds,Instr.sliceBound,asIntOf,run_sizeOf hs]
 exact⟨_,w,A,ρ, .inl hrun,hr.sub ct,RV.ofValue w A ρ (.slice none 0 0),cJ.refl _ _,cN.refl _,bp.refl _ _⟩
theorem xl {n:Nat} {ops:Array Oper} {o:Oper} {i:Nat} {f:FuncId} {g:Option (Nat×Bool)} {tm:Tr} {hp hp':HS} {ctr bB:Nat} {us:List W} {v:V}
 (hi:ops[i]? =some o) (kX:enters P f=true) (hd:fE n o.dst=true) (hgd:iC ops o g) (hg:g=none∨ ∃d want b,g=some (d,want)∧tm.get (key d)=some (bV b)∧(b==want)=true)
 (yz: ∀L,eR tm L→bL (St.get ⟨n,L,hp⟩) o=some (f,us)) (hc:gE P f us hp ctr v hp' bB):xE P n ops i tm hp ctr (vO tm o.dst v) hp' bB:=by
 intro M A ρ a w L Q K' hL hr hk
 have hgt:=guard_true hL hgd hg
 have Jx:=de hr hgt
 obtain⟨xs,hxs,hxr⟩:=mF (P:=P) hr (yz L hL) kX
 unfold wpOp
 simp only[hi,Jx,if_true]
 refine .inl ?_
 simp only[Oper.wp,hxs,Oper.upon]
 refine(hc M A ρ a w n L xs hr hxr).mono ?_
 rintro e w' ⟨x,A',ρ',rfl,r1,r2,r3,r4,r5⟩
 refine hk _ _ ⟨_,A',ρ',hL.put o.dst v,?_,r3,r4,r5⟩
 have:=r1.put (dst:=o.dst) r2 (kn hd)
 rw[fu]at this
 exact this
theorem FG {n:Nat} {ops:Array Oper} {o:Oper} {i:Nat} {g:Option (Nat×Bool)} {tm:Tr} {hp hp':HS} {ctr:Nat} {v:V}
 (hi:ops[i]? =some o) (hd:fE n o.dst=true) (hgd:iC ops o g) (hg:g=none∨ ∃d want b,g=some (d,want)∧tm.get (key d)=some (bV b)∧(b==want)=true)
 (h:E4 P n o tm hp ctr v hp'):xE P n ops i tm hp ctr (vO tm o.dst v) hp' (ctr+4):=by
 intro M A ρ a w L Q K' hL hr hk
 have hgt:=guard_true hL hgd hg
 have Jx:=de hr hgt
 obtain⟨x,w',A',ρ',hrun,r1,r2,r3,r4,r5⟩:=h M A ρ a w L hL hr
 unfold wpOp
 simp only[hi,Jx,if_true]
 refine .inl ?_
 have fin: ∀ {y:Value},RV w' A' ρ' v y→Rel M A' ρ' (bg (ctr+4)) ⟨n,dj L o.dst v,hp'⟩ (a.put o.dst y) w':=by
  intro y hy
  have:=r1.put (dst:=o.dst) hy (kn hd)
  rw[fu]at this
  exact this
 rcases hrun with hrun|⟨hrun,rfl⟩
 · simp only[Oper.wp,hrun,Oper.upon]
   exact hk _ _ ⟨_,A',ρ',hL.put o.dst v,fin r2,r3,r4,r5⟩
 · simp only[Oper.wp,hrun,Oper.upon]
   exact hk _ _ ⟨_,A',ρ',hL.put o.dst v,fin r2,r3,r4,r5⟩
theorem B1 {tm:Tr} {L L0:TS} (hL:eR tm L) (wM:eR tm L0) (l:List di):Fl L l=Fl L0 l:=by
 have:(fun x=>di.get L x)=fun x=>di.get L0 x:=by rw[←lM hL, ←lM wM]
 induction l with
 |nil=>rfl
 |cons y r ih=>simp only[Fl,ih,congrFun this y]
theorem tV {n:Nat} {o:Oper} {f:FuncId} {args:List di} {tm:Tr} {L0:TS} {hp:HS} {us:List W} (hx:aX P o=some (.call f args)) (wM:eR tm L0) (fP:Fl L0 args=some us):
 enters P f=true∧ ∀L,eR tm L→bL (St.get ⟨n,L,hp⟩) o=some (f,us):=by
 obtain⟨fI,iM,ho,rfl,kX⟩:=mm hx
 refine⟨kX,fun L hL=>?_⟩
 have N7:pE (St.get ⟨n,L,hp⟩) fI.toList=some us:=by rw[←pD, ←fP];exact B1 hL wM _
 unfold bL
 rw[ho]
 simp only[St.get,V.ofValue,N7]
 rfl
theorem EI {v:V} {us:List W} {k:FuncId→List W→Bool} (h:J8 false v us k=true): ∃f fL,k f fL=true∧
 ∀ {get:Operand→V} {o:Oper} {t:Nat} {args:Array Operand} {iM:Array TypeId},o.op= .call ⟨.value (.tmp t),args,iM⟩→get (.tmp t)=v→pE get args.toList=some us→bL get o=some (f,fL):=by
 unfold J8 at h
 split at h
 · exact⟨_,_,h,fun ho hv fP=>by unfold bL;rw[ho];simp only[hv,fP]⟩
 · exact⟨_,_,h,fun ho hv fP=>by unfold bL;rw[ho];simp only[hv,fP,nD,Option.map_some]⟩
 · exact⟨_,_,h,fun ho hv fP=>by unfold bL;rw[ho];simp only[hv,fP,nD,Option.map_some]⟩
 · obtain⟨hc,h⟩:=bq h
   exact⟨_,_,h,fun ho hv fP=>by unfold bL;rw[ho];simp only[hv,fP,hc,if_true]⟩
 · simp at h
theorem rz {n:Nat} {o:Oper} {x:di} {args:List di} {tm:Tr} {L0:TS} {hp:HS} {us:List W} {k:FuncId→List W→Bool} (hx:aX P o=some (.kN x args)) (wM:eR tm L0) (fP:Fl L0 args=some us)
 (h:J8 false (gT tm x) us k=true): ∃f fL,k f fL=true∧ ∀L,eR tm L→bL (St.get ⟨n,L,hp⟩) o=some (f,fL):=by
 obtain⟨t,fI,iM,ho,rfl,rfl⟩:=kR hx
 obtain⟨f,fL,h1,h2⟩:=EI h
 refine⟨f,fL,h1,fun L hL=>h2 ho ?_ ?_⟩
 · rw[lM hL]
   exact(bj ⟨n,L,hp⟩ (.tmp t)).symm
 · rw[←pD, ←fP];exact B1 hL wM _
theorem Af (iI:og P call) {n:Nat} {ops:Array Oper} {o:Oper} {i:Nat} {x:Ro} {g:Option (Nat×Bool)} {tm:Tr} {hp:HS} {ctr:Nat} {K:Tr→HS→Nat→Bool}
 (hi:ops[i]? =some o) (hx:aX P o=some x) (hd:fE n o.dst=true) (hgd:iC ops o g) (hg:g=none∨ ∃d want b,g=some (d,want)∧tm.get (key d)=some (bV b)∧(b==want)=true)
 (h:EGo false call P ⟨o.dst,g,x⟩ tm hp ctr K=true): ∃aY hp' bB,xE P n ops i tm hp ctr aY hp' bB∧K aY hp' bB=true:=by
 obtain⟨L0,wM⟩:=Ft tm
 have plain: ∀ {hp:HS},ER false x (gT tm) hp ctr (fun v hp'=>kS tm o.dst v fun tm=>ox (ctr+4) fun c=>K tm hp' c)=true→ ∃aY hp' bB,xE P n ops i tm hp ctr aY hp' bB∧K aY hp' bB=true:=by
  intro hp h
  obtain⟨v,hp',hs,hK⟩:=Gu hx hd hgd hg ⟨L0,wM⟩ h
  rw[ix,dO]at hK
  exact⟨_,_,_,hs.run hi,hK⟩
 unfold EGo at h
 split at h
 · rename_i f args lI
   simp only at lI
   subst lI
   rw[lM wM]at h
   obtain⟨us,fP,h⟩:=vz h
   obtain⟨v,hp',bB,hc,h⟩:=iI _ _ _ _ _ h
   rw[cF,ix]at h
   obtain⟨kX,yz⟩:=tV (n:=n) (hp:=hp) hx wM fP
   exact⟨_,_,_,xl hi kX hd hgd hg yz hc,h⟩
 · rename_i y args lI
   simp only at lI
   subst lI
   have h':=h
   rw[lM wM]at h'
   obtain⟨us,fP,h'⟩:=vz h'
   rw[←lM wM]at h'
   obtain⟨f,fL,h1,yz⟩:=rz (n:=n) (hp:=hp) hx wM fP h'
   obtain⟨kX,h1⟩:=bq h1
   obtain⟨v,hp',bB,hc,h1⟩:=iI _ _ _ _ _ h1
   rw[cF,ix]at h1
   exact⟨_,_,_,xl hi kX hd hgd hg yz hc,h1⟩
 · rename_i op ty lI
   simp only at lI
   subst lI
   obtain⟨rfl,rfl⟩:=eB hx
   obtain⟨v,hp',h1,h2⟩:=KT (n:=n) h
   rw[ix,dO]at h2
   exact⟨_,_,_,FG hi hd hgd hg h1,h2⟩
 · rename_i size bytes s y lI
   simp only at lI
   subst lI
   split at h
   · rename_i id sz len hs
     split at h
     · rename_i dz xs hf
       rw[bX]at h
       obtain⟨aY,hp',bB,h1,h2⟩:=plain h
       refine⟨aY,hp',bB,?_,h2⟩
       intro M A ρ a w L Q K' hL hr hk
       exact h1 M A ρ a w L Q K' hL (Rel.Vt (st:=⟨n,L,hp⟩) hr hf len) hk
     · simp at h
   · exact plain h
 · rename_i size y lo hi' lI
   simp only at lI
   subst lI
   split at h
   · rename_i hy
     split at h
     · rename_i hlo hhi
       rw[ix,dO]at h
       refine⟨_,_,_,FG hi hd hgd hg ?_,h⟩
       exact AS hx hy hlo hhi
     · simp at h
   · exact plain h
 · exact plain h
theorem Ae (iI:og P call) {n:Nat} {ops:Array Oper} {o:Oper} {i:Nat} {x:Ro} {g:Option (Nat×Bool)} {tm:Tr} {hp:HS} {ctr:Nat} {K:Tr→HS→Nat→Bool}
 (hi:ops[i]? =some o) (hx:aX P o=some x) (hd:fE n o.dst=true) (hgd:iC ops o g)
 (h:EOp false call P ⟨o.dst,g,x⟩ tm hp ctr K=true): ∃aY hp' bB,xE P n ops i tm hp ctr aY hp' bB∧K aY hp' bB=true:=by
 unfold EOp at h
 have skip:(∃d want,g=some (d,want)∧((∃b,tm.get (key d)=some (bV b)∧(b==want)=false)∨tm.get (key d)=some (.ef [])))→(kS tm o.dst (.ef []) fun tm=>K tm hp ctr)=true→
  ∃aY hp' bB,xE P n ops i tm hp ctr aY hp' bB∧K aY hp' bB=true:=by
  intro hg h
  rw[ix]at h
  have hs:rF P n ops o tm hp ctr (.ef []) hp:=vK hd hgd hg
  refine⟨_,_,_,?_,h⟩
  intro M A ρ a w L Q K' hL hr hk
  have hst:=hs L hL
  unfold wpOp
  simp only[hi]
  obtain⟨d,want,rfl,hgg⟩:=hg
  have hgf:aU ops o L=some false:=by
   rcases hgd with⟨_,h0⟩|⟨j,want',d',h1,h2,h3⟩
   · simp at h0
   · simp only[Option.some.injEq,Prod.mk.injEq]at h3
     obtain⟨rfl,rfl⟩:=h3
     rcases hgg with⟨b,hb,hne⟩|hb
     · rw[←hL d]at hb
       simp only[aU,h1,h2,hb,hne]
     · rw[←hL d]at hb
       simp only[aU,h1,h2,hb]
  have:=de hr hgf
  simp only[this,Bool.false_eq_true,if_false]
  refine hk _ _ ⟨_,A,ρ,hL.put o.dst (.ef []),?_,cJ.refl _ _,cN.refl _,bp.refl _ _⟩
  have:=hr.put (dst:=o.dst) rQ (kn hd)
  rw[fu]at this
  exact this
 split at h
 · rename_i Xo
   simp only at Xo
   exact Af iI hi hx hd hgd (.inl Xo) h
 · rename_i d want Mn
   simp only at Mn
   split at h
   · rename_i b hb
     cases Mr:(b==want)with
     |true=>
      rw[Mr]at h
      exact Af iI hi hx hd hgd (.inr ⟨d,want,b,Mn,hb,Mr⟩) h
     |false=>
      rw[Mr]at h
      exact skip ⟨d,want,Mn, .inl ⟨b,hb,Mr⟩⟩ h
   · rename_i hb
     exact skip ⟨d,want,Mn, .inr hb⟩ h
   · simp at h
theorem kf {ops:Array Oper} {o:Oper} {x:Ro} {l' rs:List kp}
 (eU:(match o.guard with
   |none=>some (⟨o.dst,none,x⟩::l')
   |some (j,want)=>
    match(ops[j]?).bind (·.dst)with
    |some d=>some (⟨o.dst,some (d,want),x⟩::l')
    |none=>none)=some rs): ∃g,rs=⟨o.dst,g,x⟩::l'∧iC ops o g:=by
 split at eU
 · rename_i hg
   simp only[Option.some.injEq]at eU
   exact⟨_,eU.symm, .inl ⟨hg,rfl⟩⟩
 · rename_i j want hg
   split at eU
   · rename_i d hd
     simp only[Option.some.injEq]at eU
     exact⟨_,eU.symm, .inr ⟨j,want,d,hg,hd,rfl⟩⟩
   · simp at eU
theorem xL (iI:og P call) {n:Nat} {ops:Array Oper}: ∀ {l:List Oper} {rs:List kp} {k:Nat} {tm:Tr} {hp:HS} {ctr:Nat} {K:Tr→HS→Nat→Bool},
 (∀j,ops[k+j]? =l[j]?)→aQ P ops l=some rs→(rs.all fun o=>fE n o.dst)=true→NF false call P rs tm hp ctr K=true→
 ∃aY hp' bB,K aY hp' bB=true∧ ∀ (M A:Nat→Prop) (ρ:Env) (a:Act) (w:World) (L:TS) (Q:Exit→Act→World→Prop),eR tm L→Rel M A ρ (bg ctr) ⟨n,L,hp⟩ a w→
  (∀a' w',At M A ρ w n aY hp' bB a' w'→Q .normal a' w')→wpOps P ops Q (List.range' k l.length) a w
 | [],rs,k,tm,hp,ctr,K,hl,eU,hd,h=>by
   simp only[aQ,Option.some.injEq]at eU
   subst eU
   refine⟨tm,hp,ctr,h,fun M A ρ a w L Q hL hr hq=>?_⟩
   exact hq _ _ (At.here hL hr)
 |o::l,rs,k,tm,hp,ctr,K,hl,eU,hd,h=>by
  simp only[aQ]at eU
  split at eU
  · rename_i x l' hx hl'
    have hi:ops[k]? =some o:=by simpa using hl 0
    obtain⟨g,rfl,hgd⟩:=kf eU
    simp only[List.all_cons,Bool.and_eq_true]at hd
    simp only[NF]at h
    obtain⟨lT,hp1,c1,h1,h2⟩:=Ae (n:=n) iI hi hx hd.1 hgd h
    obtain⟨tm2,hp2,c2,h3,h4⟩:=xL iI (k:=k+1) (fun j=>by have:=hl (j+1);rw[show k+1+j=k+(j+1) by omega,this];simp) hl' hd.2 h2
    refine⟨tm2,hp2,c2,h3,fun M A ρ a w L Q hL hr hq=>?_⟩
    rw[List.length_cons,List.range'_succ,wpOps_cons]
    refine h1 M A ρ a w L Q _ hL hr fun a' w' uH=>?_
    obtain⟨L1,A1,ρ1,q1,q2,q3,q4,q5⟩:=uH
    exact h4 M A1 ρ1 a' w' L1 Q q1 q2 fun a2 w2 Rk=>hq _ _ (Rk.trans q3 q4 q5)
  · simp at eU
theorem J5 {tm:Tr} {L:TS} (hL:eR tm L) (o:kp) (ctr:Nat):F0 o tm ctr=dP o L ctr:=by
 unfold F0 dP
 rw[lM hL]
theorem xM (jC:kP P dG) {n:Nat} {ops:Array Oper} {o:Oper} {x:Ro} {g:Option (Nat×Bool)} {tm:Tr} {hp:HS} {ctr:Nat} {K:Tr→HS→Nat→Bool}
 (hx:aX P o=some x) (hd:fE n o.dst=true) (hgd:iC ops o g) (hg:g=none∨ ∃d want b,g=some (d,want)∧tm.get (key d)=some (bV b)∧(b==want)=true)
 (h:NG false dG P ⟨o.dst,g,x⟩ tm hp ctr K=true): ∃v hp',rF P n ops o tm hp ctr v hp'∧K (vO tm o.dst v) hp' (ctr+4)=true:=by
 obtain⟨L0,wM⟩:=Ft tm
 unfold NG at h
 split at h
 · rename_i f args lI
   simp only at lI
   subst lI
   rw[lM wM]at h
   obtain⟨us,fP,h⟩:=vz h
   obtain⟨v,hp',hc,h⟩:=jC _ _ _ _ _ h
   rw[cF,ix,dO]at h
   obtain⟨kX,yz⟩:=tV (n:=n) (hp:=hp) hx wM fP
   refine⟨v,hp',fun L hL=>⟨hd,?_⟩,h⟩
   rw[guard_true hL hgd hg]
   simp only[yz L hL]
   exact⟨kX,hc⟩
 · rename_i y args lI
   simp only at lI
   subst lI
   have h':=h
   rw[lM wM]at h'
   obtain⟨us,fP,h'⟩:=vz h'
   rw[←lM wM]at h'
   obtain⟨f,fL,h1,yz⟩:=rz (n:=n) (hp:=hp) hx wM fP h'
   obtain⟨kX,h1⟩:=bq h1
   obtain⟨v,hp',hc,h1⟩:=jC _ _ _ _ _ h1
   rw[cF,ix,dO]at h1
   refine⟨v,hp',fun L hL=>⟨hd,?_⟩,h1⟩
   rw[guard_true hL hgd hg]
   simp only[yz L hL]
   exact⟨kX,hc⟩
 · rename_i op ty lI
   simp only at lI
   subst lI
   obtain⟨rfl,rfl⟩:=eB hx
   split at h
   · rename_i v hp' he
     rw[cF,ix,dO]at h
     refine⟨v,hp',fun L hL=>⟨hd,?_⟩,h⟩
     rw[guard_true hL hgd hg]
     rw[tO,get_eq hL n hp]at he
     have hno:bL (St.get ⟨n,L,hp⟩) o=none:=by
      cases hc:bL (St.get ⟨n,L,hp⟩) o with
      |none=>rfl
      |some p=>
       exfalso
       exact Df hc he
     simp only[hno]
     exact he
   · simp at h
 · obtain⟨v,hp',hs,hK⟩:=Gu (n:=n) hx hd hgd hg ⟨L0,wM⟩ h
   rw[ix,dO]at hK
   exact⟨_,_,hs,hK⟩
theorem Ff (jC:kP P dG) {n:Nat} {ops:Array Oper} {o:Oper} {x:Ro} {g:Option (Nat×Bool)} {tm:Tr} {hp:HS} {ctr:Nat} {K:Tr→HS→Nat→Bool}
 (hx:aX P o=some x) (hd:fE n o.dst=true) (hgd:iC ops o g)
 (h:SM false dG P ⟨o.dst,g,x⟩ tm hp ctr K=true): ∃v hp',rF P n ops o tm hp ctr v hp'∧K (vO tm o.dst v) hp' (ctr+4)=true:=by
 unfold SM at h
 have skip:(∃d want,g=some (d,want)∧((∃b,tm.get (key d)=some (bV b)∧(b==want)=false)∨tm.get (key d)=some (.ef [])))→(kS tm o.dst (.ef []) fun tm=>ox (ctr+4) fun c=>K tm hp c)=true→
  ∃v hp',rF P n ops o tm hp ctr v hp'∧K (vO tm o.dst v) hp' (ctr+4)=true:=by
  intro hg h
  rw[ix,dO]at h
  exact⟨_,_,vK hd hgd hg,h⟩
 split at h
 · rename_i Xo
   simp only at Xo
   exact xM jC hx hd hgd (.inl Xo) h
 · rename_i d want Mn
   simp only at Mn
   split at h
   · rename_i b hb
     cases Mr:(b==want)with
     |true=>
      rw[Mr]at h
      exact xM jC hx hd hgd (.inr ⟨d,want,b,Mn,hb,Mr⟩) h
     |false=>
      rw[Mr]at h
      exact skip ⟨d,want,Mn, .inl ⟨b,hb,Mr⟩⟩ h
   · rename_i hb
     exact skip ⟨d,want,Mn, .inr hb⟩ h
   · simp at h
theorem ud (jC:kP P dG) {ops:Array Oper} {n base:Nat} {K:List iD→Tr→HS→Nat→Bool}: ∀ {l:List Oper} {rs:List kp} {k:Nat} {HF:List iD} {tm:Tr} {hp:HS},aQ P ops l=some rs→
 (rs.all fun o=>fE n o.dst)=true→HF.length=k→DH false dG P rs HF tm hp (base+4 * k) K=true→
 ∃ (IE:Nat→Tr) (hpT:Nat→HS) (v:Nat→V) (fs:List iD),K fs (IE (k+l.length)) (hpT (k+l.length)) (base+4 * (k+l.length))=true∧(∀i,i < k→fs[i]? =HF[i]?)∧IE k=tm∧hpT k=hp∧
  ∀j o,l[j]? =some o→rF P n ops o (IE (k+j)) (hpT (k+j)) (base+4 * (k+j)) (v (k+j)) (hpT (k+j+1))∧IE (k+j+1)=vO (IE (k+j)) o.dst (v (k+j))∧
   ∃f,fs[k+j]? =some f∧f.dst=o.dst∧ ∀L,eR (IE (k+j)) L→(∀t,t∈names ops o→t∈f.nm)∧(∀q,q∈jG (St.get ⟨n,L,hpT (k+j)⟩) o→q∈f.rd)∧(∀q,q∈uZ (St.get ⟨n,L,hpT (k+j)⟩) (base+4 * (k+j)) o→q∈f.wr)
 | [],rs,k,HF,tm,hp,eU,hd,hk,h=>by
   simp only[aQ,Option.some.injEq]at eU
   subst eU
   exact⟨fun _=>tm,fun _=>hp,fun _=> .undef,HF,by simpa[DH]using h,fun _ _=>rfl,rfl,rfl,fun j o hj=>by simp at hj⟩
 |o::l,rs,k,HF,tm,hp,eU,hd,hk,h=>by
  simp only[aQ]at eU
  split at eU
  · rename_i x l' hx hl'
    obtain⟨g,rfl,hgd⟩:=kf eU
    simp only[List.all_cons,Bool.and_eq_true]at hd
    simp only[DH]at h
    obtain⟨v0,hp',hst,hK⟩:=Ff (n:=n) (ops:=ops) jC hx hd.1 hgd h
    rw[show base+4 * k+4=base+4 * (k+1) by omega]at hK
    obtain⟨IE,hpT,v,fs,q1,q2,q3,q4,q5⟩:=ud jC (k:=k+1) hl' hd.2 (by simp[hk]) hK
    have CX:fs[k]? =some (F0 ⟨o.dst,g,x⟩ tm (base+4 * k)):=by
     rw[q2 k (by omega),List.getElem?_append_right (by omega),hk];simp
    refine⟨fun i=>if i=k then tm else IE i,fun i=>if i=k then hp else hpT i,fun i=>if i=k then v0 else v i,fs,?_,?_,?_,?_,?_⟩
    · have e1:k+(o::l).length=k+1+l.length:=by simp;omega
      have e2:¬k+1+l.length=k:=by omega
      simp only[e1,e2,if_false]
      exact q1
    · intro i hi'
      rw[q2 i (by omega),List.getElem?_append_left (by omega)]
    · simp
    · simp
    · intro j oj hj
      cases j with
      |zero=>
       simp only[List.getElem?_cons_zero,Option.some.injEq]at hj
       subst hj
       have e2:¬k+1=k:=by omega
       simp only[Nat.add_zero,if_true,e2,if_false,q4,q3]
       refine⟨hst,trivial,_,CX,rfl,fun L hL=>?_⟩
       have JN:=zM (ops:=ops) (n:=n) (ctr:=base+4 * k) (tm:=L) (hp:=hp) hx hgd
       rw[J5 hL]
       exact JN.2
      |succ j=>
       have:=q5 j oj (by simpa using hj)
       have e1:¬k+(j+1)=k:=by omega
       have e2:¬k+(j+1)+1=k:=by omega
       simp only[e1,e2,if_false]
       rw[show k+(j+1)=k+1+j by omega]
       exact this
  · simp at eU
theorem j4 {all:Array Oper}: ∀ {l:List Oper} {rs:List kp},aQ P all l=some rs→rs.length=l.length
 | [],rs,h=>by simp only[aQ,Option.some.injEq]at h;subst h;rfl
 |o::l,rs,h=>by
  simp only[aQ]at h
  split at h
  · rename_i x l' hx hl'
    obtain⟨g,rfl,_⟩:=kf h
    simp[j4 hl']
  · simp at h
theorem oQ (bits:List Nat) (N:Nat): ∀ (j:Nat) (rs:List kp),rs=(ca bits N j rs).1++(ca bits N j rs).2∧
 (∀o r,(ca bits N j rs).2=o::r→CH bits N (j+(ca bits N j rs).1.length)=true)
 |j,[]=>⟨rfl,fun o r h=>by simp[ca]at h⟩
 |j,x::q=>by
  obtain⟨h1,h2⟩:=oQ bits N (j+1) q
  cases hp:CH bits N j with
  |true=>
   have e:ca bits N j (x::q)=([],x::q):=by simp only[ca,hp,gQ]
   rw[e]
   exact⟨rfl,fun o r _=>by simpa using hp⟩
  |false=>
   have e:ca bits N j (x::q)=(x::(ca bits N (j+1) q).1,(ca bits N (j+1) q).2):=by simp only[ca,hp,gQ]
   rw[e]
   refine⟨by simp only[List.cons_append, ←h1],fun o r h=>?_⟩
   have:=h2 o r h
   rw[show j+(x::(ca bits N (j+1) q).1).length=j+1+(ca bits N (j+1) q).1.length by simp;omega]
   exact this
theorem kA {all:Array Oper}: ∀ {a b:List kp} {l:List Oper},aQ P all l=some (a++b)→ ∃l1 l2,l=l1++l2∧aQ P all l1=some a∧aQ P all l2=some b∧l1.length=a.length
 | [],b,l,h=>⟨[],l,rfl,rfl,h,rfl⟩
 |x::a,b,[],h=>by simp[aQ]at h
 |x::a,b,o::l,h=>by
  simp only[aQ]at h
  split at h
  · rename_i y l' hy hl'
    have XA: ∃g,(⟨o.dst,g,y⟩:kp)=x∧l'=a++b∧ ∀l'',(match o.guard with
     |none=>some ((⟨o.dst,none,y⟩:kp)::l'')
     |some (j,want)=>match(all[j]?).bind (·.dst)with
      |some d=>some ((⟨o.dst,some (d,want),y⟩:kp)::l'')
      |none=>none)=some ((⟨o.dst,g,y⟩:kp)::l''):=by
     split at h
     · rename_i hg
       simp only[List.cons_append,Option.some.injEq,List.cons.injEq]at h
       exact⟨none,h.1,h.2,fun l''=>by simp only[hg]⟩
     · rename_i j want hg
       split at h
       · rename_i d hd
         simp only[List.cons_append,Option.some.injEq,List.cons.injEq]at h
         exact⟨some (d,want),h.1,h.2,fun l''=>by simp only[hg,hd]⟩
       · simp at h
    obtain⟨g,rfl,rfl,hg⟩:=XA
    obtain⟨l1,l2,rfl,h1,h2,h3⟩:=kA hl'
    exact⟨o::l1,l2,rfl,by simp only[aQ,hy,h1];exact hg a,h2,by simp[h3]⟩
  · simp at h
theorem rC {p:Nat→Bool} {n:Nat} (h:(List.range n).all p=true) {i:Nat} (hi:i < n):p i=true:=List.all_eq_true.1 h i (List.mem_range.2 hi)
theorem El {bits:List Nat} {N j:Nat} (h:CH bits N j=true):(∀i,i < j→(bits.getD j 0).testBit i=true)∧ ∀k,j < k→k < N→(bits.getD k 0).testBit j=true:=by
 simp only[CH,Bool.and_eq_true]at h
 refine⟨fun i hi=>rC h.1 hi,fun k h1 h2=>?_⟩
 have:=rC h.2 (i:=k - (j+1)) (by omega)
 rw[show j+1+(k - (j+1))=k by omega]at this
 exact this
theorem BS (iI:og P call) (jC:kP P dG) {n:Nat} {ops:Array Oper} (hE: ∀i o,ops[i]? =some o→ ∀e,e∈aZ o→e < i): ∀ {f lo:Nat} {l:List Oper} {rs:List kp} {tm:Tr} {hp:HS} {ctr:Nat} {K:Tr→HS→Nat→Bool},
 (∀j,ops[lo+j]? =l[j]?)→lo+l.length=ops.size→aQ P ops l=some rs→(rs.all fun o=>fE n o.dst)=true→xN false call dG P (kZ (ops.toList.map aZ) []) ops.size f lo rs tm hp ctr K=true→
 ∃aY hp' bB,K aY hp' bB=true∧ ∀ (M A:Nat→Prop) (ρ:Env) (a:Act) (w:World) (L:TS) (Q:Exit→Act→World→Prop),eR tm L→Rel M A ρ (bg ctr) ⟨n,L,hp⟩ a w→
  (∀a' w',At M A ρ w n aY hp' bB a' w'→Q .normal a' w')→ ∀ (fuel:Nat) (listed:Array Bool),listed.size=ops.size→(∀i,i < ops.size→listed.getD i false=decide (i < lo))→ops.size - lo≤fuel→wpAny P .any ops Q fuel listed a w:=by
 intro f
 induction f with
 |zero=>intro lo l rs tm hp ctr K _ _ _ _ h;simp[xN]at h
 |succ f ih=>
  intro lo l rs tm hp ctr K hl hlen eU hd h
  simp only[xN]at h
  obtain⟨hsp,JF⟩:=oQ (kZ (ops.toList.map aZ) []) ops.size lo rs
  revert h
  generalize (ca (kZ (ops.toList.map aZ) []) ops.size lo rs).1=dK at hsp JF
  generalize (ca (kZ (ops.toList.map aZ) []) ops.size lo rs).2=rest at hsp JF
  intro h
  subst hsp
  obtain⟨l1,l2,rfl,tF,uD,zG⟩:=kA eU
  simp only[List.all_append,Bool.and_eq_true]at hd
  obtain⟨IE,hpT,v,fs,q1,_,q3,q4,q5⟩:=ud (P:=P) jC (ops:=ops) (n:=n) (base:=ctr) (k:=0) (l:=l1) tF hd.1 rfl (by simpa using h)
  obtain⟨qc,q1⟩:=bq q1
  simp only[Bool.and_eq_true]at qc
  obtain⟨qs,ql⟩:=qc
  simp only[Nat.zero_add]at q1 q5
  have hlm:lo+l1.length≤ops.size:=by rw[←hlen];simp
  have hop: ∀i,i < l1.length→ops[lo+i]? =l1[i]? :=fun i hi=>by rw[hl i,List.getElem?_append_left hi]
  have Et: ∀k,lo+l1.length≤k→k < ops.size→ ∀i,i < l1.length→((kZ (ops.toList.map aZ) []).getD k 0).testBit (lo+i)=true:=by
   intro k hk hk' i hi
   unfold FL at ql
   rw[←zG]at ql
   have:=rC (rC ql (i:=k - (lo+l1.length)) (by omega)) hi
   rw[show lo+l1.length+(k - (lo+l1.length))=k by omega]at this
   exact this
  have Fx: ∀ (M A:Nat→Prop) (ρ:Env) (a:Act) (w:World) (L:TS) (Q:Exit→Act→World→Prop),eR tm L→Rel M A ρ (bg ctr) ⟨n,L,hp⟩ a w→
   (∀ (fuel:Nat) (listed:Array Bool) (a':Act) (w':World),listed.size=ops.size→(∀i,i < ops.size→listed.getD i false=decide (i < lo+l1.length))→ops.size - (lo+l1.length)≤fuel→
     At M A ρ w n (IE l1.length) (hpT l1.length) (ctr+4 * l1.length) a' w'→wpAny P .any ops Q fuel listed a' w')→
   ∀ (fuel:Nat) (listed:Array Bool),listed.size=ops.size→(∀i,i < ops.size→listed.getD i false=decide (i < lo))→ops.size - lo≤fuel→wpAny P .any ops Q fuel listed a w:=by
   intro M A ρ a w L Q hL bR JJ
   rw[←q3]at hL
   let Ls:Nat→TS:=fun i=>Nat.rec L (fun i l=>dj l ((l1[i]?).bind (·.dst)) (v i)) i
   have hLs: ∀i,i≤l1.length→eR (IE i) (Ls i):=by
    intro i
    induction i with
    |zero=>intro _;exact hL
    |succ i ihi=>
     intro hi
     have ho:l1[i]? =some l1[i]:=by simp[show i < l1.length by omega]
     have:=(q5 i l1[i] ho).2.1
     rw[this]
     have h2:=(ihi (by omega)).put (l1[i].dst) (v i)
     have e:Ls (i+1)=dj (Ls i) l1[i].dst (v i):=by
      show dj (Ls i) ((l1[i]?).bind (·.dst)) (v i)=_
      rw[ho];rfl
     rw[e]
     exact h2
   have CS:Rel M A ρ (bg ctr) ⟨n,Ls 0,hpT 0⟩ a w:=by rw[q4];exact bR
   refine GJ (v:=v) (tmT:=Ls) (hpT:=hpT) (base:=ctr) (fs:=fs) hlm (fun i o hi ho=>?_) hE qs Et CS ?_
   · rw[hop i hi]at ho
     obtain⟨s1,s2,f,f1,f2,f3⟩:=q5 i o ho
     refine⟨s1 _ (hLs i (by omega)),fun t=>?_,f,f1,f2,f3 _ (hLs i (by omega))⟩
     show find (dj (Ls i) ((l1[i]?).bind (·.dst)) (v i)) t=_
     rw[ho];rfl
   · rintro fuel listed a' w' hsz pX If ⟨st',c',A',ρ',⟨rfl,rfl⟩,h2,h3,h4,h5⟩
     exact JJ fuel listed a' w' hsz pX If ⟨_,A',ρ',hLs _ (Nat.le_refl _),h2,h3,h4,h5⟩
  cases rest with
  |nil=>
   simp only at q1
   have qX:l2=[]:=by
    cases l2 with
    |nil=>rfl
    |cons o r=>have:=j4 uD;simp at this
   subst qX
   simp only[List.append_nil]at hlen
   refine⟨_,_,_,q1,fun M A ρ a w L Q hL bR hQ fuel listed hsz pX If=>Fx M A ρ a w L Q hL bR (fun fuel listed a' w' hsz pX If uH=>?_) fuel listed hsz pX If⟩
   have hq:=hQ a' w' uH
   have CV:Region.ready .any ops listed=[]:=by
    apply List.eq_nil_iff_forall_not_mem.2
    intro i hi
    rw[mem_ready]at hi
    obtain⟨h0,o,ho,_⟩:=hi
    have hlt:i < ops.size:=(Array.getElem?_eq_some_iff.1 ho).1
    have:=pX i hlt
    simp only[Array.getD_eq_getD_getElem?]at this h0
    have kr:i < listed.size:=by omega
    simp[kr]at this h0
    simp[this]at h0
    omega
   cases fuel with
   |zero=>exact⟨CV,hq⟩
   |succ fuel=>exact⟨fun _=>hq,fun i hi=>by rw[CV]at hi;simp at hi⟩
  |cons p r=>
   simp only at q1
   cases l2 with
   |nil=>simp[aQ]at uD
   |cons o l2=>
    simp only[aQ]at uD
    split at uD
    · rename_i x l' hx hl'
      obtain⟨g,WX,hgd⟩:=kf uD
      simp only[List.cons.injEq]at WX
      obtain⟨rfl,rfl⟩:=WX
      simp only[List.all_cons,Bool.and_eq_true]at hd
      have hi:ops[lo+l1.length]? =some o:=by rw[hl l1.length,List.getElem?_append_right (Nat.le_refl _)];simp
      obtain⟨lT,hp1,c1,r1,r2⟩:=Ae (n:=n) iI hi hx hd.2.1 hgd q1
      rw[←zG]at r2
      obtain⟨tm2,hp2,c2,r3,r4⟩:=ih (lo:=lo+l1.length+1) (l:=l2) (fun j=>by
       rw[show lo+l1.length+1+j=lo+(l1.length+(j+1)) by omega,hl,List.getElem?_append_right (by omega)]
       rw[show l1.length+(j+1) - l1.length=j+1 by omega]
       simp) (by rw[←hlen];simp;omega) hl' hd.2.2 r2
      have WW:=El (JF _ _ rfl)
      rw[←zG]at WW
      refine⟨tm2,hp2,c2,r3,fun M A ρ a w L Q hL bR hQ fuel listed hsz pX If=>Fx M A ρ a w L Q hL bR (fun fuel listed a' w' hsz pX If uH=>?_) fuel listed hsz pX If⟩
      have hps:lo+l1.length < ops.size:=(Array.getElem?_eq_some_iff.1 hi).1
      obtain⟨fuel,rfl⟩: ∃f,fuel=f+1:=⟨fuel - 1,by omega⟩
      obtain⟨L1,A1,ρ1,t1,t2,t3,t4,t5⟩:=uH
      have hclosed: ∀k o',ops[k]? =some o'→listed.getD k false=true→ ∀e,e∈aZ o'→listed.getD e false=true:=by
       intro k o' xR hk e he
       have hks:k < ops.size:=(Array.getElem?_eq_some_iff.1 xR).1
       rw[pX k hks]at hk
       have:=hE k o' xR e he
       rw[pX e (by omega)]
       simp at hk⊢
       omega
      refine⟨fun CV=>?_,fun i hir=>?_⟩
      · exfalso
        have:lo+l1.length∈Region.ready .any ops listed:=by
         rw[mem_ready]
         refine⟨?_,o,hi,fun e he hb=>?_⟩
         · have:=pX _ hps
           simp only[Array.getD_eq_getD_getElem?]at this⊢
           have kr:lo+l1.length < listed.size:=by omega
           simp[kr]at this⊢
           exact this
         · have hm:e.on∈aZ o:=by simp only[aZ,List.mem_map,List.mem_filter];exact⟨e,⟨by simpa using he,hb⟩,rfl⟩
           have:=hE _ o hi _ hm
           rw[pX e.on (by omega)]
           simp
           omega
        rw[CV]at this
        simp at this
      · rw[mem_ready]at hir
        obtain⟨h0,oi,hoi,wI⟩:=hir
        have his:i < ops.size:=(Array.getElem?_eq_some_iff.1 hoi).1
        have Hy:listed.getD i false=false:=by
         simp only[Array.getD_eq_getD_getElem?]at h0⊢
         have kr:i < listed.size:=by omega
         simpa[kr]using h0
        have hge:lo+l1.length≤i:=by
         rw[pX i his]at Hy
         simp at Hy
         omega
        have hip:i=lo+l1.length:=by
         rcases Nat.eq_or_lt_of_le hge with h|h
         · exact h.symm
         · exfalso
           have hb:=WW.2 i h his
           have XM: ∀ (i:Nat) (es:List Nat),(ops.toList.map aZ)[i]? =some es→ ∀e,e∈es→e < i:=by
            intro i es h e he
            simp only[List.getElem?_map,Array.getElem?_toList,Option.map_eq_some_iff]at h
            obtain⟨o,ho,rfl⟩:=h
            exact hE i o ho e he
           have:=(qg (L:=fun k=>listed.getD k false) XM i (by simpa using his) (fun k es _ Hx jI e he=>by
            simp only[List.getElem?_map,Array.getElem?_toList,Option.map_eq_some_iff]at jI
            obtain⟨o,ho,rfl⟩:=jI
            exact hclosed k o ho Hx e he) (fun es jI e he=>by
            simp only[List.getElem?_map,Array.getElem?_toList,Option.map_eq_some_iff]at jI
            obtain⟨o',xR,rfl⟩:=jI
            rw[hoi]at xR
            simp only[Option.some.injEq]at xR
            subst xR
            simp only[aZ,List.mem_map,List.mem_filter]at he
            obtain⟨ed,⟨g1,g2⟩,rfl⟩:=he
            exact wI ed (by simpa using g1) g2) _ hb).1
           rw[pX _ hps]at this
           simp at this
        subst hip
        refine r1 M A1 ρ1 a' w' L1 Q _ t1 t2 fun a2 w2 Rk=>?_
        obtain⟨L2,A2,ρ2,u1,u2,u3,u4,u5⟩:=Rk
        refine r4 M A2 ρ2 a2 w2 L2 Q u1 u2 (fun a3 w3 aiI=>hQ a3 w3 ((aiI.trans u3 u4 u5).trans t3 t4 t5)) fuel _ (by simpa using hsz) (fun k hk=>?_) (by omega)
        by_cases hk':k=lo+l1.length
        · subst hk'
          have kr:lo+l1.length < listed.size:=by omega
          simp[Array.getD_eq_getD_getElem?,kr]
        · have:=getD_set_ne (listed:=listed) false (fun e:lo+l1.length=k=>hk' e.symm)
          rw[this,pX k hk]
          simp only[decide_eq_decide]
          omega
    · simp at uD
theorem Gs (iI:og P call) (jC:kP P dG) {n fuel:Nat}: ∀ {c:Code} {r:Rc},aC P c=some r→ga n r=true→ ∀ {Q:Exit→Tr→HS→Nat→Bool} {tm:Tr} {hp:HS} {ctr:Nat},E false call dG P fuel r Q tm hp ctr=true→
 ∃e aY hp' bB,Q e aY hp' bB=true∧Ts P n c tm hp ctr e aY hp' bB:=by
 intro c
 induction c with
 |skip=>
  intro r hr hd Q tm hp ctr h
  simp only[aC,Option.some.injEq]at hr
  subst hr
  exact⟨_,_,_,_,h,fun M A ρ a w L hL bR=>wp_skip ⟨rfl,At.here hL bR⟩⟩
 |ret=>
  intro r hr hd Q tm hp ctr h
  simp only[aC,Option.some.injEq]at hr
  subst hr
  exact⟨_,_,_,_,h,fun M A ρ a w L hL bR=>wp_ret ⟨rfl,At.here hL bR⟩⟩
 |exit id=>
  intro r hr hd Q tm hp ctr h
  simp only[aC,Option.some.injEq]at hr
  subst hr
  exact⟨_,_,_,_,h,fun M A ρ a w L hL bR=>wp_exit ⟨rfl,At.here hL bR⟩⟩
 |seq x y Jv Ju=>
  intro r hr hd Q tm hp ctr h
  simp only[aC]at hr
  split at hr
  · rename_i rx ry hx hy
    simp only[Option.some.injEq]at hr
    subst hr
    simp only[ga,Bool.and_eq_true]at hd
    simp only[E]at h
    obtain⟨e1,lT,hp1,c1,h1,h2⟩:=Jv hx hd.1 h
    cases e1 with
    |normal=>
     obtain⟨e2,tm2,hp2,c2,h3,h4⟩:=Ju hy hd.2 h1
     refine⟨e2,tm2,hp2,c2,h3,fun M A ρ a w L hL bR=>wp_seq (wp_mono (h2 M A ρ a w L hL bR) ?_)⟩
     rintro e a' w' ⟨rfl,L1,A1,ρ1,q1,q2,q3,q4,q5⟩
     exact wp_mono (h4 M A1 ρ1 a' w' L1 q1 q2) fun e a2 w2 ⟨he,uH⟩=>⟨he,uH.trans q3 q4 q5⟩
    |_=>
     refine⟨_,lT,hp1,c1,h1,fun M A ρ a w L hL bR=>wp_seq (wp_mono (h2 M A ρ a w L hL bR) ?_)⟩
     rintro e a' w' ⟨rfl,uH⟩
     exact⟨rfl,uH⟩
  · simp at hr
 |cond c x y Jv Ju=>
  intro r hr hd Q tm hp ctr h
  simp only[aC]at hr
  split at hr
  · rename_i rx ry hx hy
    simp only[Option.some.injEq]at hr
    subst hr
    simp only[ga,Bool.and_eq_true]at hd
    simp only[E]at h
    split at h
    · rename_i b hb
      have hb': ∀L,eR tm L→((⟨n,L,hp⟩:St).get c).gA =some b:=fun L hL=>by
       rw[←bj]
       rw[lM hL]at hb
       exact hb
      cases b with
      |true=>
       obtain⟨e1,lT,hp1,c1,h1,h2⟩:=Jv hx hd.1 h
       exact⟨e1,lT,hp1,c1,h1,fun M A ρ a w L hL bR=>wp_cond (V.iX (hb' L hL) (bR.get c)) (h2 M A ρ a w L hL bR)⟩
      |false=>
       obtain⟨e1,lT,hp1,c1,h1,h2⟩:=Ju hy hd.2 h
       exact⟨e1,lT,hp1,c1,h1,fun M A ρ a w L hL bR=>wp_cond (V.iX (hb' L hL) (bR.get c)) (h2 M A ρ a w L hL bR)⟩
    · simp at h
  · simp at hr
 |block id b ih=>
  intro r hr hd Q tm hp ctr h
  simp only[aC]at hr
  split at hr
  · rename_i rb hb
    simp only[Option.some.injEq]at hr
    subst hr
    simp only[ga]at hd
    simp only[E]at h
    obtain⟨e1,lT,hp1,c1,h1,h2⟩:=ih hb hd h
    cases e1 with
    |exit id'=>
     simp only[Ko]at h1
     cases bG:Nat.beq id' id with
     |true=>
      rw[bG]at h1
      have Ml:id'=id:=by simpa using bG
      refine⟨_,lT,hp1,c1,h1,fun M A ρ a w L hL bR=>wp_block (wp_mono (h2 M A ρ a w L hL bR) ?_)⟩
      rintro e a' w' ⟨rfl,uH⟩
      simp only[Exit.inBlock,Ml,if_true]
      exact⟨trivial,uH⟩
     |false=>
      rw[bG]at h1
      have Ml:¬id'=id:=by
       intro h;subst h;simp at bG
      refine⟨_,lT,hp1,c1,h1,fun M A ρ a w L hL bR=>wp_block (wp_mono (h2 M A ρ a w L hL bR) ?_)⟩
      rintro e a' w' ⟨rfl,uH⟩
      simp only[Exit.inBlock,Ml,if_false]
      exact⟨trivial,uH⟩
    |_=>
     refine⟨_,lT,hp1,c1,h1,fun M A ρ a w L hL bR=>wp_block (wp_mono (h2 M A ρ a w L hL bR) ?_)⟩
     rintro e a' w' ⟨rfl,uH⟩
     exact⟨rfl,uH⟩
  · simp at hr
 |loop b ih=>
  intro r hr hd Q tm hp ctr h
  simp only[aC]at hr
  split at hr
  · rename_i rb hb
    simp only[Option.some.injEq]at hr
    subst hr
    simp only[ga]at hd
    simp only[E]at h
    have key: ∀ (k:Nat) (tm:Tr) (hp:HS) (ctr:Nat),Di false (fun self=>E false call dG P fuel rb (Kb self Q)) k tm hp ctr=true→
     ∃e aY hp' bB,Q e aY hp' bB=true∧ ∀ (M A:Nat→Prop) (ρ:Env) (a:Act) (w:World) (L:TS) (b':Frame) (kk:List _) (cs:List _),eR tm L→Rel M A ρ (bg ctr) ⟨n,L,hp⟩ a w→
      ∃a' w',At M A ρ w n aY hp' bB a' w'∧Arrives P (lone (b'.at a (.code b:: .inLoop b::kk)) cs w) b' kk cs e a' w':=by
     intro k
     induction k with
     |zero=>intro tm hp ctr h;simp[Di]at h
     |succ k ihk=>
      intro tm hp ctr h
      simp only[Di]at h
      obtain⟨e1,lT,hp1,c1,h1,h2⟩:=ih hb hd h
      cases e1 with
      |normal=>
       obtain⟨e2,tm2,hp2,c2,h3,h4⟩:=ihk lT hp1 c1 h1
       refine⟨e2,tm2,hp2,c2,h3,fun M A ρ a w L b' kk cs hL bR=>?_⟩
       obtain⟨e,a1,w1,⟨rfl,L1,A1,ρ1,q1,q2,q3,q4,q5⟩,fD⟩:=h2 M A ρ a w L hL bR b' (.inLoop b::kk) cs
       obtain⟨a2,w2,uH,qY⟩:=h4 M A1 ρ1 a1 w1 L1 b' kk cs q1 q2
       exact⟨a2,w2,uH.trans q3 q4 q5, .of_steps (Steps.trans fD (.one step_inLoop)) qY⟩
      |_=>
       refine⟨_,lT,hp1,c1,h1,fun M A ρ a w L b' kk cs hL bR=>?_⟩
       obtain⟨e,a1,w1,⟨rfl,uH⟩,fD⟩:=h2 M A ρ a w L hL bR b' (.inLoop b::kk) cs
       exact⟨a1,w1,uH, .pass (x:= .inLoop b) rfl (fun _ _=> .inl (by simp)) fD⟩
    obtain⟨e,aY,hp',bB,h1,h2⟩:=key fuel tm hp ctr h
    refine⟨e,aY,hp',bB,h1,fun M A ρ a w L hL bR b' kk cs=>?_⟩
    obtain⟨a',w',uH,fD⟩:=h2 M A ρ a w L b' kk cs hL bR
    exact⟨e,a',w',⟨rfl,uH⟩, .of_steps (.one step_loop) fD⟩
  · simp at hr
 |region id ops d=>
  intro r hr hd Q tm hp ctr h
  cases d with
  |true=>
   simp only[aC]at hr
   split at hr
   · rename_i l hl
     split at hr
     · rename_i hc
       simp only[Bool.and_eq_true]at hc
       simp only[Option.some.injEq]at hr
       subst hr
       simp only[ga]at hd
       simp only[E]at h
       have hE: ∀i o,ops[i]? =some o→ ∀e,e∈aZ o→e < i:=by
        intro i o ho e he
        have:=jR hc.2 i (aZ o) (by simp[ho]) e he
        omega
       have zG:=j4 hl
       rw[zG]at h
       obtain⟨aY,hp',bB,h1,h2⟩:=BS iI jC (n:=n) hE (lo:=0) (l:=ops.toList) (fun j=>by simp) (by simp) hl hd (by simpa using h)
       refine⟨_,_,_,_,h1,fun M A ρ a w L hL bR=>wp_region_any hc.1 ?_⟩
       refine h2 M A ρ a _ L _ hL bR.drew (fun a' w' uH=>?_) ops.size _ (by simp) (fun i hi=>by simp[hi]) (by omega)
       exact⟨rfl,uH.trans (cJ.drew M w) (cN.refl _) (bp.refl _ _)⟩
     · simp at hr
   · simp at hr
  |false=>
   simp only[aC]at hr
   split at hr
   · rename_i l hl
     simp only[Option.some.injEq]at hr
     subst hr
     simp only[ga]at hd
     simp only[E]at h
     obtain⟨aY,hp',bB,h1,h2⟩:=xL iI (n:=n) (ops:=ops) (k:=0) (l:=ops.toList) (fun j=>by simp) hl hd h
     refine⟨_,_,_,_,h1,fun M A ρ a w L hL bR=>wp_region ?_⟩
     have:=h2 M A ρ a w L (fun e2 a' w'=>e2= .normal∧At M A ρ w n aY hp' bB a' w') hL bR (fun _ _ uH=>⟨rfl,uH⟩)
     rw[List.range_eq_range']
     simpa using this
   · simp at hr
 |_=>intro r hr;simp[aC]at hr
end Go.aR
end
section
namespace Go.aR
open Go
inductive Rv where
 |tmp (t:Nat)
 |cell (t:Nat) (n:Option Nat)
def cP (P:Program):List ResultVar→Option (List Rv)
 | []=>some []
 | .tmp t::r=>match cP P r with
   |some l=>some (.tmp t::l)
   |none=>none
 | .cell t ty::r=>match D1 P ty,cP P r with
   |some n,some l=>some (.cell t n::l)
   |_,_=>none
section
variable {α:Type} (bad:α)
def vT (tm:Tr) (hp:HS):List Rv→(List W→α)→α
 | [],k=>k []
 | .tmp t::r,k=>match tm.get (key t)with
   |some (.w u)=>vT tm hp r fun us=>k (u::us)
   |_=>bad
 | .cell t n::r,k=>match tm.get (key t)with
   |some (.w (.one c))=>Bz bad hp c fun cs j=>Cs bad n cs j fun v=>match v with
    | .w u=>vT tm hp r fun us=>k (u::us)
    |_=>bad
   |_=>bad
def oZ {β γ:Type} (f:β→(γ→α)→α):List β→(List γ→α)→α
 | [],k=>k []
 |x::r,k=>f x fun y=>oZ f r fun l=>k (y::l)
def ku:Nat→HS→C→(T→α)→α
 |_,_, .t x,k=>k x
 |0,_,_,_=>bad
 |d+1,hp, .own id sz i len,k=>match find hp id with
  |some (.row sz' xs)=>gQ (Nat.beq sz' sz&&Nat.ble (i+len) xs.length) (oZ (oZ (ku d hp)) ((xs.drop i).take len) fun ts=>k (.aA sz ts)) bad
  |_=>bad
 |_+1,_,_,_=>bad
def J4 (hp:HS):W→(W→α)→α
 | .one c,k=>ku bad 6 hp c fun t=>k (.one (.t t))
 | .agg cs,k=>oZ (ku bad 6 hp) cs fun ts=>k (.agg (ts.map .t))
end
def bE {β γ:Type} (f:β→Option γ):List β→Option (List γ)
 | []=>some []
 |x::r=>match f x,bE f r with
  |some y,some l=>some (y::l)
  |_,_=>none
def cW:Nat→HS→C→Option T
 |_,_, .t x=>some x
 |0,_,_=>none
 |d+1,hp, .own id sz i len=>match find hp id with
  |some (.row sz' xs)=>if sz'=sz∧i+len≤xs.length then(bE (bE (cW d hp)) ((xs.drop i).take len)).map (.aA sz)else none
  |_=>none
 |_+1,_,_=>none
theorem lF {β γ:Type} {f:β→(γ→Bool)→Bool} {g:β→Option γ} (hf: ∀x k,f x k=true→ ∃y,g x=some y∧k y=true): ∀ {l:List β} {k:List γ→Bool},oZ f l k=true→ ∃l',bE g l=some l'∧k l'=true
 | [],k,h=>⟨[],rfl,h⟩
 |x::r,k,h=>by
  simp only[oZ]at h
  obtain⟨y,h1,h2⟩:=hf _ _ h
  obtain⟨l',h3,h4⟩:=lF hf h2
  exact⟨_,by simp only[bE,h1,h3],h4⟩
theorem Bq: ∀ {d:Nat} {hp:HS} {c:C} {k:T→Bool},ku false d hp c k=true→ ∃t,cW d hp c=some t∧k t=true
 |d,hp, .t x,k,h=>⟨x,by cases d<;>rfl,by cases d<;>exact h⟩
 |0,hp, .own ..,k,h=>by simp[ku]at h
 |0,hp, .ptr ..,k,h=>by simp[ku]at h
 |0,hp, .rJ ..,k,h=>by simp[ku]at h
 |0,hp, .kM ..,k,h=>by simp[ku]at h
 |0,hp, .any,k,h=>by simp[ku]at h
 |0,hp, .map _,k,h=>by simp[ku]at h
 |0,hp, .it _,k,h=>by simp[ku]at h
 |0,hp, .lQ ..,k,h=>by simp[ku]at h
 |0,hp, .pk ..,k,h=>by simp[ku]at h
 |d+1,hp, .own id sz i len,k,h=>by
  simp only[ku]at h
  split at h
  · rename_i sz' xs hf
    obtain⟨hc,h⟩:=bq h
    simp only[Bool.and_eq_true,Nat.beq_eq,Nat.ble_eq]at hc
    obtain⟨ts,h1,h2⟩:=lF (fun x k h=>lF (fun y k h=>Bq h) h) h
    exact⟨_,by simp only[cW,hf,if_pos hc,h1,Option.map_some],h2⟩
  · simp at h
 |d+1,hp, .ptr ..,k,h=>by simp[ku]at h
 |d+1,hp, .rJ ..,k,h=>by simp[ku]at h
 |d+1,hp, .kM ..,k,h=>by simp[ku]at h
 |d+1,hp, .any,k,h=>by simp[ku]at h
 |d+1,hp, .map _,k,h=>by simp[ku]at h
 |d+1,hp, .it _,k,h=>by simp[ku]at h
 |d+1,hp, .lQ ..,k,h=>by simp[ku]at h
 |d+1,hp, .pk ..,k,h=>by simp[ku]at h
theorem gm {β γ:Type} {g:β→Option γ}: ∀ {l:List β} {l':List γ},bE g l=some l'→l'.length=l.length
 | [],l',h=>by simp only[bE,Option.some.injEq]at h;subst h;rfl
 |x::r,l',h=>by
  simp only[bE]at h
  split at h
  · rename_i y l2 h1 h2
    simp only[Option.some.injEq]at h
    subst h
    simp[gm h2]
  · simp at h
theorem dV {β γ:Type} {g:β→Option γ}: ∀ {l:List β} {l':List γ},bE g l=some l'→ ∀ (i:Nat) (y:γ),l'[i]? =some y→ ∃x,l[i]? =some x∧g x=some y
 | [],l',h,i,y,hy=>by simp only[bE,Option.some.injEq]at h;subst h;simp at hy
 |x::r,l',h,i,y,hy=>by
  simp only[bE]at h
  split at h
  · rename_i y' l2 h1 h2
    simp only[Option.some.injEq]at h
    subst h
    cases i with
    |zero=>simp only[List.getElem?_cons_zero,Option.some.injEq]at hy;subst hy;exact⟨x,by simp,h1⟩
    |succ i=>obtain⟨x',h3,h4⟩:=dV h2 i y (by simpa using hy);exact⟨x',by simpa using h3,h4⟩
  · simp at h
variable {P:Program} {M A:Nat→Prop} {ρ:Env} {F:Nat→Prop} {st:St} {a:Act} {w:World}
theorem sJ (h:Rel M A ρ F st a w) {B:Nat→Prop} (XO: ∀b,B b→A b) (hB: ∀id blk b,find st.heap id=some blk→ρ id=some (.fF b)→¬B b):
 ∀ {d:Nat} {c:C} {t:T} {x:Value},cW d st.heap c=some t→RC w A ρ c x→RT w B t x
 |d, .t y,t,x,hf,hr=>by
  have:t=y:=by cases d<;>simpa[cW]using hf.symm
  subst this
  exact RT.keeps (w:=w) ⟨Nat.le_refl _,fun b _ hn=>⟨rfl,fun hb=>hn (XO b hb)⟩⟩ hr
 |0, .own ..,t,x,hf,hr=>by simp[cW]at hf
 |0, .ptr ..,t,x,hf,hr=>by simp[cW]at hf
 |0, .rJ ..,t,x,hf,hr=>by simp[cW]at hf
 |0, .kM ..,t,x,hf,hr=>by simp[cW]at hf
 |0, .any,t,x,hf,hr=>by simp[cW]at hf
 |0, .map _,t,x,hf,hr=>by simp[cW]at hf
 |0, .it _,t,x,hf,hr=>by simp[cW]at hf
 |0, .lQ ..,t,x,hf,hr=>by simp[cW]at hf
 |0, .pk ..,t,x,hf,hr=>by simp[cW]at hf
 |d+1, .ptr ..,t,x,hf,hr=>by simp[cW]at hf
 |d+1, .rJ ..,t,x,hf,hr=>by simp[cW]at hf
 |d+1, .kM ..,t,x,hf,hr=>by simp[cW]at hf
 |d+1, .any,t,x,hf,hr=>by simp[cW]at hf
 |d+1, .map _,t,x,hf,hr=>by simp[cW]at hf
 |d+1, .it _,t,x,hf,hr=>by simp[cW]at hf
 |d+1, .lQ ..,t,x,hf,hr=>by simp[cW]at hf
 |d+1, .pk ..,t,x,hf,hr=>by simp[cW]at hf
 |d+1, .own id sz i len,t,x,hf,hr=>by
  simp only[cW]at hf
  split at hf
  · rename_i sz' xs K8
    split at hf
    · rename_i hc
      simp only[Option.map_eq_some_iff]at hf
      obtain⟨ts,hts,rfl⟩:=hf
      have he:elems st.heap (.own id sz i len)=some (sz,(xs.drop i).take len):=by simp only[elems,K8,if_pos hc]
      obtain⟨hsz,b0,ajY,hx0,JP⟩:=jV h he hr
      by_cases hne:(xs.drop i).take len=[]
      · rw[hne]at hts
        simp only[bE,Option.some.injEq]at hts
        subst hts
        rw[hx0,hne]
        exact .nil
      · obtain⟨b,o,cap,rfl,hcell⟩:=jt h he hr hne
        simp only[Value.slice.injEq]at hx0
        obtain⟨_,_,rfl⟩:=hx0
        have hρ:ρ id=some (.fF b)∧b < w.heap.size:=by
         rcases hr with⟨b',cap',q,e',k1,k2,k3,k4,k5⟩|⟨_,_,h2,h3⟩
         · simp only[Value.slice.injEq,Option.some.injEq,Addr.mk.injEq]at k2
           obtain⟨⟨rfl,_⟩,_⟩:=k2
           refine⟨k1,?_⟩
           rcases Nat.lt_or_ge b w.heap.size with hlt|hge
           · exact hlt
           · simp[World.shape?,Array.getElem?_eq_none hge]at k4
         · simp at h3
        have wL: ∀ (i':Nat) (e:List T) (j:Nat) (t:T),ts[i']? =some e→e[j]? =some t→ ∃y,w.cell? ⟨b,o+(i' * sz+j),none⟩=some y∧RT w B t y:=by
         intro i' e j t hi hj
         obtain⟨el,hel,hfe⟩:=dV hts i' e hi
         obtain⟨c,hcc,Xt⟩:=dV hfe j t hj
         obtain⟨y,hy,hry,_⟩:=hcell i' el j c hel hcc
         exact⟨y,hy,sJ h XO hB Xt hry⟩
        have hE:RT w B (.aA sz ts) (.slice (some ⟨b,o,none⟩) ((xs.drop i).take len).length cap):=by
         refine .aA (fun i j=>(w.cell? ⟨b,o+(i * sz+j),none⟩).getD undef) (gm hts).symm JP hρ.2 (hB id _ b K8 hρ.1) (fun e he'=>?_) (fun i e j t hi hj=>?_) (fun i e j t hi hj=>?_)
         · obtain⟨k,hk,hke⟩:=List.getElem_of_mem he'
           obtain⟨el,hel,hfe⟩:=dV hts k e (by rw[←hke];simp[hk])
           rw[gm hfe]
           exact hsz el (List.mem_of_getElem? hel)
         · obtain⟨y,hy,_⟩:=wL i e j t hi hj
           rw[Nat.add_assoc,hy];rfl
         · obtain⟨y,hy,dl⟩:=wL i e j t hi hj
           rw[hy];exact dl
        exact hE
    · simp at hf
  · simp at hf
def bI (hp:HS):W→Option W
 | .one c=>(cW 6 hp c).map fun t=> .one (.t t)
 | .agg cs=>(bE (cW 6 hp) cs).map fun ts=> .agg (ts.map .t)
theorem FY {hp:HS} {u:W} {k:W→Bool} (h:J4 false hp u k=true): ∃u',bI hp u=some u'∧k u'=true:=by
 cases u with
 |one c=>obtain⟨t,h1,h2⟩:=Bq h;exact⟨_,by simp only[bI,h1,Option.map_some],h2⟩
 |agg cs=>obtain⟨t,h1,h2⟩:=lF (fun x k h=>Bq h) h;exact⟨_,by simp only[bI,h1,Option.map_some],h2⟩
theorem gK (h:Rel M A ρ F st a w) {B:Nat→Prop} (XO: ∀b,B b→A b) (hB: ∀id blk b,find st.heap id=some blk→ρ id=some (.fF b)→¬B b) {u u':W} {x:Value}
 (hf:bI st.heap u=some u') (hr:RW w A ρ u x) (ρ':Env):RW w B ρ' u' x:=by
 cases u with
 |one c=>
  simp only[bI,Option.map_eq_some_iff]at hf
  obtain⟨t,h1,rfl⟩:=hf
  exact⟨sJ h XO hB h1 hr.1,hr.2⟩
 |agg cs=>
  simp only[bI,Option.map_eq_some_iff]at hf
  obtain⟨ts,h1,rfl⟩:=hf
  obtain⟨vs,rfl,h2,h3⟩:=hr
  refine⟨vs,rfl,by simp[gm h1,h2],fun k c y hk hy=>?_⟩
  simp only[List.getElem?_map,Option.map_eq_some_iff]at hk
  obtain⟨t,ht,rfl⟩:=hk
  obtain⟨c',Ey,Xt⟩:=dV h1 k t ht
  obtain⟨r1,r2⟩:=h3 k c' y Ey hy
  exact⟨sJ h XO hB Xt r1,r2⟩
structure Ad where
 n:Nat
 code:Rc
 res:List Rv
 flat:Bool
 inl:Bool
def BR (P:Program) (f:FuncId) (fr:Ad):Prop:=
 ∃fn c,P.funcs[f]? =some fn∧fn.body=some c∧aC P c=some fr.code∧fn.ntmps=fr.n∧cP P fn.results.toList=some fr.res∧ga fr.n fr.code=true
theorem vf {tm:Tr} {hp:HS}: ∀ {rs:List ResultVar} {VA:List Rv} {k:List W→Bool},cP P rs=some VA→vT false tm hp VA k=true→
 ∃us,(∀L,eR tm L→aM P hp L rs=some us)∧k us=true
 | [],VA,k,hr,h=>by
   simp only[cP,Option.some.injEq]at hr
   subst hr
   exact⟨[],fun _ _=>rfl,h⟩
 | .tmp t::r,VA,k,hr,h=>by
   simp only[cP]at hr
   split at hr
   · rename_i l hl
     simp only[Option.some.injEq]at hr
     subst hr
     simp only[vT]at h
     split at h
     · rename_i u hu
       obtain⟨us,h1,h2⟩:=vf hl h
       refine⟨u::us,fun L hL=>?_,h2⟩
       rw[←hL t]at hu
       simp only[aM,cc,hu,h1 L hL]
     · simp at h
   · simp at hr
 | .cell t ty::r,VA,k,hr,h=>by
   simp only[cP]at hr
   split at hr
   · rename_i n l hn hl
     simp only[Option.some.injEq]at hr
     subst hr
     simp only[vT]at h
     split at h
     · rename_i c hc
       obtain⟨cs,j,h1,h2⟩:=zR h
       obtain⟨u,h3,h4⟩:=kB (P:=P) hn (qG h2)
       simp only at h4
       obtain⟨us,h5,h6⟩:=vf hl h4
       refine⟨u::us,fun L hL=>?_,h6⟩
       rw[←hL t]at hc
       have dJ:eA P ty (.w (.one c)) hp=some (.w u):=by simp only[eA,h1,h3,Option.map_some]
       simp only[aM,cc,hc,dJ,h5 L hL]
     · simp at h
   · simp at hr
def CN {α:Type}:Nat→List W→Tr→(Tr→α)→α
 |_,[],tm,k=>k tm
 |n,u::r,tm,k=>Tr.put (key n) tm (.w u) fun tm=>ox (n+1) fun m=>CN m r tm k
def j8:Nat→List W→Tr→Tr
 |_,[],tm=>tm
 |n,u::r,tm=>j8 (n+1) r (Tr.set (key n) tm (.w u))
theorem wx {α:Type}: ∀ (us:List W) (n:Nat) (tm:Tr) (k:Tr→α),CN n us tm k=k (j8 n us tm)
 | [],n,tm,k=>rfl
 |u::r,n,tm,k=>by simp only[CN,j8,Tr.put_eq,dO,wx r]
theorem zF: ∀ (us:List W) (n:Nat) (tm:Tr) (L:TS),eR tm L→(∀t,n≤t→find L t=none)→eR (j8 n us tm) (cO n us++L)
 | [],n,tm,L,h,_=>h
 |u::r,n,tm,L,h,hn=>by
  have ih:=zF r (n+1) (Tr.set (key n) tm (.w u)) ((n, .w u)::L) (h.put (some n) (.w u)) (fun t ht=>by rw[ai,if_neg (by omega)];exact hn t (by omega))
  intro t
  rw[j8, ←ih t]
  simp only[cO,List.cons_append,ai,cL]
  by_cases e:n=t
  · subst e
    have:find (cO (n+1) r) n=none:=by
     cases h':find (cO (n+1) r) n with
     |none=>rfl
     |some v=>have:=(ee _ _ _ _ h').1;omega
    simp[this]
  · simp[e]
theorem Hi (us:List W):eR (j8 0 us .nil) (cO 0 us):=by
 have:=zF us 0 .nil [] (fun t=>by rw[Tr.vj];rfl) (fun t _=>rfl)
 simpa using this
theorem Rel.toM {M':Nat→Prop} (h:Rel M' A ρ F st a w) (hM: ∀b,M' b→M b) (hmay: ∀b,w.heap.size≤b→M b) (Om:yR M A w):Rel M A ρ F st a w:=by
 refine⟨h.size,h.defers,h.tmps,fun id blk hb=>?_,h.inj,h.fresh,h.bound,hmay,Om⟩
 have:=h.heap id blk hb
 cases blk with
 |row sz xs=>
  obtain⟨h1,h2⟩:=this
  refine⟨h1,?_⟩
  rcases h2 with⟨b,c,e,k1,k2,k3⟩|h2
  · exact .inl ⟨b,c,e,k1,hM b k2,k3⟩
  · exact .inr h2
 |mp es clock=>
  obtain⟨b,en,k1,k2,k3⟩:=this
  exact⟨b,en,k1,hM b k2,k3⟩
theorem Rel.own {id:Nat} {blk:bu} {b:Nat} (h:Rel M A ρ F st a w) (hf:find st.heap id=some blk) (hρ:ρ id=some (.fF b)):M b∧A b∧b < w.heap.size:=by
 have:=(h.heap id blk hf).lt hρ
 exact⟨this.2.1,this.2.2,this.1⟩
def qS (e:Exit):Prop:=e= .normal∨e= .ret
theorem xq {f:FuncId} {fr:Ad} (hok:BR P f fr) {us:List W} {hp hp':HS} {ctr bB:Nat} {e:Exit} {aY:Tr} {vs:List W} (hn:us.length≤fr.n) (he:qS e)
 (hrun: ∀c,(∃fn,P.funcs[f]? =some fn∧fn.body=some c)→Ts P fr.n c (j8 0 us .nil) hp ctr e aY hp' bB) (hres: ∀fn,P.funcs[f]? =some fn→ ∀L,eR aY L→aM P hp' L fn.results.toList=some vs)
 {M A:Nat→Prop} {ρ:Env} {w:World} {xs:Array Value} (hr:HR M A ρ (bg ctr) hp w) (hx:vq w A ρ us xs.toList):
 Calls P f xs w fun e w'=> ∃x A' ρ',e= .returned x∧HR M A' ρ' (bg bB) hp' w'∧RV w' A' ρ' (aO vs) x∧cJ M w w'∧cN ρ ρ'∧bp A A' w:=by
 obtain⟨fn,c,hf,hb,hrc,hnt,K5,hds⟩:=hok
 refine calls_of_wp hf hb ?_
 have hl:us.length=xs.size:=by simpa using hx.1
 have bR:Rel M A ρ (bg ctr) ⟨fr.n,cO 0 us,hp⟩ {tmps:=xs++Array.replicate (fn.ntmps - xs.size) undef,defers:=[]} w:=by
  refine⟨by simp;omega,rfl,fun t v hv=>?_,hr.heap,hr.inj,hr.fresh,hr.bound,hr.may,hr.dN⟩
  obtain⟨_,u,hu,rfl⟩:=ee _ _ _ _ hv
  simp only[Nat.sub_zero]at hu
  have ht:t < xs.size:=by rw[←hl];exact(List.getElem?_eq_some_iff.1 hu).1
  have AZ:xs.toList[t]? =some xs[t]:=by simp[ht]
  have:=hx.2 t u _ hu AZ
  have e:(xs++Array.replicate (fn.ntmps - xs.size) undef).getD t undef=xs[t]:=by simp[Array.getD_eq_getD_getElem?,Array.getElem?_append_left ht,ht]
  rw[e]
  exact this
 refine wp_mono (hrun c ⟨fn,hf,hb⟩ M A ρ _ w _ (Hi us) bR) ?_
 rintro e2 a' w' ⟨rfl,L',A',ρ',hL',dl,dJ,cC,hg⟩
 have fP:=hres fn hf L' hL'
 obtain⟨ws,hvs,hR⟩:=dQ dl fP
 have hm:(fn.results.mapM fun(r:ResultVar)=>match r with
  | .tmp t=>(pure (a'.tmps.getD t undef):Sem Value)
  | .cell b t=>do loadVar t (←asAddr (a'.tmps.getD b undef))).run P w'= .ok ws.toArray w':=by
  rw[Array.mapM_eq_mapM_toList]
  simp only[Sem.run_map]
  exact(congrArg (fun r:Result (List Value)=>Result.andThen r fun a w'=>Result.ok a.toArray w') hvs).trans rfl
 have hrun:(results fn a'.tmps).run P w'= .ok (if h:ws.toArray.size=1 then ws.toArray[0]else .tuple ws.toArray) w':=by
  show(Bind.bind (fn.results.mapM fun(r:ResultVar)=>match r with
   | .tmp t=>(pure (a'.tmps.getD t undef):Sem Value)
   | .cell b t=>do loadVar t (←asAddr (a'.tmps.getD b undef))) fun vs=>Pure.pure (if h:vs.size=1 then vs[0]else .tuple vs)).run P w'=_
  rw[Sem.run_bind,hm]
  rfl
 have fin:a'.defers=[]∧ ∃v,(results fn a'.tmps).run P w'= .ok v w'∧ ∃x A' ρ',Ending.returned v= .returned x∧HR M A' ρ' (bg bB) hp' w'∧RV w' A' ρ' (aO vs) x∧cJ M w w'∧cN ρ ρ'∧bp A A' w:=by
  refine⟨dl.defers,_,hrun,_,A',ρ',rfl,⟨rfl,rfl,fun t v hv=>by simp[find]at hv,dl.heap,dl.inj,dl.fresh,dl.bound,dl.may,dl.dN⟩,?_,dJ,cC,hg⟩
  match vs,ws,hR with
  | [],[],_=>exact⟨#[],by simp,rfl,by simp⟩
  | [u],[v],hR=>exact hR.2 0 u v rfl rfl
  |u::u2::r,v::v2::s,hR=>
   have hne:¬ (v::v2::s).toArray.size=1:=by simp
   simp only[hne,dite_false]
   exact⟨_,rfl,by simpa using hR.1,fun k x y hx hy=>hR.2 k x y hx (by simpa using hy)⟩
  | [],_::_,hR=>exact absurd hR.1 (by simp)
  |_::_,[],hR=>exact absurd hR.1 (by simp)
  | [_],_::_::_,hR=>exact absurd hR.1 (by simp)
  |_::_::_,[_],hR=>exact absurd hR.1 (by simp)
 rcases he with rfl|rfl
 · exact fin
 · exact fin
theorem xn {f:FuncId} {fr:Ad} (hok:BR P f fr) {us:List W} {hp hp':HS} {ctr bB:Nat} {e:Exit} {aY:Tr} {vs:List W} (hn:us.length≤fr.n) (he:qS e)
 (hrun: ∀c,(∃fn,P.funcs[f]? =some fn∧fn.body=some c)→Ts P fr.n c (j8 0 us .nil) hp ctr e aY hp' bB) (hres: ∀fn,P.funcs[f]? =some fn→ ∀L,eR aY L→aM P hp' L fn.results.toList=some vs):
 gE P f us hp ctr (aO vs) hp' bB:=by
 intro M A ρ a w n L xs hr hx
 let M':Nat→Prop:=fun b=>(M b∧A b)∨w.heap.size≤b
 have hH:HR M' A ρ (bg ctr) hp w:=by
  refine⟨rfl,rfl,fun t v hv=>by simp[find]at hv,fun id blk hb=>?_,hr.inj,hr.fresh,hr.bound,fun b hb=> .inr hb,hr.dN.sub (fun b hb hm=>hm.elim (fun h=>h.1) (fun h=>by omega)) (fun _ h=>h)⟩
  have:=hr.heap id blk hb
  cases blk with
  |row sz ys=>
   obtain⟨h1,h2⟩:=this
   refine⟨h1,?_⟩
   rcases h2 with⟨b,c,e,k1,k2,k3,k4⟩|h2
   · exact .inl ⟨b,c,e,k1, .inl ⟨k2,k3⟩,k3,k4⟩
   · exact .inr h2
  |mp es clock=>
   obtain⟨b,en,k1,k2,k3,k4⟩:=this
   exact⟨b,en,k1, .inl ⟨k2,k3⟩,k3,k4⟩
 refine(xq hok hn he hrun hres hH hx).mono ?_
 rintro e w' ⟨x,A',ρ',rfl,h1,h2,h3,h4,h5⟩
 have hM: ∀b,M' b→M b:=fun b hb=>hb.elim (fun h=>h.1) (hr.may b)
 have hmay: ∀b,w'.heap.size≤b→M b:=fun b hb=>hr.may b (Nat.le_trans h3.size hb)
 have hk:ej A A' w w':=⟨h3.size,fun b hb JK=>⟨h3.block b hb (fun hm=>by
  rcases hm with hm|hm
  · exact JK hm.2
  · omega),fun hA=>JK (h5.2 b hb hA)⟩⟩
 refine⟨x,A',ρ',rfl,?_,h2,h3.weaken (fun i _ ho=>hM i ho),h4,h5⟩
 have S6:=h1.toM hM hmay (hr.dN.EN (h3.weaken (fun i _ ho=>hM i ho)) h5.2)
 exact⟨hr.size,hr.defers,fun t v hv=>(hr.tmps t v hv).keeps hk h3.shape h4,S6.heap,S6.inj,S6.fresh,S6.bound,S6.may,S6.dN⟩
theorem HK {f:FuncId} {fr:Ad} (hok:BR P f fr) {us:List W} {hp':HS} {bB:Nat} {e:Exit} {aY:Tr} {vs ts:List W} (hn:us.length≤fr.n) (he:qS e)
 (hrun: ∀c,(∃fn,P.funcs[f]? =some fn∧fn.body=some c)→Ts P fr.n c (j8 0 us .nil) [] 4 e aY hp' bB) (hres: ∀fn,P.funcs[f]? =some fn→ ∀L,eR aY L→aM P hp' L fn.results.toList=some vs)
 (hts:bE (bI hp') vs=some ts):Fn P f us [] (aO ts) []:=by
 intro w A ρ xs hH hxs
 refine(xq hok hn he hrun hres hH hxs).mono ?_
 rintro e w' ⟨x,A',ρ',rfl,h1,h2,h3,h4,h5⟩
 have hB: ∀id blk b,find hp' id=some blk→ρ' id=some (.fF b)→¬A b:=by
  intro id blk b hf hρ hA
  have hM:=(h1.own hf hρ).1
  rcases hM with⟨id',fH,lJ,_⟩|hM
  · simp[find]at lJ
  · have:=hH.bound b hA
    omega
 refine⟨x,A,ρ,bg 4,rfl,?_,⟨rfl,rfl,fun t v hv=>by simp[find]at hv,fun id blk hb=>by simp[find]at hb,fun id id' b b' q hb=>by simp[find]at hb,hH.fresh,fun b hb=>Nat.lt_of_lt_of_le (hH.bound b hb) h3.size,fun b hb=> .inr (Nat.le_trans h3.size hb),hH.dN.EN h3 (fun _ _ h=>h)⟩,h3,iE.refl _,bp.refl _ _⟩
 have hlen:=gm hts
 have one: ∀ (k:Nat) (u:W) (y:Value),ts[k]? =some u→(∀v,vs[k]? =some v→RW w' A' ρ' v y)→RW w' A ρ u y:=by
  intro k u y hu hv
  obtain⟨v,jB,CW⟩:=dV hts k u hu
  exact gK (st:=⟨0,[],hp'⟩) h1 (fun b hb=>h5.1 b hb) hB CW (hv v jB) ρ
 match vs,ts,hlen with
 | [],[],_=>
   obtain⟨ys,h6,h7,_⟩:=h2
   exact⟨ys,h6,h7,fun k u y hu=>by simp at hu⟩
 | [v],[u],_=>exact one 0 u x rfl (fun v' jB=>by simp only[List.getElem?_cons_zero,Option.some.injEq]at jB;subst jB;exact h2)
 |v::v2::r,u::u2::s,hlen=>
  obtain⟨ys,rfl,h6,h7⟩:=h2
  refine⟨ys,rfl,by rw[←h6];simpa using hlen,fun k u' y hu hy=>one k u' y hu (fun v' jB=>h7 k v' y jB hy)⟩
 | [],_::_,hlen=>simp at hlen
 |_::_,[],hlen=>simp at hlen
 | [_],_::_::_,hlen=>simp at hlen
 |_::_::_,[_],hlen=>simp at hlen
def uX (us:List W):Bool:=us.all W.cV
theorem pF {n:Nat} {u:W} (h:u.cV=true):u.up n=u:=by
 cases u with
 |one c=>cases c<;>simp[W.cV,C.cV]at h;rfl
 |agg cs=>
  simp only[W.cV,List.all_eq_true]at h
  simp only[W.up,W.agg.injEq]
  have: ∀c,c∈cs→c.up n=id c:=by
   intro c hc
   have:=h c hc
   cases c<;>simp[C.cV]at this
   rfl
  rw[List.map_congr_left this];simp
theorem fR {hp:HS} {u u':W} (h:bI hp u=some u'):u'.cV=true:=by
 cases u with
 |one c=>
  simp only[bI,Option.map_eq_some_iff]at h
  obtain⟨t,_,rfl⟩:=h
  rfl
 |agg cs=>
  simp only[bI,Option.map_eq_some_iff]at h
  obtain⟨t,_,rfl⟩:=h
  simp[W.cV,C.cV]
def V.cV:V→Bool
 | .w u=>u.cV
 | .ef ws=>ws.all W.cV
 | .undef=>false
theorem V.pF {n:Nat} {v:V} (h:v.cV=true):v.up n=v:=by
 cases v with
 |w u=>simp only[V.cV]at h;simp only[V.up,Go.aR.pF h]
 |ef ws=>
  simp only[V.cV,List.all_eq_true]at h
  simp only[V.up,V.ef.injEq]
  have: ∀c,c∈ws→c.up n=id c:=fun c hc=>Go.aR.pF (h c hc)
  rw[List.map_congr_left this];simp
 |undef=>rfl
theorem qB {ts:List W} (h:ts.all W.cV=true):(aO ts).cV=true:=by
 match ts with
 | []=>rfl
 | [u]=>simpa[aO,V.cV]using h
 |_::_::_=>simpa only[aO,V.cV]using h
def C.plain:C→Bool
 | .t (.val (.int ..))| .t (.val (.bool _))| .t (.val (.string _))=>true
 |_=>false
def W.plain:W→Bool
 | .one c=>c.plain
 | .agg cs=>cs.all C.plain
def V.plain:V→Bool
 | .w u=>u.plain
 | .ef ws=>ws.all W.plain
 | .undef=>false
end Go.aR
end
section
namespace Go.aR
open Go
section
variable {α:Type} (bad:α)
def lW (P:Program) (call:ue α) (dG:uf α) (fuel:Nat) (fr:Ad) (us:List W) (k:V→α):α:=
 gQ (Nat.ble us.length fr.n) (CN 0 us .nil fun tm=>E bad call dG P fuel fr.code (fun e aY hp' _=>match e with
  | .normal=>vT bad aY hp' fr.res fun vs=>oZ (J4 bad hp') vs fun ts=>k (aO ts)
  | .ret=>vT bad aY hp' fr.res fun vs=>oZ (J4 bad hp') vs fun ts=>k (aO ts)
  |_=>bad) tm [] 4) bad
def AY (P:Program) (call:ue α) (dG:uf α) (fuel:Nat) (fr:Ad) (us:List W) (hp:HS) (ctr:Nat) (K:V→HS→Nat→α):α:=
 gQ (Nat.ble us.length fr.n) (CN 0 us .nil fun tm=>E bad call dG P fuel fr.code (fun e aY hp' bB=>match e with
  | .normal=>vT bad aY hp' fr.res fun vs=>K (aO vs) hp' bB
  | .ret=>vT bad aY hp' fr.res fun vs=>K (aO vs) hp' bB
  |_=>bad) tm hp ctr) bad
variable (P:Program) (yE:Nat→Option Ad) (Fv:Nat→List W→Option V) (fuel:Nat)
def bO:Nat→ue α×uf α
 |0=>(fun _ _ _ _ _=>bad,fun _ _ _ _ _=>bad)
 |d+1=>
  (fun f us hp ctr K=>match yE f with
    |some fr=>gQ fr.inl (AY bad P (bO d).1 (bO d).2 fuel fr us hp ctr K)
      (gQ (uX us) (match Fv f us with
        |some v=>ox (ctr+4) fun c=>K v hp c
        |none=>lW bad P (bO d).1 (bO d).2 fuel fr us fun v=>ox (ctr+4) fun c=>K v hp c)
      (gQ (fr.flat&& (bE (bI hp) us).isSome) (oZ (J4 bad hp) us fun ts=>match Fv f ts with
        |some v=>gQ v.flat (ox (ctr+4) fun c=>K v hp c) bad
        |none=>lW bad P (bO d).1 (bO d).2 fuel fr ts fun v=>gQ v.flat (ox (ctr+4) fun c=>K v hp c) bad)
      (AY bad P (bO d).1 (bO d).2 fuel fr us hp ctr K)))
    |none=>bad,
   fun f us hp _ K=>match yE f with
    |some fr=>gQ (uX us) (match Fv f us with
      |some v=>K v hp
      |none=>lW bad P (bO d).1 (bO d).2 fuel fr us fun v=>K v hp)
      (match jz hp us with
        |some ts=>match Fv f ts with
         |some v=>gQ v.flat (K v hp) bad
         |none=>lW bad P (bO d).1 (bO d).2 fuel fr ts fun v=>gQ v.flat (K v hp) bad
        |none=>bad)
    |none=>bad)
end
variable {P:Program}
theorem fG {f:FuncId} {us:List W} {hp:HS} {ctr:Nat} {v:V} (hv:v.cV=true) (hT:uX us=true) (h:Fn P f us [] v []):eL P hp ctr f us v hp:=
 .inl ⟨v,[],us,h.toF,(V.pF hv).symm,rfl, .inl ⟨rfl,hT⟩⟩
theorem tS {f:FuncId} {us ts:List W} {hp:HS} {ctr:Nat} {v:V} (hv:v.cV=true) (hl:jz hp us=some ts) (hfl:v.flat=true) (h:Fn P f ts [] v []):eL P hp ctr f us v hp:=
 .inl ⟨v,[],ts,h.toF,(V.pF hv).symm,rfl, .inr ⟨hl,hfl,fun id blk hb=>by simp[find]at hb⟩⟩
theorem mE {f:FuncId} {us ts:List W} {hp:HS} {ctr:Nat} {v:V} (hv:v.cV=true) (hl:bE (bI hp) us=some ts) (hfl:v.flat=true) (hfn:Fn P f ts [] v []):gE P f us hp ctr v hp (ctr+4):=by
 intro M A ρ a w n L xs h hx
 have hM: ∀ (ρ0:Env),(fun b=>oM ρ0 [] b∨w.heap.size≤b)=fun b=>w.heap.size≤b:=by
  intro ρ0
  funext b
  simp[oM,find]
 have empty:HR (fun b=>oM (fun _=>none) [] b∨w.heap.size≤b) (fun _=>False) (fun _=>none) (bg 4) [] w:=
  ⟨rfl,rfl,fun t v hv=>by simp[find]at hv,fun id b hb=>by simp[find]at hb,fun id id' b b' c hb=>by simp[find]at hb,fun _ _=>rfl,fun _ h=>h.elim,fun b hb=> .inr hb,h.dN.sub (fun b hb hm=>hm.elim (fun ho=>by obtain⟨_,_,hf,_⟩:=ho;simp[find]at hf) (fun hl=>by omega)) (fun _ h=>h.elim)⟩
 have hx':vq w (fun _=>False) (fun _=>none) ts xs.toList:=⟨(gm hl).trans hx.1,fun k u x hu AZ=>by
  obtain⟨c,hc,hlc⟩:=dV hl k u hu
  exact gK (st:=⟨n,L,hp⟩) h (fun _ hb=>hb.elim) (fun _ _ _ _ _ hb=>hb) hlc (hx.2 k c x hc AZ) _⟩
 refine(hfn w (fun _=>False) (fun _=>none) xs empty hx').mono ?_
 rintro e w' ⟨x,A1,ρ1,F1,rfl,Wx,hr,dJ,_,hg⟩
 rw[hM]at hr dJ
 obtain⟨A2,ρ2,r1,r2,r3,r4,r5⟩:=Rel.import (st:=⟨n,L,hp⟩) h (nid:=ctr) (fun k h1 _=>h1) dJ hr (fun b hb hA=>(hg.2 b hb hA).elim) Wx (.inr ⟨hfl,fun id blk hb=>by simp[find]at hb⟩)
 rw[V.pF hv]at r2
 exact⟨x,A2,ρ2,rfl,r1.sub ij,r2,r3,r4,r5⟩
theorem ic {call:ue Bool} {dG:uf Bool} {fuel:Nat} (hc:og P call) (hd:kP P dG) {f:FuncId} {fr:Ad} (hok:BR P f fr) {us:List W} {k:V→Bool}
 (h:lW false P call dG fuel fr us k=true): ∃v,Fn P f us [] v []∧v.cV=true∧k v=true:=by
 unfold lW at h
 obtain⟨hn,h⟩:=bq h
 simp only[Nat.ble_eq]at hn
 rw[wx]at h
 obtain⟨fn,c,hf,hb,hrc,hnt,K5,hds⟩:=hok
 obtain⟨e,aY,hp',bB,h1,h2⟩:=Gs (P:=P) hc hd hrc hds h
 have hrun: ∀c',(∃fn,P.funcs[f]? =some fn∧fn.body=some c')→Ts P fr.n c' (j8 0 us .nil) [] 4 e aY hp' bB:=by
  rintro c' ⟨fn',lJ,hb'⟩
  rw[hf]at lJ
  simp only[Option.some.injEq]at lJ
  subst lJ
  rw[hb]at hb'
  simp only[Option.some.injEq]at hb'
  subst hb'
  exact h2
 have fin:qS e→vT false aY hp' fr.res (fun vs=>oZ (J4 false hp') vs fun ts=>k (aO ts))=true→ ∃v,Fn P f us [] v []∧v.cV=true∧k v=true:=by
  intro he hr
  obtain⟨vs,h3,h4⟩:=vf K5 hr
  obtain⟨ts,h5,h6⟩:=lF (fun x k h=>FY h) h4
  refine⟨aO ts,HK ⟨fn,c,hf,hb,hrc,hnt,K5,hds⟩ hn he hrun (fun fn' lJ=>?_) h5,?_,h6⟩
  · rw[hf]at lJ
    simp only[Option.some.injEq]at lJ
    subst lJ
    exact h3
  · refine qB ?_
    rw[List.all_eq_true]
    intro u hu
    obtain⟨k',hk',hke⟩:=List.getElem_of_mem hu
    obtain⟨v,_,CW⟩:=dV h5 k' u (by rw[←hke];simp[hk'])
    exact fR CW
 cases e with
 |normal=>exact fin (.inl rfl) h1
 |ret=>exact fin (.inr rfl) h1
 |_=>simp at h1
theorem qV {call:ue Bool} {dG:uf Bool} {fuel:Nat} (hc:og P call) (hd:kP P dG) {f:FuncId} {fr:Ad} (hok:BR P f fr) {us:List W} {hp:HS} {ctr:Nat} {K:V→HS→Nat→Bool}
 (h:AY false P call dG fuel fr us hp ctr K=true): ∃v hp' bB,gE P f us hp ctr v hp' bB∧K v hp' bB=true:=by
 unfold AY at h
 obtain⟨hn,h⟩:=bq h
 simp only[Nat.ble_eq]at hn
 rw[wx]at h
 obtain⟨fn,c,hf,hb,hrc,hnt,K5,hds⟩:=hok
 obtain⟨e,aY,hp',bB,h1,h2⟩:=Gs (P:=P) hc hd hrc hds h
 have hrun: ∀c',(∃fn,P.funcs[f]? =some fn∧fn.body=some c')→Ts P fr.n c' (j8 0 us .nil) hp ctr e aY hp' bB:=by
  rintro c' ⟨fn',lJ,hb'⟩
  rw[hf]at lJ
  simp only[Option.some.injEq]at lJ
  subst lJ
  rw[hb]at hb'
  simp only[Option.some.injEq]at hb'
  subst hb'
  exact h2
 have fin:qS e→vT false aY hp' fr.res (fun vs=>K (aO vs) hp' bB)=true→ ∃v hp' bB,gE P f us hp ctr v hp' bB∧K v hp' bB=true:=by
  intro he hr
  obtain⟨vs,h3,h4⟩:=vf K5 hr
  refine⟨aO vs,hp',bB,xn ⟨fn,c,hf,hb,hrc,hnt,K5,hds⟩ hn he hrun (fun fn' lJ=>?_),h4⟩
  rw[hf]at lJ
  simp only[Option.some.injEq]at lJ
  subst lJ
  exact h3
 cases e with
 |normal=>exact fin (.inl rfl) h1
 |ret=>exact fin (.inr rfl) h1
 |_=>simp at h1
def Gr (P:Program) (yE:Nat→Option Ad):Prop:= ∀f fr,yE f=some fr→BR P f fr
def Aa (P:Program) (Fv:Nat→List W→Option V):Prop:= ∀f us v,Fv f us=some v→Fn P f us [] v []∧v.cV=true
theorem tH {yE:Nat→Option Ad} {Fv:Nat→List W→Option V} {fuel:Nat} (Hs:Gr P yE) (Eo:Aa P Fv): ∀d,og P (bO false P yE Fv fuel d).1∧kP P (bO false P yE Fv fuel d).2
 |0=>⟨fun f us hp ctr K h=>by simp[bO]at h,fun f us hp ctr K h=>by simp[bO]at h⟩
 |d+1=>by
  obtain⟨S3,S2⟩:=tH Hs Eo (fuel:=fuel) d
  refine⟨fun f us hp ctr K h=>?_,fun f us hp ctr K h=>?_⟩
  · simp only[bO]at h
    split at h
    · rename_i fr hfr
      have hok:=Hs f fr hfr
      cases hi:fr.inl with
      |true=>
       rw[hi]at h
       exact qV S3 S2 hok h
      |false=>
       rw[hi]at h
       simp only[gQ]at h
       cases hT:uX us with
       |true=>
        rw[hT]at h
        simp only at h
        split at h
        · rename_i v hv
          rw[dO]at h
          obtain⟨h1,h2⟩:=Eo f us v hv
          exact⟨v,hp,ctr+4,oa (fG h2 hT h1),h⟩
        · obtain⟨v,h1,h2,h3⟩:=ic S3 S2 hok h
          rw[dO]at h3
          exact⟨v,hp,ctr+4,oa (fG h2 hT h1),h3⟩
       |false=>
        rw[hT]at h
        simp only at h
        cases hfl:(fr.flat&& (bE (bI hp) us).isSome)with
        |true=>
         rw[hfl]at h
         simp only at h
         obtain⟨ts,hts,h⟩:=lF (fun x k h=>FY h) h
         split at h
         · rename_i v hv
           have Ho:v.flat=true∧(ox (ctr+4) fun c=>K v hp c)=true:=bq h
           rw[dO]at Ho
           obtain⟨h1,h2⟩:=Eo f ts v hv
           exact⟨v,hp,ctr+4,mE h2 hts Ho.1 h1,Ho.2⟩
         · obtain⟨v,h1,h2,h3⟩:=ic S3 S2 hok h
           have Ho:v.flat=true∧(ox (ctr+4) fun c=>K v hp c)=true:=bq h3
           rw[dO]at Ho
           exact⟨v,hp,ctr+4,mE h2 hts Ho.1 h1,Ho.2⟩
        |false=>
         rw[hfl]at h
         exact qV S3 S2 hok h
    · simp at h
  · simp only[bO]at h
    split at h
    · rename_i fr hfr
      have hok:=Hs f fr hfr
      cases hT:uX us with
      |true=>
       rw[hT]at h
       simp only[gQ]at h
       split at h
       · rename_i v hv
         obtain⟨h1,h2⟩:=Eo f us v hv
         exact⟨v,hp,fG h2 hT h1,h⟩
       · obtain⟨v,h1,h2,h3⟩:=ic S3 S2 hok h
         exact⟨v,hp,fG h2 hT h1,h3⟩
      |false=>
       rw[hT]at h
       simp only[gQ]at h
       split at h
       · rename_i ts hts
         split at h
         · rename_i v hv
           have Ho:v.flat=true∧K v hp=true:=bq h
           obtain⟨h1,h2⟩:=Eo f ts v hv
           exact⟨v,hp,tS h2 hts Ho.1 h1,Ho.2⟩
         · obtain⟨v,h1,h2,h3⟩:=ic S3 S2 hok h
           have Ho:v.flat=true∧K v hp=true:=bq h3
           exact⟨v,hp,tS h2 hts Ho.1 h1,Ho.2⟩
       · simp at h
    · simp at h
def Kj:Value→Value→Bool
 | .int k a, .int k' b=>Nat.beq (Ej k) (Ej k')&&RL a b
 | .bool a, .bool b=>a==b
 | .string a, .string b=>a.data.toList==b.data.toList
 | .slice none 0 0, .slice none 0 0=>true
 |_,_=>false
theorem Ki {a b:Value} (h:Kj a b=true):a=b:=by
 unfold Kj at h
 split at h
 · simp only[Bool.and_eq_true,Kl,beq_iff_eq]at h
   rw[FO h.1,h.2]
 · simp only[beq_iff_eq]at h;rw[h]
 · rename_i a b
   simp only[beq_iff_eq]at h
   congr 1
   cases a;cases b
   congr 1
   exact Array.toList_inj.1 h
 · rfl
 · simp at h
mutual
def RK:T→T→Bool
 | .val a, .val b=>Kj a b
 | .aA sz xs, .aA sz' ys=>Nat.beq sz sz'&&zQ xs ys
 |_,_=>false
def HM:List T→List T→Bool
 | [],[]=>true
 |a::r,b::s=>RK a b&&HM r s
 |_,_=>false
def zQ:Lz→Lz→Bool
 | [],[]=>true
 |a::r,b::s=>HM a b&&zQ r s
 |_,_=>false
end
mutual
theorem Kk: ∀ {a b:T},RK a b=true→a=b
 | .val a, .val b,h=>by simp only[RK]at h;rw[Ki h]
 | .aA sz xs, .aA sz' ys,h=>by
   simp only[RK,Bool.and_eq_true,Nat.beq_eq]at h
   rw[h.1,Dh h.2]
 | .val _, .aA ..,h=>by simp[RK]at h
 | .aA .., .val _,h=>by simp[RK]at h
theorem F6: ∀ {a b:List T},HM a b=true→a=b
 | [],[],_=>rfl
 |a::r,b::s,h=>by
  simp only[HM,Bool.and_eq_true]at h
  rw[Kk h.1,F6 h.2]
 | [],_::_,h=>by simp[HM]at h
 |_::_,[],h=>by simp[HM]at h
theorem Dh: ∀ {a b:Lz},zQ a b=true→a=b
 | [],[],_=>rfl
 |a::r,b::s,h=>by
  simp only[zQ,Bool.and_eq_true]at h
  rw[F6 h.1,Dh h.2]
 | [],_::_,h=>by simp[zQ]at h
 |_::_,[],h=>by simp[zQ]at h
end
def ZD:C→C→Bool
 | .t a, .t b=>RK a b
 |_,_=>false
def HN:List C→List C→Bool
 | [],[]=>true
 |a::r,b::s=>ZD a b&&HN r s
 |_,_=>false
def ZC:W→W→Bool
 | .one a, .one b=>ZD a b
 | .agg a, .agg b=>HN a b
 |_,_=>false
def Dg:List W→List W→Bool
 | [],[]=>true
 |a::r,b::s=>ZC a b&&Dg r s
 |_,_=>false
def XX:V→V→Bool
 | .w a, .w b=>ZC a b
 | .ef a, .ef b=>Dg a b
 |_,_=>false
theorem Km {a b:C} (h:ZD a b=true):a=b:=by
 cases a<;>cases b<;>simp[ZD]at h
 rw[Kk h]
theorem F7: ∀ {a b:List C},HN a b=true→a=b
 | [],[],_=>rfl
 |a::r,b::s,h=>by
  simp only[HN,Bool.and_eq_true]at h
  rw[Km h.1,F7 h.2]
 | [],_::_,h=>by simp[HN]at h
 |_::_,[],h=>by simp[HN]at h
theorem Kh {a b:W} (h:ZC a b=true):a=b:=by
 cases a<;>cases b<;>simp[ZC]at h
 · rw[Km h]
 · rw[F7 h]
theorem Bv: ∀ {a b:List W},Dg a b=true→a=b
 | [],[],_=>rfl
 |a::r,b::s,h=>by
  simp only[Dg,Bool.and_eq_true]at h
  rw[Kh h.1,Bv h.2]
 | [],_::_,h=>by simp[Dg]at h
 |_::_,[],h=>by simp[Dg]at h
theorem RJ {a b:V} (h:XX a b=true):a=b:=by
 cases a<;>cases b<;>simp[XX]at h
 · rw[Kh h]
 · rw[Bv h]
theorem MF {yE:Nat→Option Ad} {Fv:Nat→List W→Option V} {fuel d:Nat} (Hs:Gr P yE) (Eo:Aa P Fv) {f:FuncId} {fr:Ad} (hfr:yE f=some fr) {us:List W} {v:V}
 (h:lW false P (bO false P yE Fv fuel d).1 (bO false P yE Fv fuel d).2 fuel fr us (fun v'=>XX v' v)=true):Fn P f us [] v []∧v.cV=true:=by
 obtain⟨h1,h2⟩:=tH Hs Eo (fuel:=fuel) d
 obtain⟨v',h3,h4,h5⟩:=ic h1 h2 (Hs f fr hfr) h
 have:=RJ h5
 subst this
 exact⟨h3,h4⟩
end Go.aR
end
section
namespace Go.aR
open Go
variable {P:Program} {M A:Nat→Prop} {ρ:Env} {F:Nat→Prop} {st:St} {a:Act} {w:World}
theorem lS.MU {ops:Array Oper} {i:Nat} {K:St→Nat→Prop} {ctr:Nat} (h:lS P ops i K st ctr): ∃st' c',K st' c'∧lS P ops i (fun s c=>s=st'∧c=c') st ctr:=by
 unfold lS at h⊢
 split at h
 · exact⟨st,ctr,h,⟨rfl,rfl⟩⟩
 · obtain⟨hd,h⟩:=h
   split at h
   · exact h.elim
   · rename_i hg
     exact⟨_,_,h,hd,by simp only[hg];exact⟨trivial,trivial⟩⟩
   · rename_i hg
     rcases h with h|h
     · obtain⟨g,us,hc,he,v,heap',c',h1,h2⟩:=h
       exact⟨_,_,h2,hd,by simp only[hg];refine .inl ⟨g,us,hc,he,v,heap',c',h1,?_⟩;first|trivial|exact⟨rfl,rfl⟩|exact⟨trivial,trivial⟩⟩
     · obtain⟨v,heap',h1,h2⟩:=h
       exact⟨_,_,h2,hd,by simp only[hg];refine .inr ⟨v,heap',h1,?_⟩;first|trivial|exact⟨rfl,rfl⟩|exact⟨trivial,trivial⟩⟩
theorem KI.toWp {ops:Array Oper} {o:Oper} {i n:Nat} {x:Ro} {g:Option (Nat×Bool)} {ctr:Nat} {tm:TS} {hp:HS} {K:TS→HS→Nat→Prop}
 (hi:ops[i]? =some o) (hx:aX P o=some x) (hgd:iC ops o g) (h:KI P n ⟨o.dst,g,x⟩ tm hp ctr K):
 ∃aY,(∀t,find aY t=find tm t)∧lS P ops i (nJ n K) ⟨n,aY,hp⟩ ctr:=by
 unfold KI at h
 split at h
 · exact h.elim
 · rename_i hd
   simp only at hd
   have iq: ∀ {aY:TS},(∀t,find aY t=find tm t)→aU ops o aY=some false→K (dj aY o.dst (.ef [])) hp ctr→ ∃aY,(∀t,find aY t=find tm t)∧lS P ops i (nJ n K) ⟨n,aY,hp⟩ ctr:=by
    intro aY he jH hK
    refine⟨aY,he,?_⟩
    unfold lS
    simp only[hi]
    refine⟨hd,?_⟩
    simp only[jH,fu]
    exact⟨rfl,hK⟩
   have wanted: ∀ {aY:TS},(∀t,find aY t=find tm t)→aU ops o aY=some true→uY P n ⟨o.dst,g,x⟩ aY hp ctr K→ ∃aY,(∀t,find aY t=find tm t)∧lS P ops i (nJ n K) ⟨n,aY,hp⟩ ctr:=by
    intro aY he jH hX
    exact⟨aY,he,uY.wpOp (st:=⟨n,aY,hp⟩) hi hx hd jH hX⟩
   rcases hgd with⟨yx,rfl⟩|⟨j,want,d,yx,hj,rfl⟩
   · simp only at h
     exact wanted (fun _=>rfl) (by simp[aU,yx]) h
   · have ff: ∀ {aY:TS} {b:Bool},find aY d=some (bV b)→aU ops o aY=some (b==want):=by
      intro aY b hf
      simp only[aU,yx,hj,hf]
     simp only at h
     split at h
     · rename_i b hf
       have lit: ∀ {c:Bool},b=c→ ∀t,find ((d,bV c)::tm) t=find tm t:=by
        intro c hb t
        subst hb
        simp only[ai]
        split
        · rename_i e;subst e;exact hf.symm
        · rfl
       split at h
       · rcases jS h with⟨hb,h⟩|⟨hb,h⟩
         · exact wanted (lit hb) (by rw[ff (b:=true) (by simp[ai])];rfl) h
         · exact iq (lit hb) (by rw[ff (b:=false) (by simp[ai])];rfl) h
       · rcases jS h with⟨hb,h⟩|⟨hb,h⟩
         · exact iq (lit hb) (by rw[ff (b:=true) (by simp[ai])];rfl) h
         · exact wanted (lit hb) (by rw[ff (b:=false) (by simp[ai])];rfl) h
     · rename_i hf
       exact iq (fun _=>rfl) (by simp only[aU,yx,hj,hf]) h
     · exact h.elim
theorem qn {K:TS→HS→Nat→Prop} {Q:Exit→TS→HS→Nat→Prop} {e:Exit} (h:e≠ .normal):gj K Q e=Q e:=by
 cases e<;>first|rfl|exact absurd rfl h
theorem B6 {K:St→Nat→Prop} {Q:Exit→St→Nat→Prop} {e:Exit} (h:e≠ .normal):IF K Q e=Q e:=by
 cases e<;>first|rfl|exact absurd rfl h
theorem yT {id:Nat} {Q:Exit→TS→HS→Nat→Prop} {e:Exit} (h: ∀i,e≠ .exit i):rN id Q e=Q e:=by
 cases e<;>first|rfl|exact absurd rfl (h _)
theorem zZ {id:Nat} {Q:Exit→St→Nat→Prop} {e:Exit} (h: ∀i,e≠ .exit i):ob id Q e=Q e:=by
 cases e<;>first|rfl|exact absurd rfl (h _)
def Is (st':St) (c':Nat):St→Nat→Prop:=fun s c=>s=st'∧c=c'
theorem iZ.MU {ops:Array Oper} {n:Nat} {K:TS→HS→Nat→Prop}: ∀ {l:List Oper} {rs:List kp} {k:Nat} {tm:TS} {hp:HS} {ctr:Nat},
 (∀j,ops[k+j]? =l[j]?)→aQ P ops l=some rs→iZ P n rs tm hp ctr K→
 ∃st' c',nJ n K st' c'∧ ∀ (M A:Nat→Prop) (ρ:Env) (a:Act) (w:World) (Q:Exit→Act→World→Prop),Rel M A ρ (bg ctr) ⟨n,tm,hp⟩ a w→(∀a' w',Post M A ρ w (Is st' c') a' w'→Q .normal a' w')→
  wpOps P ops Q (List.range' k l.length) a w
 | [],rs,k,tm,hp,ctr,hl,eU,h=>by
   simp only[aQ,Option.some.injEq]at eU
   subst eU
   exact⟨⟨n,tm,hp⟩,ctr,⟨rfl,h⟩,fun M A ρ a w Q hr hq=>hq _ _ (Post.here hr ⟨rfl,rfl⟩)⟩
 |o::l,rs,k,tm,hp,ctr,hl,eU,h=>by
  simp only[aQ]at eU
  split at eU
  · rename_i x l' hx hl'
    have hi:ops[k]? =some o:=by simpa using hl 0
    obtain⟨g,rfl,hgd⟩:=kf eU
    simp only[iZ]at h
    obtain⟨aY,he,hw⟩:=KI.toWp (ops:=ops) hi hx hgd h
    obtain⟨st1,c1,⟨ou,hK1⟩,BU⟩:=lS.MU hw
    obtain⟨n1,lT,hp1⟩:=st1
    simp only at ou hK1
    subst ou
    obtain⟨st2,c2,hK2,N7⟩:=iZ.MU (k:=k+1) (fun j=>by have:=hl (j+1);rw[show k+1+j=k+(j+1) by omega,this];simp) hl' hK1
    refine⟨st2,c2,hK2,fun M A ρ a w Q hr hq=>?_⟩
    rw[List.length_cons,List.range'_succ,wpOps_cons]
    have dl:Rel M A ρ (bg ctr) ⟨n1,aY,hp⟩ a w:=hr.forget rfl (fun t v hv=>by rw[←he t];exact hv) (fun _ _ hb=>hb)
    refine lS.sound BU dl fun a' w' hp'=>?_
    obtain⟨st',c',A',ρ',⟨rfl,rfl⟩,h2,h3,h4,h5⟩:=hp'
    exact N7 M A' ρ' a' w' Q h2 fun a2 w2 hp2=>hq _ _ (hp2.trans h3 h4 h5)
  · simp at eU
theorem X.MU {n:Nat}: ∀ {c:Code} {r:Rc},aC P c=some r→ ∀ {Q:Exit→TS→HS→Nat→Prop} {tm:TS} {hp:HS} {ctr:Nat},X P n r Q tm hp ctr→
 ∃e st' c',nJ n (Q e) st' c'∧Wp P c (fun e2 s c=>e2=e∧Is st' c' s c) ⟨n,tm,hp⟩ ctr:=by
 intro c
 induction c with
 |skip=>
  intro r hr Q tm hp ctr h
  simp only[aC,Option.some.injEq]at hr
  subst hr
  exact⟨.normal,⟨n,tm,hp⟩,ctr,⟨rfl,h⟩,Wp.skip ⟨rfl,rfl,rfl⟩⟩
 |ret=>
  intro r hr Q tm hp ctr h
  simp only[aC,Option.some.injEq]at hr
  subst hr
  exact⟨.ret,⟨n,tm,hp⟩,ctr,⟨rfl,h⟩,Wp.ret ⟨rfl,rfl,rfl⟩⟩
 |exit id=>
  intro r hr Q tm hp ctr h
  simp only[aC,Option.some.injEq]at hr
  subst hr
  exact⟨.exit id,⟨n,tm,hp⟩,ctr,⟨rfl,h⟩,Wp.exit ⟨rfl,rfl,rfl⟩⟩
 |seq x y Jv Ju=>
  intro r hr Q tm hp ctr h
  simp only[aC]at hr
  split at hr
  · rename_i rx ry hx hy
    simp only[Option.some.injEq]at hr
    subst hr
    simp only[X]at h
    obtain⟨e1,st1,c1,⟨ou,h1⟩,w1⟩:=Jv hx h
    obtain⟨n1,lT,hp1⟩:=st1
    simp only at ou h1
    subst ou
    by_cases kX:e1= .normal
    · subst kX
      obtain⟨e2,st2,c2,h2,w2⟩:=Ju hy h1
      refine⟨e2,st2,c2,h2,Wp.seq (w1.mono ?_)⟩
      rintro e s c ⟨rfl,rfl,rfl⟩
      exact w2
    · rw[qn kX]at h1
      refine⟨e1,⟨n1,lT,hp1⟩,c1,⟨rfl,h1⟩,Wp.seq (w1.mono ?_)⟩
      rintro e s c ⟨rfl,rfl,rfl⟩
      rw[B6 kX]
      exact⟨rfl,rfl,rfl⟩
  · simp at hr
 |cond c x y Jv Ju=>
  intro r hr Q tm hp ctr h
  simp only[aC]at hr
  split at hr
  · rename_i rx ry hx hy
    simp only[Option.some.injEq]at hr
    subst hr
    simp only[X]at h
    split at h
    · rename_i b hb
      have hb':((⟨n,tm,hp⟩:St).get c).gA =some b:=by rw[←bj];exact hb
      rcases jS h with⟨rfl,h⟩|⟨rfl,h⟩
      · obtain⟨e,s,c',h1,h2⟩:=Jv hx h
        exact⟨e,s,c',h1,Wp.cond hb' h2⟩
      · obtain⟨e,s,c',h1,h2⟩:=Ju hy h
        exact⟨e,s,c',h1,Wp.cond hb' h2⟩
    · exact h.elim
  · simp at hr
 |block id b ih=>
  intro r hr Q tm hp ctr h
  simp only[aC]at hr
  split at hr
  · rename_i rb hb
    simp only[Option.some.injEq]at hr
    subst hr
    simp only[X]at h
    obtain⟨e1,st1,c1,⟨ou,h1⟩,w1⟩:=ih hb h
    cases e1 with
    |exit id'=>
     simp only[rN]at h1
     split at h1
     · rename_i bG
       refine⟨_,_,_,⟨ou,h1⟩,Wp.block (w1.mono ?_)⟩
       rintro e s c ⟨rfl,rfl,rfl⟩
       simp only[ob,bG,if_true]
       exact⟨trivial,rfl,rfl⟩
     · rename_i bG
       refine⟨_,_,_,⟨ou,h1⟩,Wp.block (w1.mono ?_)⟩
       rintro e s c ⟨rfl,rfl,rfl⟩
       simp only[ob,bG,if_false]
       exact⟨trivial,rfl,rfl⟩
    |_=>
     rw[yT (by simp)]at h1
     refine⟨_,st1,c1,⟨ou,h1⟩,Wp.block (w1.mono ?_)⟩
     rintro e s c ⟨rfl,rfl,rfl⟩
     rw[zZ (by simp)]
     exact⟨rfl,rfl,rfl⟩
  · simp at hr
 |loop b ih=>
  intro r hr Q tm hp ctr h
  simp only[aC]at hr
  split at hr
  · rename_i rb hb
    simp only[Option.some.injEq]at hr
    subst hr
    simp only[X]at h
    obtain⟨I,ahU,wB⟩:=h
    obtain⟨uj,nc,c0,K4,m,hI⟩:=ahU.get
    have key: ∀ (m:Nat) (tm:TS) (hp:HS) (c:Nat),I m tm hp c→ ∃e st' c',nJ n (Q e) st' c'∧ ∀ (M A:Nat→Prop) (ρ:Env) (a:Act) (w:World) (b':Frame) (kk:List _) (cs:List _),Rel M A ρ (bg c) ⟨n,tm,hp⟩ a w→
     ∃a' w',Post M A ρ w (Is st' c') a' w'∧Arrives P (lone (b'.at a (.code b:: .inLoop b::kk)) cs w) b' kk cs e a' w':=by
     intro m
     induction m using Nat.strongRecOn with
     |_ m ihm=>
      intro tm hp c hI
      obtain⟨e1,st1,c1,⟨ou,h1⟩,w1⟩:=ih hb (wB m tm hp c hI)
      obtain⟨n1,lT,hp1⟩:=st1
      simp only at ou h1
      subst ou
      by_cases kX:e1= .normal
      · subst kX
        obtain⟨tm3,S9,c3,hw3,m',hm',Rl⟩:=bQ.get h1
        obtain⟨e2,st2,c2,h2,qX⟩:=ihm m' hm' _ _ _ Rl
        refine⟨e2,st2,c2,h2,fun M A ρ a w b' kk cs hr=>?_⟩
        obtain⟨e,a1,Ah,⟨rfl,st',c',A',ρ',⟨rfl,rfl⟩,r2,r3,r4,r5⟩,fD⟩:=(by
         obtain⟨e,a1,Ah,hp1,fD⟩:=w1 M A ρ a w hr b' (.inLoop b::kk) cs
         obtain⟨st',c',A',ρ',⟨he,hs⟩,r⟩:=hp1
         exact⟨e,a1,Ah,⟨he,st',c',A',ρ',hs,r⟩,fD⟩: ∃e a1 Ah,(e=Exit.normal∧ ∃st' c' A' ρ',Is ⟨n1,lT,hp1⟩ c1 st' c'∧Rel M A' ρ' (bg c') st' a1 Ah∧cJ M w Ah∧iE ρ ρ'∧fT M A A' w)∧Arrives P (lone (b'.at a (.code b:: .inLoop b::kk)) cs w) b' (.inLoop b::kk) cs e a1 Ah)
        obtain⟨A2,ρ2,uD,Ht,xS⟩:=hw3 _ _ _ _ _ _ r2
        obtain⟨a2,w2,hp2,qY⟩:=qX M A2 ρ2 a1 Ah b' kk cs uD
        exact⟨a2,w2,hp2.trans r3 (r4.trans Ht) (r5.trans xS r3.size), .of_steps (Steps.trans fD (.one step_inLoop)) qY⟩
      · rw[qn kX]at h1
        refine⟨e1,⟨n1,lT,hp1⟩,c1,⟨rfl,h1⟩,fun M A ρ a w b' kk cs hr=>?_⟩
        obtain⟨e,a1,Ah,QV,fD⟩:=w1 M A ρ a w hr b' (.inLoop b::kk) cs
        obtain⟨st',c',A',ρ',⟨rfl,hs⟩,r⟩:=QV
        refine⟨a1,Ah,⟨st',c',A',ρ',hs,r⟩,?_⟩
        cases e with
        |normal=>exact absurd rfl kX
        |_=>exact .pass (x:= .inLoop b) rfl (fun _ _=> .inl (by simp)) fD
    obtain⟨e,st',c',h1,h2⟩:=key m _ _ _ hI
    refine⟨e,st',c',h1,Wp.DY (st:=⟨n,tm,hp⟩) K4 ?_⟩
    intro M A ρ a w hr b' kk cs
    obtain⟨a',w',hp',fD⟩:=h2 M A ρ a w b' kk cs hr
    obtain⟨s1,s2,s3,s4,s5,s6⟩:=hp'
    exact⟨e,a',w',⟨s1,s2,s3,s4,⟨rfl,s5⟩,s6⟩, .of_steps (.one step_loop) fD⟩
  · simp at hr
 |region id ops d=>
  intro r hr Q tm hp ctr h
  cases d with
  |true=>
   simp only[aC]at hr
   split at hr
   · rename_i l hl
     split at hr
     · rename_i hc
       simp only[Bool.and_eq_true]at hc
       simp only[Option.some.injEq]at hr
       subst hr
       simp only[X]at h
       obtain⟨tmT,hpT,v,fs,⟨q0,q1⟩,_,q3,q4,q5⟩:=rE.trace (P:=P) (ops:=ops) (n:=n) (base:=ctr) (k:=0) (fun j=>by simp) hl rfl (by simpa using h)
       simp only[Nat.zero_add]at q1 q5
       refine⟨.normal,⟨n,tmT ops.size,hpT ops.size⟩,ctr+4 * ops.size,⟨rfl,by simpa using q1⟩,?_⟩
       intro M A ρ a w bR
       have CS:Rel M A ρ (bg ctr) ⟨n,tmT 0,hpT 0⟩ a w:=bR.forget rfl (fun t u hu=>by rw[←q3 t];exact hu) (fun k b hb=>by rw[q4]at hb;exact hb)
       refine wZ hc.1 (fun i o ho=>q5 i o (by simpa using ho)) (fun i o ho e he=>?_) q0 CS ?_
       · have:=jR hc.2 i (aZ o) (by simp[ho]) e he
         omega
       · rintro a' w' ⟨st',c',A',ρ',⟨rfl,rfl⟩,h2⟩
         exact⟨_,_,A',ρ',⟨rfl,rfl,rfl⟩,h2⟩
     · simp at hr
   · simp at hr
  |false=>
   simp only[aC]at hr
   split at hr
   · rename_i l hl
     simp only[Option.some.injEq]at hr
     subst hr
     simp only[X]at h
     obtain⟨st',c',h1,h2⟩:=iZ.MU (P:=P) (ops:=ops) (k:=0) (l:=ops.toList) (fun j=>by simp) hl h
     refine⟨.normal,st',c',h1,fun M A ρ a w bR=>wp_region ?_⟩
     have:=h2 M A ρ a w (fun e a' w'=>Post M A ρ w (fun s c=>e= .normal∧Is st' c' s c) a' w') bR (fun a' w' hp=>by
      obtain⟨s1,s2,s3,s4,s5,s6⟩:=hp
      exact⟨s1,s2,s3,s4,⟨rfl,s5⟩,s6⟩)
     rw[List.range_eq_range']
     simpa using this
   · simp at hr
 |_=>intro r hr;simp[aC]at hr
def OI (P:Program) (rs:List ResultVar) (Good:List W→Prop):Exit→TS→HS→Nat→Prop
 | .normal,tm,hp,_| .ret,tm,hp,_=> ∃us ts,aM P hp tm rs=some us∧bE (bI hp) us=some ts∧Good ts
 |_,_,_,_=>False
section
variable {Tb:Tables} {F F':Array Func}
theorem Du: ∀n,(Program.mk Tb F).alikeButTags n=(Program.mk Tb F').alikeButTags n
 |0=>by funext t u;rfl
 |n+1=>by
  funext t u
  simp only[Program.alikeButTags,Du n]
theorem Ds:(Program.mk Tb F).stoodInHeld=(Program.mk Tb F').stoodInHeld:=by
 funext t
 have:= @Du Tb F F'
 simp only[Program.stoodInHeld,Program.stoodInAs,Program.underlying,Program.underlyingId,Program.depth,this]
 rfl
theorem Dt: ∀n,(Program.mk Tb F).eqGuardType n=(Program.mk Tb F').eqGuardType n
 |0=>by funext t;rfl
 |n+1=>by
  funext t
  have:= @Ds Tb F F'
  simp only[Program.eqGuardType,Dt n,Program.underlying]
theorem PD (P:Program) (t:TypeId):aI P (underlying t)=P.underlying t:=by
 cases h:P.underlying t with
 |some d=>exact aN h
 |none=>
  show aI P (match P.underlying t with|some d=>pure d|none=>stuck "no such type")=none
  rw[h]
  rfl
theorem MZ (t:TypeId):tD (Program.mk Tb F) t=tD (Program.mk Tb F') t:=by
 have h:(Program.mk Tb F).underlying t=(Program.mk Tb F').underlying t:=rfl
 simp only[tD,isAgg,aJ,PD,h]
 cases(Program.mk Tb F').underlying t with
 |none=>rfl
 |some d=>cases d<;>rfl
theorem Gd: ∀ (fs:List Field) off,kY (Program.mk Tb F) off fs=kY (Program.mk Tb F') off fs
 | [],_=>rfl
 |f::r,off=>by simp only[kY,Gd r,MZ (F:=F) (F':=F')]
theorem zU: ∀ (fs:List Field),placesOf (Program.mk Tb F) fs=placesOf (Program.mk Tb F') fs
 | []=>rfl
 |f::r=>by simp only[placesOf,zU r];rfl
theorem X9 (he: ∀f,enters (Program.mk Tb F) f=enters (Program.mk Tb F') f) (o:Oper):aX (Program.mk Tb F) o=aX (Program.mk Tb F') o:=by
 have h1:placesOf (Program.mk Tb F)=placesOf (Program.mk Tb F'):=funext zU
 have h2:kY (Program.mk Tb F)=kY (Program.mk Tb F'):=funext fun o=>funext fun l=>Gd l o
 have h3:= @Dt Tb F F'
 have h4:= @Ds Tb F F'
 have h5:qe (Program.mk Tb F)=qe (Program.mk Tb F'):=by
  funext t
  simp only[qe,h2,h3,h4,Program.depth]
  rfl
 have h6:(Program.mk Tb F).underlying=(Program.mk Tb F').underlying:=rfl
 have h7:jW (Program.mk Tb F)=jW (Program.mk Tb F'):=rfl
 have h8:cA (Program.mk Tb F)=cA (Program.mk Tb F'):=rfl
 have h9:D1 (Program.mk Tb F)=D1 (Program.mk Tb F'):=rfl
 have JU:nY (Program.mk Tb F)=nY (Program.mk Tb F'):=rfl
 have h11:Ee (Program.mk Tb F)=Ee (Program.mk Tb F'):=rfl
 have h12:enters (Program.mk Tb F)=enters (Program.mk Tb F'):=funext he
 simp only[aX,mo,aK,h1,h5,h6,h7,h8,h9,JU,h11,h12]
theorem Kx (he: ∀f,enters (Program.mk Tb F) f=enters (Program.mk Tb F') f) (all:Array Oper): ∀l,aQ (Program.mk Tb F) all l=aQ (Program.mk Tb F') all l
 | []=>rfl
 |o::r=>by simp only[aQ,X9 he,Kx he all r]
theorem ajW (he: ∀f,enters (Program.mk Tb F) f=enters (Program.mk Tb F') f) (c:Code):aC (Program.mk Tb F) c=aC (Program.mk Tb F') c:=by
 induction c with
 |region a ops b=>cases b<;>simp only[aC,Kx he]<;>rfl
 |_=>simp only[aC, *]
end
def NR (b:Bool):Func:={name:= "",origin:= "",params:= #[],resultTypes:= #[],nfree:=0,ntmps:=0,results:= #[],body:=if b then some .skip else none,norace:=false,tmpNames:= #[]}
def Fw:Array Func:=(Wc.foldl (fun l i=>l.set i (NR false)) (List.replicate aeH (NR true))).toArray
class mG (P:Program) (Tb:outParam Tables):Prop where
 tb:P.toTables=Tb
 ok: ∀f,enters P f=enters ⟨Tb,Fw⟩ f
theorem mG.of {P:Program} {Tb:Tables} (h:P.toTables=Tb) (n:Nat) (h1:Nat.ble P.funcs.size n=true) (h2:Nat.ble Fw.size n=true) (h3:((List.range n).all fun f=>enters P f==enters ⟨Tb,Fw⟩ f)=true):mG P Tb:=by
 refine⟨h,fun f=>?_⟩
 by_cases hf:f < n
 · have:=List.all_eq_true.1 h3 f (List.mem_range.2 hf)
   simpa using this
 · have hf:=Nat.le_of_not_lt hf
   simp only[enters,Array.getElem?_eq_none (Nat.le_trans (Nat.le_of_ble_eq_true h1) hf),Array.getElem?_eq_none (Nat.le_trans (Nat.le_of_ble_eq_true h2) hf)]
def Ox (Tb:Tables) (fn:Func):Option (Nat×List ResultVar×Rc):=
 match fn.body with
 |some b=>match aC ⟨Tb,Fw⟩ b with
  |some r=>some (fn.ntmps,fn.results.toList,r)
  |none=>none
 |none=>none
theorem wS {P:Program} {Tb:Tables} [hS:mG P Tb] {fn:Func} {n:Nat} {rs:List ResultVar} {r:Rc} (h:Ox Tb fn=some (n,rs,r)): ∃c,fn.body=some c∧aC P c=some r∧fn.ntmps=n∧fn.results.toList=rs:=by
 obtain⟨h0,he⟩:=hS
 obtain⟨Tb',Fs⟩:=P
 subst h0
 unfold Ox at h
 split at h
 · rename_i b hb
   split at h
   · rename_i q hq
     simp only[Option.some.injEq,Prod.mk.injEq]at h
     exact⟨b,hb,by rw[ajW he,hq,h.2.2],h.1,h.2.1⟩
   · cases h
 · cases h
theorem ae {Tb:Tables} [mG P Tb] {f:FuncId} {fn:Func} {r:Rc} {args:List W} {n:Nat} {rs:List ResultVar} {Good:List W→Prop} (hf:P.funcs[f]? =some fn) (h:X P n r (OI P rs Good) (cO 0 args) [] 4)
 (hi:Ox Tb fn=some (n,rs,r):=by conv=>lhs;cbv) (hl:args.length≤n:=by simp): ∃ts,Fn P f args [] (aO ts) []∧(aO ts).cV=true∧Good ts:=by
 obtain⟨c,hb,hr,hn,eU⟩:=wS (P:=P) hi
 subst hn
 subst eU
 obtain⟨e,st',c',⟨hn',hq⟩,hw⟩:=X.MU hr h
 obtain⟨n',aY,hp'⟩:=st'
 simp only at hn' hq
 subst hn'
 have main: ∀us ts,qS e→aM P hp' aY fn.results.toList=some us→bE (bI hp') us=some ts→Good ts→ ∃ts,Fn P f args [] (aO ts) []∧(aO ts).cV=true∧Good ts:=by
  intro vs ts he fP hts hg
  refine⟨ts,?_,qB ?_,hg⟩
  · intro w A ρ xs hH hxs
    refine calls_of_wp hf hb ?_
    have hl':args.length=xs.size:=by simpa using hxs.1
    have bR:Rel (fun b=>oM ρ [] b∨w.heap.size≤b) A ρ (bg 4) ⟨fn.ntmps,cO 0 args,[]⟩ {tmps:=xs++Array.replicate (fn.ntmps - xs.size) undef,defers:=[]} w:=by
     refine⟨by simp;omega,rfl,fun t v hv=>?_,hH.heap,hH.inj,hH.fresh,hH.bound,hH.may,hH.dN⟩
     obtain⟨_,u,hu,rfl⟩:=ee _ _ _ _ hv
     simp only[Nat.sub_zero]at hu
     have ht:t < xs.size:=by rw[←hl'];exact(List.getElem?_eq_some_iff.1 hu).1
     have AZ:xs.toList[t]? =some xs[t]:=by simp[ht]
     have:=hxs.2 t u _ hu AZ
     have e:(xs++Array.replicate (fn.ntmps - xs.size) undef).getD t undef=xs[t]:=by simp[Array.getD_eq_getD_getElem?,Array.getElem?_append_left ht,ht]
     rw[e]
     exact this
    refine wp_mono (hw _ A ρ _ w bR) ?_
    rintro e2 a' w' ⟨st2,c2,A',ρ',⟨rfl,rfl,rfl⟩,dl,dJ,cC,Ol⟩
    have jH:=sE hH.bound Ol
    obtain⟨ws,hvs,hR⟩:=dQ dl fP
    have hm:(fn.results.mapM fun(r:ResultVar)=>match r with
     | .tmp t=>(pure (a'.tmps.getD t undef):Sem Value)
     | .cell b t=>do loadVar t (←asAddr (a'.tmps.getD b undef))).run P w'= .ok ws.toArray w':=by
     rw[Array.mapM_eq_mapM_toList]
     simp only[Sem.run_map]
     exact(congrArg (fun r:Result (List Value)=>Result.andThen r fun a w'=>Result.ok a.toArray w') hvs).trans rfl
    have hrun:(results fn a'.tmps).run P w'= .ok (if h:ws.toArray.size=1 then ws.toArray[0]else .tuple ws.toArray) w':=by
     show(Bind.bind (fn.results.mapM fun(r:ResultVar)=>match r with
      | .tmp t=>(pure (a'.tmps.getD t undef):Sem Value)
      | .cell b t=>do loadVar t (←asAddr (a'.tmps.getD b undef))) fun vs=>Pure.pure (if h:vs.size=1 then vs[0]else .tuple vs)).run P w'=_
     rw[Sem.run_bind,hm]
     rfl
    have hB: ∀id blk b,find hp' id=some blk→ρ' id=some (.fF b)→¬A b:=by
     intro id blk b hf hρ hA
     have hM:=(Rel.own dl hf hρ).1
     rcases hM with⟨id',fH,lJ,_⟩|hM
     · simp[find]at lJ
     · have:=hH.bound b hA
       omega
    have hlen:=gm hts
    have one: ∀ (k:Nat) (u:W) (y:Value),ts[k]? =some u→(∀v,vs[k]? =some v→RW w' A' ρ' v y)→RW w' A ρ u y:=by
     intro k u y hu hv
     obtain⟨v,jB,CW⟩:=dV hts k u hu
     exact gK dl (fun b hb=>jH.1 b hb) hB CW (hv v jB) ρ
    have fin:a'.defers=[]∧ ∃v,(results fn a'.tmps).run P w'= .ok v w'∧ ∃x A' ρ' F',Ending.returned v= .returned x∧RV w' A' ρ' (aO ts) x∧HR (fun b=>oM ρ [] b∨w.heap.size≤b) A' ρ' F' [] w'∧
     cJ (fun b=>oM ρ [] b∨w.heap.size≤b) w w'∧iE ρ ρ'∧bp A A' w:=by
     refine⟨dl.defers,_,hrun,_,A,ρ,bg 4,rfl,?_,⟨rfl,rfl,fun t v hv=>by simp[find]at hv,fun id blk hb=>by simp[find]at hb,fun id id' b b' q hb=>by simp[find]at hb,hH.fresh,fun b hb=>Nat.lt_of_lt_of_le (hH.bound b hb) dJ.size,fun b hb=> .inr (Nat.le_trans dJ.size hb),hH.dN.EN dJ (fun _ _ h=>h)⟩,dJ,iE.refl _,bp.refl _ _⟩
     match vs,ws,ts,hR,hlen,one with
     | [],[],[],_,_,_=>exact⟨#[],by simp,rfl,by simp⟩
     | [u],[v],[t],hR,_,one=>exact one 0 t v rfl (fun v' jB=>by simp only[List.getElem?_cons_zero,Option.some.injEq]at jB;subst jB;exact hR.2 0 u v rfl rfl)
     |u::u2::r,v::v2::s,t::t2::q,hR,hlen,one=>
      have hne:¬ (v::v2::s).toArray.size=1:=by simp
      simp only[hne,dite_false]
      refine⟨_,rfl,?_,fun k x y hx hy=>one k x y hx (fun v' jB=>hR.2 k v' y jB (by simpa using hy))⟩
      have:=hR.1
      simp at this hlen⊢
      omega
     | [],_::_,_,hR,_,_=>exact absurd hR.1 (by simp)
     |_::_,[],_,hR,_,_=>exact absurd hR.1 (by simp)
     | [_],_::_::_,_,hR,_,_=>exact absurd hR.1 (by simp)
     |_::_::_,[_],_,hR,_,_=>exact absurd hR.1 (by simp)
     | [],[],_::_,_,hlen,_=>simp at hlen
     | [_],[_],[],_,hlen,_=>simp at hlen
     | [_],[_],_::_::_,_,hlen,_=>simp at hlen
     |_::_::_,_::_::_,[],_,hlen,_=>simp at hlen
     |_::_::_,_::_::_,[_],_,hlen,_=>simp at hlen
    rcases he with rfl|rfl
    · exact fin
    · exact fin
  · rw[List.all_eq_true]
    intro u hu
    obtain⟨k',hk',hke⟩:=List.getElem_of_mem hu
    obtain⟨v,_,CW⟩:=dV hts k' u (by rw[←hke];simp[hk'])
    exact fR CW
 cases e with
 |normal=>obtain⟨us,ts,h1,h2,h3⟩:=hq;exact main us ts (.inl rfl) h1 h2 h3
 |ret=>obtain⟨us,ts,h1,h2,h3⟩:=hq;exact main us ts (.inr rfl) h1 h2 h3
 |_=>exact hq.elim
end Go.aR
end
section
namespace Go.aR.Cd
open Go Go.Proofs
instance adD:mG Tryz.prog Tryz.progTables:=mG.of rfl 300 (by kernel_rfl) (by kernel_rfl) (by kernel_rfl)
abbrev t (n:Nat):di:= .t n
abbrev k (n:Int):di:= .c (iV .i64 n)
abbrev kb (b:Bool):di:= .c (bV b)
abbrev p (d:Nat) (r:Ro):kp:=⟨some d,none,r⟩
abbrev q (r:Ro):kp:=⟨none,none,r⟩
abbrev i (n:Int):T:= .val (.int .i64 n)
abbrev u (n:Int):T:= .val (.int .u32 n)
abbrev bo (b:Bool):T:= .val (.bool b)
abbrev nl:T:= .val (.slice none 0 0)
abbrev Bi (d:Nat) (o:BinOp) (a:Nat) (n:Int):kp:=p d (.bin o (t a) (k n))
abbrev Pt (d a b:Nat):kp:=p d (.pick (t a) (kb true) (t b))
abbrev Pf (d a b:Nat):kp:=p d (.pick (t a) (t b) (kb false))
variable {P:Program}
def KZ (P:Program):List (Nat×Ad)→Prop
 | []=>True
 |(f,fr)::r=>BR P f fr∧KZ P r
theorem Db: ∀ {l:List (Nat×Ad)},KZ P l→Gr P (find l)
 | [],_,f,fr,h=>by simp[find]at h
 |(g,gr)::r,hl,f,fr,h=>by
  rw[ai]at h
  split at h
  · rename_i e
    subst e
    simp only[Option.some.injEq]at h
    subst h
    exact hl.1
  · exact Db hl.2 f fr h
def nj:List (Nat×List W×V)→Nat→List W→Option V
 | [],_,_=>none
 |(g,ar,v)::r,f,us=>gQ (Nat.beq g f&&Dg ar us) (some v) (nj r f us)
theorem Lx:Aa P (nj []):=fun f us v h=>by simp[nj]at h
theorem IJ {l:List (Nat×List W×V)} {g:Nat} {ar:List W} {v:V} (h:Aa P (nj l)) (he:Fn P g ar [] v []∧v.cV=true):Aa P (nj ((g,ar,v)::l)):=by
 intro f us v' hv
 simp only[nj]at hv
 cases hc:(Nat.beq g f&&Dg ar us)with
 |true=>
  rw[hc]at hv
  simp only[gQ,Option.some.injEq]at hv
  subst hv
  simp only[Bool.and_eq_true,Nat.beq_eq]at hc
  obtain⟨rfl,h2⟩:=hc
  rw[←Bv h2]
  exact he
 |false=>
  rw[hc]at hv
  exact h f us v' hv
end Go.aR.Cd
end
section
namespace Go.aR
open Go
variable {P:Program} {M A:Nat→Prop} {ρ:Env} {F:Nat→Prop} {st:St} {a:Act} {w:World}
theorem HB.au {M2:Nat→Prop} {ρ2:Env} {f:Nat→Option Nat} {id k:Nat} {blk:bu} (h:HB w M A ρ id blk) (hρ: ∀id k l,f id=some k→ρ id=some l→ρ2 k=some l)
 (hk: ∀l,ρ id=some l→ρ2 k=some l) (hM: ∀b,ρ id=some (.fF b)→M b→M2 b):HB w M2 A ρ2 k (blk.au f):=by
 cases blk with
 |row sz xs=>
  obtain⟨q1,q2⟩:=h
  refine⟨fun e he=>?_,?_⟩
  · simp only[List.mem_map]at he
    obtain⟨e',he',rfl⟩:=he
    simpa using q1 e' he'
  · rcases q2 with⟨b,c,e,k1,k2,k3,k4,k5,k6⟩|⟨k1,k2⟩
    · refine .inl ⟨b,c,e,hk _ k1,hM b k1 k2,k3,k4,by simpa using k5,fun i el j q hi hj=>?_⟩
      simp only[List.getElem?_map,Option.map_eq_some_iff]at hi
      obtain⟨DR,C2,rfl⟩:=hi
      simp only[List.getElem?_map,Option.map_eq_some_iff]at hj
      obtain⟨q',FT,rfl⟩:=hj
      obtain⟨y,hy,dl,h1⟩:=k6 i DR j q' C2 FT
      exact⟨y,hy,dl.au hρ,h1⟩
    · exact .inr ⟨hk _ k1,by rw[k2];rfl⟩
 |mp es clock=>
  obtain⟨b,en,k1,k2,k3,k4,k5,k6⟩:=h
  refine⟨b,en,hk _ k1,hM b k1 k2,k3,k4,by simpa using k5,fun i k c n hi=>?_⟩
  simp only[List.getElem?_map,Option.map_eq_some_iff]at hi
  obtain⟨⟨k',c',n'⟩,hi',he⟩:=hi
  simp only[Prod.mk.injEq]at he
  obtain⟨rfl,rfl,rfl⟩:=he
  obtain⟨e,h1,h2,h3,h4,h5⟩:=k6 i k' c' n' hi'
  exact⟨e,h1,h2,h3,h4.au hρ,h5.au⟩
theorem HB.some {id:Nat} {blk:bu} (h:HB w M A ρ id blk): ∃l,ρ id=some l:=by
 cases blk with
 |row sz xs=>rcases h.2 with⟨b,c,e,k1,_⟩|⟨k1,_⟩<;>exact⟨_,k1⟩
 |mp es clock=>obtain⟨b,en,k1,_⟩:=h;exact⟨_,k1⟩
def bA:List Nat→Nat→Option Nat
 | [],_=>none
 |x::r,id=>if x=id then some 0 else(bA r id).map (· +1)
theorem ew: ∀ {ids:List Nat} {id k:Nat},bA ids id=some k→ids[k]? =some id
 | [],id,k,h=>by simp[bA]at h
 |x::r,id,k,h=>by
  simp only[bA]at h
  split at h
  · rename_i e;simp only[Option.some.injEq]at h;subst h;subst e;rfl
  · simp only[Option.map_eq_some_iff]at h
    obtain⟨k',h',rfl⟩:=h
    simpa using ew h'
theorem iR: ∀ {ids:List Nat} {id:Nat},bA ids id=none→ ∀k:Nat,ids[k]? ≠some id
 | [],id,_,k=>by simp
 |x::r,id,h,k=>by
  simp only[bA]at h
  split at h
  · simp at h
  · rename_i e
    simp only[Option.map_eq_none_iff]at h
    cases k with
    |zero=>simpa using e
    |succ k=>simpa using iR h k
def gJ (ids:List Nat) (ctr j:Nat):Option Nat:=if j < 4 then some ((ids[j]?).getD (ctr+j))else none
def cI (f:Nat→Option Nat) (hp:List (Nat×bu)):Nat→List Nat→List (Nat×bu)
 |_,[]=>[]
 |j,id::r=>match find hp id with
  |some b=>(j,b.au f)::cI f hp (j+1) r
  |none=>cI f hp (j+1) r
theorem bZ {f:Nat→Option Nat} {hp:List (Nat×bu)}: ∀ {ids:List Nat} {j k:Nat} {b:bu},find (cI f hp j ids) k=some b→ ∃i id b',k=j+i∧ids[i]? =some id∧find hp id=some b'∧b=b'.au f
 | [],j,k,b,h=>by simp[cI,find]at h
 |id::r,j,k,b,h=>by
  simp only[cI]at h
  have tl:find (cI f hp (j+1) r) k=some b→ ∃i id', ∃b',k=j+i∧(id::r)[i]? =some id'∧find hp id'=some b'∧b=b'.au f:=by
   intro h
   obtain⟨i,id',b',h1,h2,h3,h4⟩:=bZ h
   exact⟨i+1,id',b',by omega,by simpa using h2,h3,h4⟩
  split at h
  · rename_i b0 hb0
    rw[ai]at h
    split at h
    · rename_i e
      simp only[Option.some.injEq]at h
      exact⟨0,id,b0,by omega,rfl,hb0,h.symm⟩
    · exact tl h
  · exact tl h
def jE (ids:List Nat):List (Nat×bu)→List (Nat×bu)
 | []=>[]
 |p::r=>match bA ids p.1 with
  |some _=>jE ids r
  |none=>p::jE ids r
theorem kK {ids:List Nat}: ∀ {hp:List (Nat×bu)} {k:Nat} {b:bu},find (jE ids hp) k=some b→bA ids k=none∧find hp k=some b
 | [],k,b,h=>by simp[jE,find]at h
 |(q,c)::r,k,b,h=>by
  simp only[jE]at h
  split at h
  · rename_i j hj
    obtain⟨h1,h2⟩:=kK h
    refine⟨h1,?_⟩
    rw[ai]
    split
    · rename_i e
      subst e
      rw[hj]at h1
      simp at h1
    · exact h2
  · rename_i hj
    rw[ai]at h⊢
    split at h
    · rename_i e
      subst e
      rw[if_pos rfl]
      exact⟨hj,h⟩
    · rename_i e
      obtain⟨h1,h2⟩:=kK h
      rw[if_neg e]
      exact⟨h1,h2⟩
def eX (g:Nat→Option Nat):List (Nat×bu)→List (Nat×bu)
 | []=>[]
 |p::r=>match g p.1 with
  |some k=>(k,p.2.au g)::eX g r
  |none=>eX g r
theorem js {g:Nat→Option Nat} (hinj: ∀i j k,g i=some k→g j=some k→i=j): ∀ {hout:List (Nat×bu)} {k:Nat} {b:bu},find (eX g hout) k=some b→ ∃j b',g j=some k∧find hout j=some b'∧b=b'.au g
 | [],k,b,h=>by simp[eX,find]at h
 |(q,c)::r,k,b,h=>by
  simp only[eX]at h
  split at h
  · rename_i k' hk'
    rw[ai]at h
    split at h
    · rename_i e
      subst e
      simp only[Option.some.injEq]at h
      exact⟨q,c,hk',by rw[ai,if_pos rfl],h.symm⟩
    · rename_i e
      obtain⟨j,b',h1,h2,h3⟩:=js hinj h
      refine⟨j,b',h1,?_,h3⟩
      rw[ai,if_neg]
      · exact h2
      · intro e'
        subst e'
        rw[hk']at h1
        exact e (Option.some.inj h1)
  · rename_i hk'
    obtain⟨j,b',h1,h2,h3⟩:=js hinj h
    refine⟨j,b',h1,?_,h3⟩
    rw[ai,if_neg]
    · exact h2
    · intro e'
      subst e'
      rw[hk']at h1
      simp at h1
def wy (ids:List Nat) (ctr:Nat):Bool:=decide (ids.length≤4)&&ids.all (fun id=>decide (id < ctr))&&decide ids.Nodup
theorem BD {f:FuncId} {us args:List W} {hp hin hout:List (Nat×bu)} {ctr:Nat} {res:V} (ids:List Nat) (hok:wy ids ctr=true) (hfn:Fn P f args hin res hout)
 (ha:us.map (W.au (bA ids))=args) (hh:cI (bA ids) hp 0 ids=hin):
 gE P f us hp ctr (res.au (gJ ids ctr)) (eX (gJ ids ctr) hout++jE ids hp) (ctr+4):=by
 subst ha
 subst hh
 simp only[wy,Bool.and_eq_true,decide_eq_true_eq,List.all_eq_true]at hok
 obtain⟨⟨hlen,hlt⟩,Hq⟩:=hok
 have hidx: ∀ {i j id:Nat},ids[i]? =some id→ids[j]? =some id→i=j:=by
  intro i j id h1 h2
  obtain⟨hi,e1⟩:=List.getElem?_eq_some_iff.1 h1
  obtain⟨hj,e2⟩:=List.getElem?_eq_some_iff.1 h2
  exact(List.getElem_inj Hq).1 (e1.trans e2.symm)
 have hinv: ∀ {j id:Nat},ids[j]? =some id→bA ids id=some j:=by
  intro j id h
  cases hi:bA ids id with
  |none=>exact absurd h (iR hi j)
  |some k=>rw[hidx (ew hi) h]
 have kr: ∀ {j id:Nat},ids[j]? =some id→id < ctr:=fun h=>hlt _ (List.mem_of_getElem? h)
 have yw: ∀ {j id:Nat},ids[j]? =some id→j < 4:=fun h=>by have:=(List.getElem?_eq_some_iff.1 h).1;omega
 intro M A ρ a w n L xs hr hx
 let ρ0:Env:=fun j=>(ids[j]?).bind ρ
 have QI: ∀id k l,bA ids id=some k→ρ id=some l→ρ0 k=some l:=by
  intro id k l h1 h2
  simp only[ρ0,ew h1,Option.bind_some,h2]
 let M':Nat→Prop:=fun b=>oM ρ0 (cI (bA ids) hp 0 ids) b∨w.heap.size≤b
 have Mw: ∀b,b < w.heap.size→M' b→M b∧A b:=by
  intro b hb hm
  rcases hm with⟨j,blk,hf,hρ⟩|hm
  · obtain⟨i,id,b',rfl,h2,h3,_⟩:=bZ hf
    simp only[Nat.zero_add,ρ0,h2,Option.bind_some]at hρ
    exact((hr.heap id b' h3).lt hρ).2
  · omega
 have hH:HR M' A ρ0 (bg 4) (cI (bA ids) hp 0 ids) w:=by
  refine⟨rfl,rfl,fun t v hv=>by simp[find]at hv,fun j blk hf=>?_,fun j j' blk fH b h1 h2 r1 r2=>?_,fun j hj=>?_,hr.bound,fun b hb=> .inr hb,hr.dN.sub (fun b hb hm=>(Mw b hb hm).1) (fun _ h=>h)⟩
  · obtain⟨i,id,b',rfl,h2,h3,rfl⟩:=bZ hf
    refine(hr.heap id b' h3).au QI (fun l hl=>by simp only[Nat.zero_add,ρ0,h2,Option.bind_some,hl]) (fun b hb _=> .inl ⟨0+i,_,hf,by simp only[Nat.zero_add,ρ0,h2,Option.bind_some,hb]⟩)
  · obtain⟨i,id,b1,rfl,h3,h4,_⟩:=bZ h1
    obtain⟨i',id',b2,rfl,BV,Rm,_⟩:=bZ h2
    simp only[Nat.zero_add,ρ0,h3,BV,Option.bind_some]at r1 r2
    have:=hr.inj id id' b1 b2 b h4 Rm r1 r2
    subst this
    rw[hidx h3 BV]
  · simp only[ρ0]
    rw[List.getElem?_eq_none (by simp only[bg]at hj;omega)]
    rfl
 have hx':vq w A ρ0 (us.map (W.au (bA ids))) xs.toList:=by
  refine⟨by simpa using hx.1,fun k u y hu hy=>?_⟩
  simp only[List.getElem?_map,Option.map_eq_some_iff]at hu
  obtain⟨u',A4,rfl⟩:=hu
  exact(hx.2 k u' y A4 hy).au QI
 refine(hfn w A ρ0 xs hH hx').mono ?_
 rintro e w' ⟨x,A',ρ',F',rfl,hv,dl,dJ,cC,hg⟩
 let ρ2:Env:=fun k=>match bA ids k with
  |some j=>ρ' j
  |none=>if ctr≤k∧k < ctr+4 then ρ' (k - ctr)else ρ k
 have Oo: ∀j k l,gJ ids ctr j=some k→ρ' j=some l→ρ2 k=some l:=by
  intro j k l h1 h2
  simp only[gJ]at h1
  split at h1
  · rename_i hj
    simp only[Option.some.injEq]at h1
    cases hi:ids[j]? with
    |some id=>
     rw[hi]at h1
     simp only[Option.getD_some]at h1
     subst h1
     simp only[ρ2,hinv hi]
     exact h2
    |none=>
     rw[hi]at h1
     simp only[Option.getD_none]at h1
     subst h1
     have hn:bA ids (ctr+j)=none:=by
      cases hq:bA ids (ctr+j)with
      |none=>rfl
      |some q=>have:=kr (ew hq);omega
     simp only[ρ2,hn]
     rw[if_pos ⟨by omega,by omega⟩,show ctr+j - ctr=j by omega]
     exact h2
  · simp at h1
 have On: ∀i j k,gJ ids ctr i=some k→gJ ids ctr j=some k→i=j:=by
  intro i j k h1 h2
  simp only[gJ]at h1 h2
  split at h1
  · split at h2
    · simp only[Option.some.injEq]at h1 h2
      cases hi:ids[i]? with
      |some id=>
       cases hj:ids[j]? with
       |some id'=>
        rw[hi]at h1;rw[hj]at h2
        simp only[Option.getD_some]at h1 h2
        subst h1;subst h2
        exact hidx hi hj
       |none=>
        rw[hi]at h1;rw[hj]at h2
        simp only[Option.getD_some,Option.getD_none]at h1 h2
        have:=kr hi
        omega
      |none=>
       cases hj:ids[j]? with
       |some id'=>
        rw[hi]at h1;rw[hj]at h2
        simp only[Option.getD_some,Option.getD_none]at h1 h2
        have:=kr hj
        omega
       |none=>
        rw[hi]at h1;rw[hj]at h2
        simp only[Option.getD_none]at h1 h2
        omega
    · simp at h2
  · simp at h1
 have hE:cN ρ ρ2:=by
  intro id l hl
  simp only[ρ2]
  cases hi:bA ids id with
  |some j=>
   have hj:=yw (ew hi)
   exact cC j l hj (QI id j l hi hl)
  |none=>
   simp only
   rw[if_neg]
   · exact hl
   · rintro⟨h1,_⟩
     have:=hr.fresh id h1
     rw[this]at hl
     simp at hl
 have CZ:cJ M w w':=dJ.weaken (fun i hi ho=>(Mw i hi ho).1)
 have hk:ej A A' w w':=⟨dJ.size,fun b hb JK=>⟨dJ.block b hb (fun hm=>JK (Mw b hb hm).2),fun h=>JK (hg.2 b hb h)⟩⟩
 have hM': ∀b,M' b→M b:=fun b hm=>by
  rcases Nat.lt_or_ge b w.heap.size with hlt|hge
  · exact(Mw b hlt hm).1
  · exact hr.may b hge
 refine⟨x,A',ρ2,rfl,⟨hr.size,hr.defers,fun t v hv=>(hr.tmps t v hv).keeps hk dJ.shape hE,fun k blk hf=>?_,fun k k' blk fH b h1 h2 r1 r2=>?_,fun k hk'=>?_,dl.bound,fun b hb=>hr.may b (Nat.le_trans dJ.size hb),hr.dN.EN CZ hg.2⟩,hv.au Oo,CZ,hE,hg⟩
 · simp only[cL,Option.or_eq_some_iff]at hf
   rcases hf with hf|⟨_,hf⟩
   · obtain⟨j,b',h1,h2,rfl⟩:=js On hf
     exact(dl.heap j b' h2).au Oo (fun l hl=>Oo j k l h1 hl) (fun b _ hm=>hM' b hm)
   · obtain⟨h1,h2⟩:=kK hf
     have hb:=hr.heap k blk h2
     refine hb.keeps hk dJ.shape hE hg.1 (fun b zK=>dJ.block b (hb.lt zK).1 ?_)
     intro hm
     rcases hm with⟨j,bl,hfj,Wt⟩|hm
     · obtain⟨i,id,b',rfl,q2,q3,_⟩:=bZ hfj
       simp only[Nat.zero_add,ρ0,q2,Option.bind_some]at Wt
       have:=hr.inj k id blk b' b h2 q3 zK Wt
       subst this
       exact iR h1 i q2
     · have:=(hb.lt zK).1
       omega
 · have old: ∀ {k:Nat} {bl:bu} {b:Nat},find (jE ids hp) k=some bl→ρ2 k=some (.fF b)→find hp k=some bl∧ρ k=some (.fF b)∧bA ids k=none∧b < w.heap.size:=by
    intro k bl b hf hρ
    obtain⟨g1,g2⟩:=kK hf
    obtain⟨l,hl⟩:=(hr.heap k bl g2).some
    have:=hE k l hl
    rw[this]at hρ
    simp only[Option.some.injEq]at hρ
    subst hρ
    exact⟨g2,hl,g1,((hr.heap k bl g2).lt hl).1⟩
   have new: ∀ {k:Nat} {bl:bu} {b:Nat},find (eX (gJ ids ctr) hout) k=some bl→ρ2 k=some (.fF b)→ ∃j b',gJ ids ctr j=some k∧find hout j=some b'∧ρ' j=some (.fF b):=by
    intro k bl b hf hρ
    obtain⟨j,b',g1,g2,_⟩:=js On hf
    obtain⟨l,hl⟩:=(dl.heap j b' g2).some
    have:=Oo j k l g1 hl
    rw[this]at hρ
    simp only[Option.some.injEq]at hρ
    subst hρ
    exact⟨j,b',g1,g2,hl⟩
   have OB: ∀ {k k':Nat} {bl BX:bu} {b:Nat},find (eX (gJ ids ctr) hout) k=some bl→ρ2 k=some (.fF b)→find (jE ids hp) k'=some BX→ρ2 k'=some (.fF b)→False:=by
    intro k k' bl BX b h1 r1 h2 r2
    obtain⟨j,b',g1,g2,g3⟩:=new h1 r1
    obtain⟨q1,q2,q3,q4⟩:=old h2 r2
    have hm:=((dl.heap j b' g2).lt g3).2.1
    rcases hm with⟨i,Tp,K8,hρi⟩|hm
    · obtain⟨i',id,b2,rfl,p2,p3,_⟩:=bZ K8
      simp only[Nat.zero_add,ρ0,p2,Option.bind_some]at hρi
      have:=hr.inj k' id BX b2 b q1 p3 q2 hρi
      subst this
      exact iR q3 i' p2
    · omega
   simp only[cL,Option.or_eq_some_iff]at h1 h2
   rcases h1 with h1|⟨_,h1⟩<;>rcases h2 with h2|⟨_,h2⟩
   · obtain⟨j,b',g1,g2,g3⟩:=new h1 r1
     obtain⟨j',b'',g1',g2',g3'⟩:=new h2 r2
     have:=dl.inj j j' b' b'' b g2 g2' g3 g3'
     subst this
     rw[g1]at g1'
     exact Option.some.inj g1'
   · exact(OB h1 r1 h2 r2).elim
   · exact(OB h2 r2 h1 r1).elim
   · obtain⟨q1,q2,_⟩:=old h1 r1
     obtain⟨q1',q2',_⟩:=old h2 r2
     exact hr.inj k k' _ _ b q1 q1' q2 q2'
 · simp only[bg]at hk'
   have hn:bA ids k=none:=by
    cases hq:bA ids k with
    |none=>rfl
    |some q=>have:=kr (ew hq);omega
   simp only[ρ2,hn]
   rw[if_neg (by omega)]
   exact hr.fresh k (by simp only[bg];omega)
theorem tT {f:FuncId} {us args:List W} {hp hin hout:List (Nat×bu)} {ctr:Nat} {res:V} (ids:List Nat) (hok:wy ids ctr=true) (hfn:Fn P f args hin res hout)
 (ha:us.map (W.au (bA ids))=args) (hh:cI (bA ids) hp 0 ids=hin):
 eM P f us hp ctr (res.au (gJ ids ctr)) (eX (gJ ids ctr) hout++jE ids hp) (ctr+4):=
 (BD ids hok hfn ha hh).m
theorem E0 {f:FuncId} {us args:List W} {hp hin:List (Nat×bu)} {res:V} (ids:List Nat) (hlen:ids.length≤4) (Hq:ids.Nodup) (hsub: ∀id,id∈ids→id∈us.flatMap W.ids) (hfn:Fn P f args hin res hin)
 (ha:us.map (W.au (bA ids))=args) (hh:cI (bA ids) hp 0 ids=hin)
 (C3: ∀id,id∈ids→ ∃b,find hp id=some b∧(b.au (bA ids)).au (fun j=>ids[j]?)=b):
 KW P hp f us (res.au (fun j=>ids[j]?)):=by
 subst ha
 have hidx: ∀ {i j id:Nat},ids[i]? =some id→ids[j]? =some id→i=j:=by
  intro i j id h1 h2
  obtain⟨hi,e1⟩:=List.getElem?_eq_some_iff.1 h1
  obtain⟨hj,e2⟩:=List.getElem?_eq_some_iff.1 h2
  exact(List.getElem_inj Hq).1 (e1.trans e2.symm)
 have hinv: ∀ {j id:Nat},ids[j]? =some id→bA ids id=some j:=by
  intro j id h
  cases hi:bA ids id with
  |none=>exact absurd h (iR hi j)
  |some k=>rw[hidx (ew hi) h]
 have yw: ∀ {j id:Nat},ids[j]? =some id→j < 4:=fun h=>by have:=(List.getElem?_eq_some_iff.1 h).1;omega
 intro hp2 hag M A ρ F a w n L xs hr hx
 have EC: ∀id,id∈ids→find hp2 id=find hp id:=fun id bG=>hag id (hsub id bG)
 have hsame: ∀ (l:List Nat) (j:Nat),(∀id,id∈l→id∈ids)→cI (bA ids) hp2 j l=cI (bA ids) hp j l:=by
  intro l
  induction l with
  |nil=>intro j _;rfl
  |cons x l ih=>
   intro j hl
   simp only[cI]
   rw[EC x (hl x List.mem_cons_self),ih (j+1) (fun id bG=>hl id (List.mem_cons_of_mem _ bG))]
 rw[←hsame ids 0 (fun _ h=>h)]at hh
 subst hh
 let ρ0:Env:=fun j=>(ids[j]?).bind ρ
 have QI: ∀id k l,bA ids id=some k→ρ id=some l→ρ0 k=some l:=by
  intro id k l h1 h2
  simp only[ρ0,ew h1,Option.bind_some,h2]
 let M':Nat→Prop:=fun b=>oM ρ0 (cI (bA ids) hp2 0 ids) b∨w.heap.size≤b
 have Mw: ∀b,b < w.heap.size→M' b→M b∧A b:=by
  intro b hb hm
  rcases hm with⟨j,blk,hf,hρ⟩|hm
  · obtain⟨i,id,b',rfl,h2,h3,_⟩:=bZ hf
    simp only[Nat.zero_add,ρ0,h2,Option.bind_some]at hρ
    exact((hr.heap id b' h3).lt hρ).2
  · omega
 have hH:HR M' A ρ0 (bg 4) (cI (bA ids) hp2 0 ids) w:=by
  refine⟨rfl,rfl,fun t v hv=>by simp[find]at hv,fun j blk hf=>?_,fun j j' blk fH b h1 h2 r1 r2=>?_,fun j hj=>?_,hr.bound,fun b hb=> .inr hb,hr.dN.sub (fun b hb hm=>(Mw b hb hm).1) (fun _ h=>h)⟩
  · obtain⟨i,id,b',rfl,h2,h3,rfl⟩:=bZ hf
    refine(hr.heap id b' h3).au QI (fun l hl=>by simp only[Nat.zero_add,ρ0,h2,Option.bind_some,hl]) (fun b hb _=> .inl ⟨0+i,_,hf,by simp only[Nat.zero_add,ρ0,h2,Option.bind_some,hb]⟩)
  · obtain⟨i,id,b1,rfl,h3,h4,_⟩:=bZ h1
    obtain⟨i',id',b2,rfl,BV,Rm,_⟩:=bZ h2
    simp only[Nat.zero_add,ρ0,h3,BV,Option.bind_some]at r1 r2
    have:=hr.inj id id' b1 b2 b h4 Rm r1 r2
    subst this
    rw[hidx h3 BV]
  · simp only[ρ0]
    rw[List.getElem?_eq_none (by simp only[bg]at hj;omega)]
    rfl
 have hx':vq w A ρ0 (us.map (W.au (bA ids))) xs.toList:=by
  refine⟨by simpa using hx.1,fun k u y hu hy=>?_⟩
  simp only[List.getElem?_map,Option.map_eq_some_iff]at hu
  obtain⟨u',A4,rfl⟩:=hu
  exact(hx.2 k u' y A4 hy).au QI
 refine(hfn w A ρ0 xs hH hx').mono ?_
 rintro e w' ⟨x,A',ρ',F',rfl,hv,dl,dJ,cC,hg⟩
 let ρ2:Env:=fun k=>match bA ids k with
  |some j=>ρ' j
  |none=>ρ k
 have Oo: ∀j k l,ids[j]? =some k→ρ' j=some l→ρ2 k=some l:=by
  intro j k l h1 h2
  simp only[ρ2,hinv h1]
  exact h2
 have hE:cN ρ ρ2:=by
  intro id l hl
  simp only[ρ2]
  cases hi:bA ids id with
  |some j=>exact cC j l (yw (ew hi)) (QI id j l hi hl)
  |none=>exact hl
 have CZ:cJ M w w':=dJ.weaken (fun i hi ho=>(Mw i hi ho).1)
 have hk:ej A A' w w':=⟨dJ.size,fun b hb JK=>⟨dJ.block b hb (fun hm=>JK (Mw b hb hm).2),fun h=>JK (hg.2 b hb h)⟩⟩
 have hM': ∀b,M' b→M b:=fun b hm=>by
  rcases Nat.lt_or_ge b w.heap.size with hlt|hge
  · exact(Mw b hlt hm).1
  · exact hr.may b hge
 have aeN: ∀ (l:List Nat) (s i id:Nat) (b:bu),l.Nodup→l[i]? =some id→find hp2 id=some b→find (cI (bA ids) hp2 s l) (s+i)=some (b.au (bA ids)):=by
  intro l
  induction l with
  |nil=>intro s i id b _ h;simp at h
  |cons y l ih=>
   intro s i id b Hq h hf
   cases i with
   |zero=>
    simp only[List.getElem?_cons_zero,Option.some.injEq]at h
    subst h
    simp only[cI,hf,find,Nat.add_zero,if_true]
   |succ i=>
    simp only[List.getElem?_cons_succ]at h
    have:=ih (s+1) i id b (List.nodup_cons.1 Hq).2 h hf
    rw[show s+(i+1)=s+1+i by omega]
    simp only[cI]
    split
    · rw[ai,if_neg (by omega)];exact this
    · exact this
 have same: ∀ {k:Nat} {l:_},ρ k=some l→ρ2 k=some l:=fun h=>hE _ _ h
 refine⟨x,A',ρ2,rfl,⟨hr.size,hr.defers,fun t v hv=>(hr.tmps t v hv).keeps hk dJ.shape hE,fun k blk hf=>?_,fun k k' blk fH b h1 h2 r1 r2=>?_,fun k hk'=>?_,dl.bound,fun b hb=>hr.may b (Nat.le_trans dJ.size hb),hr.dN.EN CZ hg.2⟩,hv.au Oo,CZ,hE,hg⟩
 · cases hi:bA ids k with
   |some j=>
    have Q5:=ew hi
    have Eu:=aeN ids 0 j k blk Hq Q5 hf
    rw[Nat.zero_add]at Eu
    have hb:=dl.heap j _ Eu
    have:=hb.au (f:=fun j=>ids[j]?) (ρ2:=ρ2) (M2:=M) (k:=k) Oo (fun l hl=>Oo j k l Q5 hl) (fun b _ hm=>hM' b hm)
    obtain⟨b0,hb0,pZ⟩:=C3 k (List.mem_of_getElem? Q5)
    rw[←EC k (List.mem_of_getElem? Q5),hf]at hb0
    rw[←Option.some.inj hb0]at pZ
    rw[pZ]at this
    exact this
   |none=>
    have hb:=hr.heap k blk hf
    refine hb.keeps hk dJ.shape hE hg.1 (fun b zK=>dJ.block b (hb.lt zK).1 ?_)
    intro hm
    rcases hm with⟨j,bl,hfj,Wt⟩|hm
    · obtain⟨i,id,b',rfl,q2,q3,_⟩:=bZ hfj
      simp only[Nat.zero_add,ρ0,q2,Option.bind_some]at Wt
      have:=hr.inj k id blk b' b hf q3 zK Wt
      subst this
      exact iR hi i q2
    · have:=(hb.lt zK).1
      omega
 · obtain⟨l,hl⟩:=(hr.heap k blk h1).some
   obtain⟨l',hl'⟩:=(hr.heap k' fH h2).some
   have e1:=same hl
   have e2:=same hl'
   rw[e1]at r1
   rw[e2]at r2
   simp only[Option.some.injEq]at r1 r2
   subst r1
   subst r2
   exact hr.inj k k' blk fH b h1 h2 hl hl'
 · have h0:=hr.fresh k hk'
   cases hi:bA ids k with
   |none=>simp only[ρ2,hi];exact h0
   |some j=>
    exfalso
    have Q5:=ew hi
    obtain⟨b0,hb0,_⟩:=C3 k (List.mem_of_getElem? Q5)
    rw[←EC k (List.mem_of_getElem? Q5)]at hb0
    obtain⟨l,hl⟩:=(hr.heap k b0 hb0).some
    rw[h0]at hl
    simp at hl
end Go.aR
end
