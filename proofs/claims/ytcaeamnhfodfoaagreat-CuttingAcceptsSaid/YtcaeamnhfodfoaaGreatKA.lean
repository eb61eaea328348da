import GoSem.Claim
import Derived.Orders
import Derived.Below
import Derived.KernelRfl
import Derived.Laws.AppendOwn
import Derived.Laws.CopyRow
import Derived.MapKept
import Derived.Laws.BytesArg
import Derived.Laws.StructEq
set_option linter.all false
section
namespace Go.aS
open Go
def I9:List (Nat×List Value):=[]
def Aj:List (Nat×List Value)→Nat→Option (List Value)
 | [],_=>none
 |(k,v)::r,t=>if k=t then some v else Aj r t
def RN (t:TypeId) (len:Nat):Bool:=Nat.beq t 77&&Nat.beq len 3
def RL (t x h:Nat):Bool:=Nat.beq t 77&&Nat.beq x 17&&Nat.beq h 19
def W9:Nat:=255
def Sj:List Nat:=[0,1,228]
end Go.aS
end
section
namespace Go.aS
open Go
inductive T where
 |val (v:Value)
 |av (sz:Nat) (xs:List (List T))
 deriving Inhabited
abbrev Lz:=List (List T)
inductive Loc where
 |iU
 |fz (b:Nat)
abbrev cD:Value→Bool:=Value.oneCell'
inductive RT (w:World) (A:Nat→Prop):T→Value→Prop
 |val {v:Value} (h:cD v=true):RT w A (.val v) v
 |nil {sz:Nat} {a:Option Addr} {cap:Nat}:RT w A (.av sz []) (.slice a 0 cap)
 |av {sz:Nat} {xs:Lz} {b off len cap:Nat} (f:Nat→Nat→Value) (hl:len=xs.length) (hcap:len≤cap)
   (hb:b < w.heap.size) (hA:¬A b) (hsz: ∀e,e∈xs→e.length=sz)
   (hc: ∀ (i:Nat) (e:List T) (j:Nat) (c:T),xs[i]? =some e→e[j]? =some c→w.cell? ⟨b,off+i * sz+j,none⟩=some (f i j))
   (hr: ∀ (i:Nat) (e:List T) (j:Nat) (c:T),xs[i]? =some e→e[j]? =some c→RT w A c (f i j)):RT w A (.av sz xs) (.slice (some ⟨b,off,none⟩) len cap)
theorem RT.cell {w:World} {A:Nat→Prop} {t:T} {x:Value} (h:RT w A t x):cD x=true:=by
 cases h with
 |val h=>exact h
 |nil=>rfl
 |av=>rfl
structure df (O:Nat→Prop) (w w':World):Prop where
 os:w'.os=w.os
 tape:w'.tape=w.tape
 output:w'.output=w.output
 size:w.heap.size≤w'.heap.size
 block: ∀k,k < w.heap.size→¬O k→w'.heap[k]? =w.heap[k]?
 shape: ∀k,k < w.heap.size→w'.shape? k=w.shape? k
theorem df.refl (O:Nat→Prop) (w:World):df O w w:=⟨rfl,rfl,rfl,Nat.le_refl _,fun _ _ _=>rfl,fun _ _=>rfl⟩
theorem df.trans {O:Nat→Prop} {a b c:World} (h:df O a b) (k:df O b c):df O a c:=
 ⟨k.os.trans h.os,k.tape.trans h.tape,k.output.trans h.output,Nat.le_trans h.size k.size,
  fun i hi ho=>(k.block i (Nat.lt_of_lt_of_le hi h.size) ho).trans (h.block i hi ho),
  fun i hi=>(k.shape i (Nat.lt_of_lt_of_le hi h.size)).trans (h.shape i hi)⟩
theorem df.weaken {O O':Nat→Prop} {a b:World} (h:df O a b) (hO: ∀i,i < a.heap.size→O i→O' i):df O' a b:=
 ⟨h.os,h.tape,h.output,h.size,fun i hi ho=>h.block i hi (fun h'=>ho (hO i hi h')),h.shape⟩
theorem df.alloc (O:Nat→Prop) (w:World) (o:Obj):df O w (w.alloc o):=
 ⟨rfl,rfl,rfl,by simp,fun k hk _=>RowKit.Below.heap_alloc w o k hk,fun k hk=>by
   have:=RowKit.Below.heap_alloc w o k hk
   simp only[World.shape?,this]⟩
theorem df.drew (O:Nat→Prop) (w:World):df O w {w with drawn:=w.drawn+1}:=
 ⟨rfl,rfl,rfl,Nat.le_refl _,fun _ _ _=>rfl,fun _ _=>rfl⟩
def dZ (A A':Nat→Prop) (w w':World):Prop:=
 w.heap.size≤w'.heap.size∧ ∀b,b < w.heap.size→¬A b→(w'.heap[b]? =w.heap[b]? ∧¬A' b)
theorem kn {w w':World} {a:Addr} (h:w'.heap[a.block]? =w.heap[a.block]?):w'.cell? a=w.cell? a:=by simp[World.cell?,h]
theorem RT.keeps {A A':Nat→Prop} {w w':World} (hk:dZ A A' w w') {t:T} {x:Value} (h:RT w A t x):RT w' A' t x:=by
 induction h with
 |val h=>exact .val h
 |nil=>exact .nil
 |av f hl hcap hb hA hsz hc hr ih=>
  obtain⟨h1,h2⟩:=hk.2 _ hb hA
  refine .av f hl hcap (Nat.lt_of_lt_of_le hb hk.1) h2 hsz (fun i e j c he hj=>?_) ih
  rw[kn (w:=w) h1]
  exact hc i e j c he hj
inductive C where
 |t (x:T)
 |own (id sz i len:Nat)
 |ptr (id sz i j:Nat)
 |rG (e:List T) (j:Nat)
 |jY (f:FuncId) (cZ:List (Nat×Nat×Nat×Nat))
 |map (id:Nat)
 |it (id:Nat)
 |kP (f:FuncId) (g:Bool) (ts:List T)
 |pk (ts:List T)
 |any
 deriving Inhabited
abbrev Env:=Nat→Option Loc
def RP (ρ:Env) (id sz i j:Nat) (x:Value):Prop:=
 ∃b,ρ id=some (.fz b)∧x= .pointer (some ⟨b,i * sz+j,none⟩)
def RF (w:World) (A:Nat→Prop) (g:Bool) (ts:List T) (x:Value):Prop:=
 match g with
 |true=> ∃vs:Array Value,x= .agg vs∧ts.length=vs.size∧ ∀ (k:Nat) (t:T) (y:Value),ts[k]? =some t→vs[k]? =some y→RT w A t y∧cD y=true
 |false=> ∃t,ts=[t]∧RT w A t x∧cD x=true
theorem RF.keeps {A A':Nat→Prop} {w w':World} (hk:dZ A A' w w') {g:Bool} {ts:List T} {x:Value} (h:RF w A g ts x):RF w' A' g ts x:=by
 cases g with
 |true=>
  obtain⟨vs,h1,h2,h3⟩:=h
  exact⟨vs,h1,h2,fun k t y ht hy=>⟨(h3 k t y ht hy).1.keeps hk,(h3 k t y ht hy).2⟩⟩
 |false=>
  obtain⟨t,h1,h2,h3⟩:=h
  exact⟨t,h1,h2.keeps hk,h3⟩
def RC (w:World) (A:Nat→Prop) (ρ:Env):C→Value→Prop
 | .t x,v=>RT w A x v
 | .own id sz i len,v=>
    (∃b cap n e,ρ id=some (.fz b)∧v= .slice (some ⟨b,i * sz,none⟩) len cap∧len≤cap∧
      w.shape? b=some (e,n)∧i * sz+cap * sz≤n)∨
    (ρ id=some .iU∧i=0∧len=0∧v= .slice none 0 0)
 | .ptr id sz i j,v=>RP ρ id sz i j v
 | .rG e j,v=> ∃b o, ∃f:Nat→Value,v= .pointer (some ⟨b,o+j,none⟩)∧b < w.heap.size∧¬A b∧
    (∀ (k:Nat) (c:T),e[k]? =some c→w.cell? ⟨b,o+k,none⟩=some (f k)∧RT w A c (f k))
 | .jY f cZ,v=> ∃vs:Array Value,v= .func (.func f) #[] vs∧cZ.length=vs.size∧
    ∀ (k id sz i j:Nat) (x:Value),cZ[k]? =some (id,sz,i,j)→vs[k]? =some x→RP ρ id sz i j x
 | .map id,v=> ∃b,ρ id=some (.fz b)∧v= .map (some b)
 | .it id,v=> ∃b r since last,ρ id=some (.fz b)∧v= .pointer (some ⟨r,0,none⟩)∧r < w.heap.size∧¬A r∧w.heap[r]? =some (.mapIter (some b) since #[] last)
 | .kP f g ts,v=> ∃x,v= .func (.func f) #[x] #[]∧RF w A g ts x
 | .pk ts,v=>RF w A true ts v
 | .any,_=>True
def cU (ρ ρ':Env):Prop:= ∀id l,ρ id=some l→ρ' id=some l
theorem RP.ext {ρ ρ':Env} (h:cU ρ ρ') {id sz i j:Nat} {x:Value} (hp:RP ρ id sz i j x):RP ρ' id sz i j x:=by
 obtain⟨b,h1,h2⟩:=hp
 exact⟨b,h _ _ h1,h2⟩
theorem RC.keeps {A A':Nat→Prop} {ρ ρ':Env} {w w':World} (hk:dZ A A' w w') (hs: ∀k,k < w.heap.size→w'.shape? k=w.shape? k)
 (hρ:cU ρ ρ') {c:C} {x:Value} (h:RC w A ρ c x):RC w' A' ρ' c x:=by
 cases c with
 |t y=>exact RT.keeps hk h
 |own id sz i len=>
  rcases h with⟨b,cap,n,e,h1,h2,h3,h4,h5⟩|⟨h1,h2⟩
  · refine .inl ⟨b,cap,n,e,hρ _ _ h1,h2,h3,?_,h5⟩
    rw[hs b ?_,h4]
    rcases Nat.lt_or_ge b w.heap.size with hlt|hge
    · exact hlt
    · simp[World.shape?,Array.getElem?_eq_none hge]at h4
  · exact .inr ⟨hρ _ _ h1,h2⟩
 |ptr id sz i j=>exact RP.ext hρ h
 |rG e j=>
  obtain⟨b,o,f,h1,h2,h3,h4⟩:=h
  obtain⟨k1,k2⟩:=hk.2 _ h2 h3
  refine⟨b,o,f,h1,Nat.lt_of_lt_of_le h2 hk.1,k2,fun k c hc=>?_⟩
  obtain⟨h5,h6⟩:=h4 k c hc
  exact⟨by rw[kn (w:=w) k1];exact h5,RT.keeps hk h6⟩
 |jY f cZ=>
  obtain⟨vs,h1,h2,h3⟩:=h
  exact⟨vs,h1,h2,fun k id sz i j x hc hv=>RP.ext hρ (h3 k id sz i j x hc hv)⟩
 |map id=>
  obtain⟨b,h1,h2⟩:=h
  exact⟨b,hρ _ _ h1,h2⟩
 |it id=>
  obtain⟨b,r,since,last,h1,h2,h3,h4,h5⟩:=h
  obtain⟨k1,k2⟩:=hk.2 _ h3 h4
  exact⟨b,r,since,last,hρ _ _ h1,h2,Nat.lt_of_lt_of_le h3 hk.1,k2,by rw[k1];exact h5⟩
 |kP f g ts=>
  obtain⟨x,h1,h2⟩:=h
  exact⟨x,h1,h2.keeps hk⟩
 |pk ts=>exact RF.keeps (g:=true) (ts:=ts) (x:=x) hk h
 |any=>trivial
inductive W where
 |one (c:C)
 |agg (cs:List C)
 deriving Inhabited
inductive V where
 |w (x:W)
 |dQ (ws:List W)
 |undef
 deriving Inhabited
def tq (w:World) (A:Nat→Prop) (ρ:Env) (cs:List C) (vs:Array Value):Prop:=
 cs.length=vs.size∧ ∀ (k:Nat) (c:C) (x:Value),cs[k]? =some c→vs[k]? =some x→RC w A ρ c x∧cD x=true
def RW (w:World) (A:Nat→Prop) (ρ:Env):W→Value→Prop
 | .one c,v=>RC w A ρ c v∧cD v=true
 | .agg cs,v=> ∃vs,v= .agg vs∧tq w A ρ cs vs
def RV (w:World) (A:Nat→Prop) (ρ:Env):V→Value→Prop
 | .w x,v=>RW w A ρ x v
 | .dQ ws,v=> ∃vs:Array Value,v= .tuple vs∧ws.length=vs.size∧ ∀ (k:Nat) (u:W) (x:Value),ws[k]? =some u→vs[k]? =some x→RW w A ρ u x
 | .undef,_=>True
theorem tq.keeps {A A':Nat→Prop} {ρ ρ':Env} {w w':World} (hk:dZ A A' w w') (hs: ∀k,k < w.heap.size→w'.shape? k=w.shape? k)
 (hρ:cU ρ ρ') {cs:List C} {vs:Array Value} (h:tq w A ρ cs vs):tq w' A' ρ' cs vs:=
 ⟨h.1,fun k c x hc hx=>⟨(h.2 k c x hc hx).1.keeps hk hs hρ,(h.2 k c x hc hx).2⟩⟩
theorem RW.keeps {A A':Nat→Prop} {ρ ρ':Env} {w w':World} (hk:dZ A A' w w') (hs: ∀k,k < w.heap.size→w'.shape? k=w.shape? k)
 (hρ:cU ρ ρ') {u:W} {x:Value} (h:RW w A ρ u x):RW w' A' ρ' u x:=by
 cases u with
 |one c=>exact⟨h.1.keeps hk hs hρ,h.2⟩
 |agg cs=>obtain⟨vs,h1,h2⟩:=h;exact⟨vs,h1,h2.keeps hk hs hρ⟩
theorem RV.keeps {A A':Nat→Prop} {ρ ρ':Env} {w w':World} (hk:dZ A A' w w') (hs: ∀k,k < w.heap.size→w'.shape? k=w.shape? k)
 (hρ:cU ρ ρ') {u:V} {x:Value} (h:RV w A ρ u x):RV w' A' ρ' u x:=by
 cases u with
 |w y=>exact RW.keeps hk hs hρ h
 |dQ ws=>obtain⟨vs,h1,h2,h3⟩:=h;exact⟨vs,h1,h2,fun k u x hu hx=>(h3 k u x hu hx).keeps hk hs hρ⟩
 |undef=>trivial
def C.IC:C→Bool
 | .pk _=>true
 |_=>false
def yj (c:C) (v:Value):Prop:=cD v=true∨c.IC=true
def cw:C→W
 | .pk ts=> .agg (ts.map .t)
 |c=> .one c
theorem NY {c:C} (h:c.IC=false):cw c= .one c:=by cases c<;>simp[C.IC]at h<;>rfl
theorem yj.rw {w:World} {A:Nat→Prop} {ρ:Env} {c:C} {v:Value} (ho:yj c v) (h:RC w A ρ c v):RW w A ρ (cw c) v:=by
 cases hp:c.IC with
 |false=>
  rw[NY hp]
  exact⟨h,ho.elim id (fun e=>by rw[hp]at e;simp at e)⟩
 |true=>
  cases c<;>simp[C.IC]at hp
  obtain⟨vs,h1,h2,h3⟩:=h
  refine⟨vs,h1,by simpa using h2,fun k c x hc hx=>?_⟩
  simp only[List.getElem?_map,Option.map_eq_some_iff]at hc
  obtain⟨t,ht,rfl⟩:=hc
  exact h3 k t x ht hx
theorem yj.pk {w:World} {A:Nat→Prop} {ρ:Env} {ts:List T} {v:Value} (h:RW w A ρ (.agg (ts.map .t)) v):RC w A ρ (.pk ts) v∧yj (.pk ts) v:=by
 obtain⟨vs,h1,h2⟩:=h
 exact⟨⟨vs,h1,by simpa using h2.1,fun k t y ht hy=>h2.2 k (.t t) y (by simp[ht]) hy⟩, .inr rfl⟩
inductive bi where
 |row (sz:Nat) (xs:List (List C))
 |mp (es:List (Value×C×Nat)) (clock:Nat)
 deriving Inhabited
def HB (w:World) (M A:Nat→Prop) (ρ:Env) (id:Nat):bi→Prop
 | .row sz xs=>
   (∀e,e∈xs→e.length=sz)∧
   ((∃b c e,ρ id=some (.fz b)∧M b∧A b∧w.heap[b]? =some (.cells c e (0,0))∧xs.length * sz≤c.size∧
     ∀ (i:Nat) (el:List C) (j:Nat) (k:C),xs[i]? =some el→el[j]? =some k→ ∃x,c[i * sz+j]? =some x∧RC w A ρ k x∧cD x=true)∨
   (ρ id=some .iU∧xs=[]))
 | .mp es clock=> ∃ (b:Nat) (en:Array MapEntry),ρ id=some (.fz b)∧M b∧A b∧w.heap[b]? =some (.map en clock)∧en.size=es.length∧
    ∀ (i:Nat) (k:Value) (c:C) (n:Nat),es[i]? =some (k,c,n)→ ∃e,en[i]? =some e∧e.key=k∧e.born=n∧RC w A ρ c e.val∧yj c e.val
def find {α:Type}:List (Nat×α)→Nat→Option α
 | [],_=>none
 |(k,v)::r,t=>if k=t then some v else find r t
structure St where
 n:Nat
 tmps:List (Nat×V)
 heap:List (Nat×bi)
 deriving Inhabited
def St.put (st:St) (dst:Option Tmp) (v:V):St:=
 match dst with
 |some d=>{st with tmps:=(d,v)::st.tmps}
 |none=>st
def zX (M A:Nat→Prop) (w:World):Prop:=
 ∀g vs,Aj I9 g=some vs→g < w.heap.size∧¬M g∧¬A g∧(∃t fr,w.heap[g]? =some (.cells vs.toArray t fr))∧ ∀ (k:Nat) (v:Value),vs[k]? =some v→w.cell? ⟨g,k,none⟩=some v∧cD v=true
theorem zX.sub {M M' A A':Nat→Prop} {w:World} (h:zX M A w) (hM: ∀b,b < w.heap.size→M' b→M b) (hA: ∀b,A' b→A b):zX M' A' w:=fun g vs hg=>
 ⟨(h g vs hg).1,fun k=>(h g vs hg).2.1 (hM _ (h g vs hg).1 k),fun k=>(h g vs hg).2.2.1 (hA _ k),(h g vs hg).2.2.2⟩
structure Rel (M A:Nat→Prop) (ρ:Env) (F:Nat→Prop) (st:St) (a:Act) (w:World):Prop where
 size:a.tmps.size=st.n
 defers:a.defers=[]
 tmps: ∀t v,find st.tmps t=some v→RV w A ρ v (a.tmps.getD t undef)
 heap: ∀id blk,find st.heap id=some blk→HB w M A ρ id blk
 inj: ∀id id' blk fp b,find st.heap id=some blk→find st.heap id'=some fp→ρ id=some (.fz b)→ρ id'=some (.fz b)→id=id'
 fresh: ∀id,F id→ρ id=none
 bound: ∀b,A b→b < w.heap.size
 may: ∀b,w.heap.size≤b→M b
 dX:zX M A w
def bE (A A':Nat→Prop) (w:World):Prop:=(∀b,A b→A' b)∧ ∀b,b < w.heap.size→A' b→A b
theorem zX.Fk {M A A':Nat→Prop} {w w':World} (h:zX M A w) (he:df M w w') (hA: ∀b,b < w.heap.size→A' b→A b):zX M A' w':=fun g vs hg=>by
 obtain⟨h1,h2,h3,hb,h4⟩:=h g vs hg
 refine⟨Nat.lt_of_lt_of_le h1 he.size,h2,fun k=>h3 (hA g h1 k),by rw[he.block g h1 h2];exact hb,fun k v hk=>?_⟩
 obtain⟨h5,h6⟩:=h4 k v hk
 exact⟨by rw[kn (w:=w) (he.block g h1 h2)];exact h5,h6⟩
theorem bE.refl (A:Nat→Prop) (w:World):bE A A w:=⟨fun _ h=>h,fun _ _ h=>h⟩
theorem bE.new (A:Nat→Prop) (w:World):bE A (fun b=>A b∨b=w.heap.size) w:=
 ⟨fun _ h=> .inl h,fun b hb h=>h.elim id (fun e=>by omega)⟩
theorem bE.trans {A A' A'':Nat→Prop} {w w':World} (h:bE A A' w) (k:bE A' A'' w') (hw:w.heap.size≤w'.heap.size):bE A A'' w:=
 ⟨fun b hb=>k.1 b (h.1 b hb),fun b hb h'=>h.2 b hb (k.2 b (Nat.lt_of_lt_of_le hb hw) h')⟩
def Sub (F:Nat→Prop) (nid:Nat):Nat→Prop:=fun id=>F id∧¬ (nid≤id∧id < nid+4)
def nO (M A:Nat→Prop) (ρ:Env) (F:Nat→Prop) (a:Act) (w:World) (r:Result Next) (st':St) (v:V):Prop:=
 ∃x w' A' ρ',(r= .ok (.value x) w'∨(r= .ok .skip w'∧x=undef))∧Rel M A' ρ' F st' a w'∧RV w' A' ρ' v x∧df M w w'∧cU ρ ρ'∧bE A A' w
theorem Rel.sub {M A:Nat→Prop} {ρ:Env} {F F':Nat→Prop} {st:St} {a:Act} {w:World} (h:Rel M A ρ F st a w) (hF: ∀id,F' id→F id):Rel M A ρ F' st a w:=
 ⟨h.size,h.defers,h.tmps,h.heap,h.inj,fun id hi=>h.fresh id (hF id hi),h.bound,h.may,h.dX⟩
theorem cU.refl (ρ:Env):cU ρ ρ:=fun _ _ h=>h
theorem cU.trans {a b c:Env} (h:cU a b) (k:cU b c):cU a c:=fun i l hi=>k i l (h i l hi)
theorem nO.same {M A:Nat→Prop} {ρ:Env} {F F':Nat→Prop} {st:St} {a:Act} {w:World} {r:Result Next} {v:V} {x:Value}
 (hr:Rel M A ρ F st a w) (hF: ∀id,F' id→F id) (h:r= .ok (.value x) w) (hv:RV w A ρ v x):nO M A ρ F' a w r st v:=
 ⟨x,w,A,ρ, .inl h,hr.sub hF,hv,df.refl _ _,cU.refl _,bE.refl A w⟩
theorem aq {α:Type} (k:Nat) (v:α) (r:List (Nat×α)) (t:Nat):find ((k,v)::r) t=if k=t then some v else find r t:=rfl
theorem Rel.put {M A:Nat→Prop} {ρ:Env} {F:Nat→Prop} {st:St} {a:Act} {w:World} (h:Rel M A ρ F st a w) {dst:Option Tmp} {v:V} {x:Value}
 (hv:RV w A ρ v x) (hd: ∀d,dst=some d→d < st.n):Rel M A ρ F (st.put dst v) (a.put dst x) w:=by
 cases dst with
 |none=>exact h
 |some d=>
  refine⟨by simp[Act.put,St.put,h.size],h.defers,fun t u hu=>?_,h.heap,h.inj,h.fresh,h.bound,h.may,h.dX⟩
  simp only[St.put,aq]at hu
  simp only[Act.put]
  split at hu
  · rename_i Yx
    subst Yx
    simp only[Option.some.injEq]at hu
    subst hu
    have:=hd d rfl
    rw[←h.size]at this
    simpa[Array.getD_eq_getD_getElem?,Array.getElem?_setIfInBounds_self,this]using hv
  · rename_i Yx
    have:=h.tmps t u hu
    simpa[Array.getD_eq_getD_getElem?,Array.getElem?_setIfInBounds_ne Yx]using this
theorem Rel.drew {M A:Nat→Prop} {ρ:Env} {F:Nat→Prop} {st:St} {a:Act} {w:World} (h:Rel M A ρ F st a w):
 Rel M A ρ F st a {w with drawn:=w.drawn+1}:=by
 have hk:dZ A A w {w with drawn:=w.drawn+1}:=⟨Nat.le_refl _,fun b _ hn=>⟨rfl,hn⟩⟩
 refine⟨h.size,h.defers,fun t v hv=>(h.tmps t v hv).keeps hk (fun _ _=>rfl) (cU.refl _),fun id blk hb=>?_,h.inj,h.fresh,h.bound,h.may,h.dX⟩
 have:=h.heap id blk hb
 cases blk with
 |row sz xs=>
  obtain⟨h1,h2⟩:=this
  refine⟨h1,?_⟩
  rcases h2 with⟨b,c,e,k1,k2,k3,k4,k5,k6⟩|h2
  · refine .inl ⟨b,c,e,k1,k2,k3,k4,k5,fun i el j k hi hj=>?_⟩
    obtain⟨x,hx,hc,hcell⟩:=k6 i el j k hi hj
    exact⟨x,hx,hc.keeps hk (fun _ _=>rfl) (cU.refl _),hcell⟩
  · exact .inr h2
 |mp es clock=>
  obtain⟨b,en,k1,k2,k3,k4,k5,k6⟩:=this
  refine⟨b,en,k1,k2,k3,k4,k5,fun i k c n hi=>?_⟩
  obtain⟨e,h1,h2,h3,h4,h5⟩:=k6 i k c n hi
  exact⟨e,h1,h2,h3,h4.keeps hk (fun _ _=>rfl) (cU.refl _),h5⟩
theorem HB.keeps {M A A':Nat→Prop} {ρ ρ':Env} {w w':World} {id:Nat} {blk:bi} (hk:dZ A A' w w') (hs: ∀k,k < w.heap.size→w'.shape? k=w.shape? k)
 (hρ:cU ρ ρ') (hA: ∀b,A b→A' b) (hsame: ∀b,ρ id=some (.fz b)→w'.heap[b]? =w.heap[b]?) (h:HB w M A ρ id blk):HB w' M A' ρ' id blk:=by
 cases blk with
 |row sz xs=>
  obtain⟨h1,h2⟩:=h
  refine⟨h1,?_⟩
  rcases h2 with⟨b,c,e,k1,k2,k3,k4,k5,k6⟩|⟨h2,h3⟩
  · refine .inl ⟨b,c,e,hρ _ _ k1,k2,hA _ k3,by rw[hsame b k1];exact k4,k5,fun i el j k hi hj=>?_⟩
    obtain⟨x,hx,hc,hcell⟩:=k6 i el j k hi hj
    exact⟨x,hx,hc.keeps hk hs hρ,hcell⟩
  · exact .inr ⟨hρ _ _ h2,h3⟩
 |mp es clock=>
  obtain⟨b,en,k1,k2,k3,k4,k5,k6⟩:=h
  refine⟨b,en,hρ _ _ k1,k2,hA _ k3,by rw[hsame b k1];exact k4,k5,fun i k c n hi=>?_⟩
  obtain⟨e,h1,h2,h3,h4,h5⟩:=k6 i k c n hi
  exact⟨e,h1,h2,h3,h4.keeps hk hs hρ,h5⟩
def iJ (ρ ρ':Env):Prop:= ∀id l,id < 4→ρ id=some l→ρ' id=some l
theorem cU.K3 {ρ ρ':Env} (h:cU ρ ρ'):iJ ρ ρ':=fun id l _ hl=>h id l hl
theorem iJ.refl (ρ:Env):iJ ρ ρ:=fun _ _ _ h=>h
theorem iJ.trans {a b c:Env} (h:iJ a b) (k:iJ b c):iJ a c:=fun i l hi hl=>k i l hi (h i l hi hl)
end Go.aS
end
section
namespace Go.aS
open Go
def V.ofValue (v:Value):V:=
 match v with
 | .agg cs=>if cs.toList.all cD then .w (.agg (cs.toList.map fun c=> .t (.val c)))else .undef
 | .tuple _=> .undef
 |v=> .w (.one (.t (.val v)))
theorem RV.ofValue (w:World) (A:Nat→Prop) (ρ:Env) (v:Value):RV w A ρ (V.ofValue v) v:=by
 cases v
 case agg cs=>
  simp only[V.ofValue]
  split
  · rename_i h
    refine⟨cs,rfl,by simp,fun k c x hc hx=>?_⟩
    simp only[List.getElem?_map,Array.getElem?_toList,hx,Option.map_some,Option.some.injEq]at hc
    subst hc
    have hm:x∈cs.toList:=by
     have:=List.mem_of_getElem? (l:=cs.toList) (i:=k) (a:=x) (by simpa using hx)
     exact this
    have:=List.all_eq_true.1 h x hm
    exact⟨.val this,this⟩
  · trivial
 case tuple=>trivial
 all_goals exact⟨.val rfl,rfl⟩
def Hw (g:Nat):V:=
 match Aj I9 g with
 |some vs=> .w (.one (.rG (vs.map .val) 0))
 |none=>V.ofValue (.pointer (some ⟨g,0,none⟩))
def St.get (st:St):Operand→V
 | .tmp t=>(find st.tmps t).getD .undef
 | .const v=>V.ofValue v
 | .global g=>Hw g
 | .func f=>V.ofValue (.func (.func f) #[] #[])
theorem Rel.get {M A:Nat→Prop} {ρ:Env} {F:Nat→Prop} {st:St} {a:Act} {w:World} (h:Rel M A ρ F st a w) (x:Operand):RV w A ρ (st.get x) (a.eval x):=by
 cases x with
 |tmp t=>
  simp only[St.get,Act.eval]
  cases ht:find st.tmps t with
  |none=>trivial
  |some v=>exact h.tmps t v ht
 |const v=>exact RV.ofValue w A ρ v
 |global g=>
  simp only[St.get,Act.eval,Hw]
  cases hg:Aj I9 g with
  |none=>exact RV.ofValue w A ρ (.pointer (some ⟨g,0,none⟩))
  |some vs=>
   obtain⟨h1,h2,h3,_,h4⟩:=h.dX g vs hg
   refine⟨⟨g,0,fun k=>(vs[k]?).getD undef,rfl,h1,h3,fun k c hc=>?_⟩,rfl⟩
   simp only[List.getElem?_map,Option.map_eq_some_iff]at hc
   obtain⟨v,hv,rfl⟩:=hc
   obtain⟨h5,h6⟩:=h4 k v hv
   simp only[hv,Option.getD_some,Nat.zero_add]
   exact⟨h5, .val h6⟩
 |func f=>exact RV.ofValue w A ρ (.func (.func f) #[] #[])
def C.val?:C→Option Value
 | .t (.val v)=>some v
 |_=>none
def fU:List C→Option (List Value)
 | []=>some []
 |c::cs=>match c.val?,fU cs with
  |some v,some vs=>some (v::vs)
  |_,_=>none
def W.val?:W→Option Value
 | .one c=>c.val?
 | .agg cs=>(fU cs).map fun vs=> .agg vs.toArray
def oo:List W→Option (List Value)
 | []=>some []
 |c::cs=>match c.val?,oo cs with
  |some v,some vs=>some (v::vs)
  |_,_=>none
def V.val?:V→Option Value
 | .w u=>u.val?
 | .dQ ws=>(oo ws).map fun vs=> .tuple vs.toArray
 | .undef=>none
theorem C.bn {w:World} {A:Nat→Prop} {ρ:Env} {c:C} {v x:Value} (h:c.val? =some v) (hr:RC w A ρ c x):x=v:=by
 cases c with
 |t y=>
  cases y with
  |val u=>simp only[C.val?,Option.some.injEq]at h;subst h;cases hr;rfl
  |av sz xs=>simp[C.val?]at h
 |_=>simp[C.val?]at h
theorem o9: ∀ {cs:List C} {vs:List Value},fU cs=some vs→vs.length=cs.length
 | [],vs,h=>by simp[fU]at h;subst h;rfl
 |c::cs,vs,h=>by
  simp only[fU]at h
  split at h
  · rename_i v us _ hu
    simp only[Option.some.injEq]at h
    subst h
    simp[o9 hu]
  · simp at h
theorem w9: ∀ {cs:List C} {vs:List Value},fU cs=some vs→ ∀ (k:Nat) (c:C),cs[k]? =some c→ ∃v,vs[k]? =some v∧c.val? =some v
 | [],vs,h,k,c,hc=>by simp at hc
 |c::cs,vs,h,k,d,hc=>by
  simp only[fU]at h
  split at h
  · rename_i v us hv hu
    simp only[Option.some.injEq]at h
    subst h
    cases k with
    |zero=>simp only[List.getElem?_cons_zero,Option.some.injEq]at hc;subst hc;exact⟨v,rfl,hv⟩
    |succ k=>simpa using w9 hu k d (by simpa using hc)
  · simp at h
theorem tq.Wm {w:World} {A:Nat→Prop} {ρ:Env} {cs:List C} {vs:List Value} {xs:Array Value} (h:fU cs=some vs) (hr:tq w A ρ cs xs):xs=vs.toArray:=by
 apply Array.ext'
 apply List.ext_getElem?
 intro k
 have hl:=o9 h
 by_cases hk:k < cs.length
 · obtain⟨v,hv,Yz⟩:=w9 h k cs[k] (by simp[hk])
   have hk':k < xs.size:=hr.1▸hk
   have hx:xs[k]? =some xs[k]:=by simp[hk']
   have:=C.bn Yz (hr.2 k cs[k] xs[k] (by simp[hk]) hx).1
   simp[hv,hx,this]
 · have h1:xs.toList.length≤k:=by have:=hr.1;simp;omega
   have h2:vs.length≤k:=by omega
   simp[List.getElem?_eq_none h2]
   have:=hr.1;omega
theorem W.bn {w:World} {A:Nat→Prop} {ρ:Env} {u:W} {v x:Value} (h:u.val? =some v) (hr:RW w A ρ u x):x=v:=by
 cases u with
 |one c=>exact C.bn h hr.1
 |agg cs=>
  simp only[W.val?,Option.map_eq_some_iff]at h
  obtain⟨vs,h1,rfl⟩:=h
  obtain⟨xs,rfl,h2⟩:=hr
  rw[h2.Wm h1]
theorem nQ: ∀ {cs:List W} {vs:List Value},oo cs=some vs→vs.length=cs.length
 | [],vs,h=>by simp[oo]at h;subst h;rfl
 |c::cs,vs,h=>by
  simp only[oo]at h
  split at h
  · rename_i v us _ hu
    simp only[Option.some.injEq]at h
    subst h
    simp[nQ hu]
  · simp at h
theorem tJ: ∀ {cs:List W} {vs:List Value},oo cs=some vs→ ∀ (k:Nat) (c:W),cs[k]? =some c→ ∃v,vs[k]? =some v∧c.val? =some v
 | [],vs,h,k,c,hc=>by simp at hc
 |c::cs,vs,h,k,d,hc=>by
  simp only[oo]at h
  split at h
  · rename_i v us hv hu
    simp only[Option.some.injEq]at h
    subst h
    cases k with
    |zero=>simp only[List.getElem?_cons_zero,Option.some.injEq]at hc;subst hc;exact⟨v,rfl,hv⟩
    |succ k=>simpa using tJ hu k d (by simpa using hc)
  · simp at h
theorem V.bn {w:World} {A:Nat→Prop} {ρ:Env} {u:V} {v x:Value} (h:u.val? =some v) (hr:RV w A ρ u x):x=v:=by
 cases u with
 |w y=>exact W.bn h hr
 |dQ ws=>
  simp only[V.val?,Option.map_eq_some_iff]at h
  obtain⟨vs,h1,rfl⟩:=h
  obtain⟨xs,rfl,h2,h3⟩:=hr
  congr 1
  apply Array.ext'
  apply List.ext_getElem?
  intro k
  have hl:=nQ h1
  by_cases hk:k < ws.length
  · obtain⟨v,hv,Yz⟩:=tJ h1 k ws[k] (by simp[hk])
    have hk':k < xs.size:=h2▸hk
    have hx:xs[k]? =some xs[k]:=by simp[hk']
    have:=W.bn Yz (h3 k ws[k] xs[k] (by simp[hk]) hx)
    simp[hv,hx,this]
  · have TD:vs.length≤k:=by omega
    simp[List.getElem?_eq_none TD]
    omega
 |undef=>simp[V.val?]at h
def aH (P:Program) {α:Type}:Sem α→Option α
 | .pure a=>some a
 | .program k=>aH P (k P)
 | .mark _ k=>aH P k
 |_=>none
theorem mB {P:Program} {α:Type} {s:Sem α} {a:α} (h:aH P s=some a) (w:World):s.run P w= .ok a w:=by
 induction s with
 |pure b=>simp only[aH,Option.some.injEq]at h;subst h;rfl
 |program k ih=>simp only[aH]at h;simp only[Sem.run];exact ih _ h
 |mark m k ih=>simp only[aH]at h;simp only[Sem.run];exact ih h
 |_=>simp[aH]at h
def fG:Op→Bool
 | .select .. =>false
 |_=>true
def bg (P:Program) (get:Operand→V) (o:Oper):Option V:=
 if fG o.op&&o.op.operands.toList.all fun x=>(get x).val?.isSome then
  match aH P (execOp (fun x=>((get x).val?).getD undef) o)with
  |some (.value v)=>some (V.ofValue v)
  |_=>none
 else none
theorem gJ {P:Program} {M A:Nat→Prop} {ρ:Env} {F F':Nat→Prop} {st:St} {a:Act} {w:World} {o:Oper} {v:V}
 (h:bg P st.get o=some v) (hr:Rel M A ρ F st a w) (hF: ∀id,F' id→F id):nO M A ρ F' a w ((execOp a.eval o).run P w) st v:=by
 unfold bg at h
 split at h
 · rename_i hall
   simp only[Bool.and_eq_true,List.all_eq_true,Array.mem_toList_iff]at hall
   split at h
   · rename_i x hx
     simp only[Option.some.injEq]at h
     subst h
     have he:execOp a.eval o=execOp (fun x=>((st.get x).val?).getD undef) o:=by
      apply execOp_congr
      · intro cs b hs
        have:=hall.1
        simp[hs,fG]at this
      · intro y hy
        have:=hall.2 y hy
        cases hv:(st.get y).val? with
        |none=>simp[hv]at this
        |some u=>simpa using V.bn hv (hr.get y)
     rw[he]
     exact nO.same hr hF (mB hx w) (RV.ofValue w A ρ x)
   · simp at h
 · simp at h
end Go.aS
end
section
namespace Go.aS
open Go
def dg (ρ:Env) (id:Nat) (l:Loc):Env:=fun k=>if k=id then some l else ρ k
theorem cU.jJ {ρ:Env} {id:Nat} {l:Loc} (h:ρ id=none):cU ρ (dg ρ id l):=by
 intro k m hk
 simp only[dg]
 split
 · rename_i e;subst e;simp[h]at hk
 · exact hk
variable {P:Program} {M A:Nat→Prop} {ρ:Env} {F:Nat→Prop} {st:St} {a:Act} {w:World}
theorem HB.lt {id:Nat} {blk:bi} {b:Nat} (h:HB w M A ρ id blk) (hρ:ρ id=some (.fz b)):b < w.heap.size∧M b∧A b:=by
 cases blk with
 |row sz xs=>
  rcases h.2 with⟨b',c,e,k1,k2,k3,k4,k5,k6⟩|⟨h2,_⟩
  · rw[hρ]at k1
    simp only[Option.some.injEq,Loc.fz.injEq]at k1
    subst k1
    refine⟨?_,k2,k3⟩
    rcases Nat.lt_or_ge b w.heap.size with hl|hg
    · exact hl
    · simp[Array.getElem?_eq_none hg]at k4
  · simp[hρ]at h2
 |mp es clock=>
  obtain⟨b',en,k1,k2,k3,k4,k5,k6⟩:=h
  rw[hρ]at k1
  simp only[Option.some.injEq,Loc.fz.injEq]at k1
  subst k1
  refine⟨?_,k2,k3⟩
  rcases Nat.lt_or_ge b w.heap.size with hl|hg
  · exact hl
  · simp[Array.getElem?_eq_none hg]at k4
theorem rQ (o:Obj):dZ A (fun b=>A b∨b=w.heap.size) w (w.alloc o):=
 ⟨by simp,fun b hlt hn=>⟨RowKit.Below.heap_alloc w o b hlt,fun h=>h.elim hn (fun e=>by omega)⟩⟩
theorem mA (o:Obj) (k:Nat) (hk:k < w.heap.size):(w.alloc o).shape? k=w.shape? k:=(df.alloc (fun _=>False) w o).shape k hk
theorem Rel.alloc (h:Rel M A ρ F st a w) {nid:Nat} (hn:F nid) {sz:Nat} {xs:List (List C)} {c:Array Value} {e:TypeId}
 (hsz: ∀el,el∈xs→el.length=sz) (hlen:xs.length * sz≤c.size)
 (hc: ∀ (i:Nat) (el:List C) (j:Nat) (k:C),xs[i]? =some el→el[j]? =some k→ ∃x,c[i * sz+j]? =some x∧RC w A ρ k x∧cD x=true):
 Rel M (fun b=>A b∨b=w.heap.size) (dg ρ nid (.fz w.heap.size)) (Sub F nid) {st with heap:=(nid, .row sz xs)::st.heap} a (w.alloc (.cells c e))∧
  cU ρ (dg ρ nid (.fz w.heap.size)):=by
 have hρ:=h.fresh nid hn
 have cF:cU ρ (dg ρ nid (.fz w.heap.size)):=cU.jJ hρ
 have hk:=rQ (A:=A) (w:=w) (.cells c e)
 have hs:=mA (w:=w) (.cells c e)
 have hnew:(w.alloc (.cells c e)).heap[w.heap.size]? =some (.cells c e (0,0)):=heap_alloc_new w _
 refine⟨⟨h.size,h.defers,fun t v hv=>(h.tmps t v hv).keeps hk hs cF,?_,?_,?_,?_,?_,h.dX.Fk (df.alloc _ _ _) (fun b hb h=>h.elim id (fun e=>by omega))⟩,cF⟩
 · intro id blk hf
   simp only[aq]at hf
   split at hf
   · rename_i e'
     subst e'
     simp only[Option.some.injEq]at hf
     subst hf
     refine⟨hsz, .inl ⟨w.heap.size,c,e,by simp[dg],h.may _ (Nat.le_refl _), .inr rfl,hnew,by simpa using hlen,fun i el j k hi hj=>?_⟩⟩
     obtain⟨x,hx,hr,h1⟩:=hc i el j k hi hj
     exact⟨x,by simpa using hx,hr.keeps hk hs cF,h1⟩
   · have hb:=h.heap id blk hf
     exact hb.keeps hk hs cF (fun b hb=> .inl hb) (fun b BU=>RowKit.Below.heap_alloc w _ b (hb.lt BU).1)
 · intro id id' blk fp b hf me hr dr
   simp only[aq]at hf me
   simp only[dg]at hr dr
   by_cases e1:nid=id<;>by_cases e2:nid=id'
   · omega
   · simp only[e2,if_false]at me
     have:¬id'=nid:=fun e=>e2 e.symm
     simp only[this,if_false]at dr
     simp only[e1.symm,if_true,Option.some.injEq,Loc.fz.injEq]at hr
     have:=((h.heap id' fp me).lt dr).1
     omega
   · simp only[e1,if_false]at hf
     have:¬id=nid:=fun e=>e1 e.symm
     simp only[this,if_false]at hr
     simp only[e2.symm,if_true,Option.some.injEq,Loc.fz.injEq]at dr
     have:=((h.heap id blk hf).lt hr).1
     omega
   · simp only[e1,e2,if_false]at hf me
     have n1:¬id=nid:=fun e=>e1 e.symm
     have n2:¬id'=nid:=fun e=>e2 e.symm
     simp only[n1,n2,if_false]at hr dr
     exact h.inj id id' blk fp b hf me hr dr
 · intro id hi
   have:¬id=nid:=fun e=>hi.2 ⟨by omega,by omega⟩
   simp only[dg,this,if_false]
   exact h.fresh id hi.1
 · intro b hb
   simp only[World.alloc,Array.size_push]
   rcases hb with hb|hb
   · have:=h.bound b hb;omega
   · omega
 · intro b hb
   refine h.may b ?_
   simp only[World.alloc,Array.size_push]at hb
   omega
def cellsOf:W→List C
 | .one c=>[c]
 | .agg cs=>cs
theorem RW.cells {u:W} {x:Value} (h:RW w A ρ u x):tq w A ρ (cellsOf u) x.cells:=by
 cases u with
 |one c=>
  have hx:x.cells= #[x]:=by
   have:=h.2
   cases x<;>simp[Value.oneCell']at this<;>rfl
  rw[hx]
  refine⟨rfl,fun k d y hd hy=>?_⟩
  cases k with
  |zero=>
   simp only[cellsOf,List.getElem?_cons_zero,Option.some.injEq]at hd
   simp at hy
   subst hd
   subst hy
   exact h
  |succ k=>simp[cellsOf]at hd
 |agg cs=>
  obtain⟨vs,rfl,h2⟩:=h
  exact h2
def deref (heap:List (Nat×bi)):C→Option (List C×Nat)
 | .ptr id sz i j=>
   match find heap id with
   |some (.row sz' xs)=>if sz'=sz then(xs[i]?).map fun e=>(e,j)else none
   |_=>none
 | .rG e j=>some (e.map .t,j)
 |_=>none
theorem sw (h:Rel M A ρ F st a w) {c:C} {x:Value} {cs:List C} {j:Nat} (hd:deref st.heap c=some (cs,j)) (hr:RC w A ρ c x):
 ∃b o,x= .pointer (some ⟨b,o+j,none⟩)∧ ∀ (k:Nat) (d:C),cs[k]? =some d→ ∃y,w.cell? ⟨b,o+k,none⟩=some y∧RC w A ρ d y∧cD y=true:=by
 cases c with
 |ptr id sz i j'=>
  simp only[deref]at hd
  split at hd
  · rename_i sz' xs hf
    split at hd
    · rename_i hsz
      subst hsz
      simp only[Option.map_eq_some_iff,Prod.mk.injEq]at hd
      obtain⟨e,he,rfl,rfl⟩:=hd
      obtain⟨b,hρ,rfl⟩:=hr
      obtain⟨_,hb⟩:=h.heap id _ hf
      rcases hb with⟨b',c,t,k1,k2,k3,k4,k5,k6⟩|⟨h2,_⟩
      · rw[hρ]at k1
        simp only[Option.some.injEq,Loc.fz.injEq]at k1
        subst k1
        refine⟨b,i * sz',rfl,fun k d hk=>?_⟩
        obtain⟨y,hy,hr,h1⟩:=k6 i e k d he hk
        exact⟨y,by simp[World.cell?,k4,hy],hr,h1⟩
      · simp[hρ]at h2
    · simp at hd
  · simp at hd
 |rG e j'=>
  simp only[deref,Option.some.injEq,Prod.mk.injEq]at hd
  obtain⟨rfl,rfl⟩:=hd
  obtain⟨b,o,f,rfl,h1,h2,h3⟩:=hr
  refine⟨b,o,rfl,fun k d hk=>?_⟩
  simp only[List.getElem?_map,Option.map_eq_some_iff]at hk
  obtain⟨t,ht,rfl⟩:=hk
  obtain⟨h4,h5⟩:=h3 k t ht
  exact⟨f k,h4,h5,h5.cell⟩
 |_=>simp[deref]at hd
def iQ (P:Program) (t:TypeId):Option Bool:=
 match P.underlying t with
 |some (.struct _)|some (.array _ _)=>some true
 |some _=>some false
 |none=>none
theorem nq {t:TypeId} {b:Bool} (h:iQ P t=some b):(isAgg t).run P w= .ok b w:=by
 unfold iQ at h
 cases hu:P.underlying t with
 |none=>simp[hu]at h
 |some d=>
  cases d<;>simp[hu]at h<;>subst h<;>simp[isAgg,run_underlying hu]
def cG (P:Program) (t:TypeId):Option Nat:=(P.info? t).map (·.size)
theorem run_sizeOf {t:TypeId} {n:Nat} (h:cG P t=some n):(sizeOf t).run P w= .ok n w:=by
 simp only[cG,Option.map_eq_some_iff]at h
 obtain⟨i,hi,rfl⟩:=h
 simp[sizeOf,typeInfo,hi]
def js (P:Program) (t:TypeId) (cs:List C) (j:Nat):Option W:=
 match iQ P t with
 |some true=>
  match cG P t with
  |some n=>if j+n≤cs.length then some (.agg ((cs.drop j).take n))else none
  |none=>none
 |some false=>(cs[j]?).map .one
 |none=>none
def dY (P:Program) (t:TypeId) (v:V) (heap:List (Nat×bi)):Option V:=
 match v with
 | .w (.one c)=>
   match deref heap c with
   |some (cs,j)=>(js P t cs j).map .w
   |none=>none
 |_=>none
theorem wH {t:TypeId} {b o j:Nat} {cs:List C} {u:W} (hp:js P t cs j=some u)
 (hc: ∀ (k:Nat) (d:C),cs[k]? =some d→ ∃y,w.cell? ⟨b,o+k,none⟩=some y∧RC w A ρ d y∧cD y=true):
 ∃x,(loadVar t ⟨b,o+j,none⟩).run P w= .ok x w∧RW w A ρ u x:=by
 unfold js at hp
 split at hp
 · rename_i hagg
   split at hp
   · rename_i n hn
     split at hp
     · rename_i hle
       simp only[Option.some.injEq]at hp
       subst hp
       have hex: ∀k,k < n→ ∃y,w.cell? ⟨b,o+j+k,none⟩=some y:=fun k hk=>by
        obtain⟨y,hy,_⟩:=hc (j+k) cs[j+k] (by simp[show j+k < cs.length by omega])
        exact⟨y,by rw[Nat.add_assoc];exact hy⟩
       have hcell: ∀k,k < n→w.cell? ((⟨b,o+j,none⟩:Addr).add k)=some ((w.cell? ⟨b,o+j+k,none⟩).getD undef):=fun k hk=>by
        obtain⟨y,hy⟩:=hex k hk
        rw[Addr.add_lit,hy];rfl
       have hl:=run_loadCells (P:=P) w ⟨b,o+j,none⟩ n _ hcell
       refine⟨.agg ((List.range n).map fun k=>(w.cell? ⟨b,o+j+k,none⟩).getD undef).toArray,by simp[loadVar,nq hagg,run_sizeOf hn,hl],_,rfl,by simp;omega,fun k c x hk hx=>?_⟩
       have hkn:k < n:=by
        have:=(List.getElem?_eq_some_iff.1 hk).1
        simp at this
        omega
       simp[hkn]at hx
       have hk':cs[j+k]? =some c:=by
        simpa[List.getElem?_take,hkn]using hk
       obtain⟨y,hy,hr,h1⟩:=hc (j+k) c hk'
       rw[←Nat.add_assoc]at hy
       rw[hy]at hx
       simp at hx
       subst hx
       exact⟨hr,h1⟩
     · simp at hp
   · simp at hp
 · rename_i hagg
   simp only[Option.map_eq_some_iff]at hp
   obtain⟨d,hd,rfl⟩:=hp
   obtain⟨y,hy,hr,h1⟩:=hc j d hd
   exact⟨y,by simp[loadVar,nq hagg,hy],hr,h1⟩
 · simp at hp
theorem mX {t:TypeId} {x:Value} {v u:V} (h:Rel M A ρ F st a w) (he:dY P t v st.heap=some u) (hv:RV w A ρ v x):
 ∃y,(Instr.loadAt t x).run P w= .ok y w∧RV w A ρ u y:=by
 unfold dY at he
 split at he
 · rename_i c
   split at he
   · rename_i cs j hd
     simp only[Option.map_eq_some_iff]at he
     obtain⟨u',hp,rfl⟩:=he
     obtain⟨b,o,rfl,hc⟩:=sw h hd hv.1
     obtain⟨y,hy,hr⟩:=wH (P:=P) hp hc
     exact⟨y,by simp[Instr.loadAt,Instr.sureAddr,hy],hr⟩
   · simp at he
 · simp at he
end Go.aS
end
section
namespace Go.aS
open Go
def jJ {α:Type}:List (Nat×α)→Nat→α→List (Nat×α)
 | [],_,_=>[]
 |(k,v)::r,t,x=>if k=t then(k,x)::r else(k,v)::jJ r t x
def del {α:Type}:List (Nat×α)→Nat→List (Nat×α)
 | [],_=>[]
 |(k,v)::r,t=>if k=t then del r t else(k,v)::del r t
theorem bQ {α:Type} (l:List (Nat×α)) (t:Nat) (x:α) (k:Nat):find (jJ l t x) k=if k=t then(find l t).map (fun _=>x)else find l k:=by
 induction l with
 |nil=>simp[jJ,find]
 |cons p r ih=>
  obtain⟨q,v⟩:=p
  simp only[jJ]
  by_cases hq:q=t
  · subst hq
    simp only[if_true,aq]
    by_cases hk:k=q
    · subst hk;simp
    · have:¬q=k:=fun e=>hk e.symm
      simp[hk,this]
  · simp only[hq,if_false,aq,ih]
    by_cases hk:k=t
    · subst hk
      simp[hq]
    · simp[hk]
theorem de {α:Type} (l:List (Nat×α)) (t k:Nat):find (del l t) k=if k=t then none else find l k:=by
 induction l with
 |nil=>simp[del,find]
 |cons p r ih=>
  obtain⟨q,v⟩:=p
  simp only[del]
  by_cases hq:q=t
  · subst hq
    simp only[if_true,aq,ih]
    by_cases hk:k=q
    · simp[hk]
    · have:¬q=k:=fun e=>hk e.symm
      simp[hk,this]
  · simp only[hq,if_false,aq,ih]
    by_cases hk:k=t
    · subst hk
      simp[hq]
    · simp[hk]
variable {P:Program} {M A:Nat→Prop} {ρ:Env} {F:Nat→Prop} {st:St} {a:Act} {w:World}
theorem Rel.forget (h:Rel M A ρ F st a w) {st':St} (hn:st'.n=st.n) (ht: ∀t v,find st'.tmps t=some v→find st.tmps t=some v)
 (hh: ∀id b,find st'.heap id=some b→find st.heap id=some b):Rel M A ρ F st' a w:=
 ⟨h.size.trans hn.symm,h.defers,fun t v hv=>h.tmps t v (ht t v hv),fun id b hb=>h.heap id b (hh id b hb),
  fun id id' blk fp b h1 h2=>h.inj id id' blk fp b (hh _ _ h1) (hh _ _ h2),h.fresh,h.bound,h.may,h.dX⟩
theorem Rel.drop (h:Rel M A ρ F st a w) (id:Nat):Rel M A ρ F {st with heap:=del st.heap id} a w:=
 h.forget rfl (fun _ _ h=>h) (fun k b hk=>by
  simp only[de]at hk
  split at hk
  · simp at hk
  · exact hk)
theorem lm {w:World} {b:Nat} {c c':Array Value} {e:TypeId} (hc:w.heap[b]? =some (.cells c e (0,0))) (hsize:c'.size=c.size) (k:Nat):(w.setRow b c').shape? k=w.shape? k:=by
 by_cases hk:k=b
 · subst hk
   simp[World.shape?,setRow_heap w k c c' e _ hc,hc,hsize]
 · simp[World.shape?,setRow_other w b k c' hk]
theorem df.setRow {w:World} {b:Nat} {c c':Array Value} {e:TypeId} (hc:w.heap[b]? =some (.cells c e (0,0))) (hsize:c'.size=c.size) (hM:M b):df M w (w.setRow b c'):=
 ⟨rfl,rfl,rfl,by simp,fun k _ hn=>setRow_other w b k c' (fun e=>hn (e▸hM)),fun k _=>lm hc hsize k⟩
theorem Rel.write (h:Rel M A ρ F st a w) {id sz:Nat} {xs xs':List (List C)} {b:Nat} {c c':Array Value} {e:TypeId}
 (hf:find st.heap id=some (.row sz xs)) (hρ:ρ id=some (.fz b)) (hc:w.heap[b]? =some (.cells c e (0,0))) (hsize:c'.size=c.size)
 (hsz: ∀el,el∈xs'→el.length=sz) (hlen:xs'.length * sz≤c'.size)
 (hcell: ∀ (i:Nat) (el:List C) (j:Nat) (k:C),xs'[i]? =some el→el[j]? =some k→ ∃x,c'[i * sz+j]? =some x∧RC w A ρ k x∧cD x=true):
 Rel M A ρ F {st with heap:=jJ st.heap id (.row sz xs')} a (w.setRow b c')∧df M w (w.setRow b c'):=by
 obtain⟨hb,hM,hA⟩:=(h.heap id _ hf).lt hρ
 have hk:dZ A A w (w.setRow b c'):=⟨by simp,fun k _ hn=>⟨setRow_other w b k c' (fun e=>hn (e▸hA)),hn⟩⟩
 have hs: ∀k,k < w.heap.size→(w.setRow b c').shape? k=w.shape? k:=fun k _=>lm hc hsize k
 refine⟨⟨h.size,h.defers,fun t v hv=>(h.tmps t v hv).keeps hk hs (cU.refl _),?_,?_,h.fresh,?_,?_,h.dX.Fk (df.setRow hc hsize hM) (fun _ _ h=>h)⟩,df.setRow hc hsize hM⟩
 · intro k blk AZ
   simp only[bQ]at AZ
   split at AZ
   · rename_i ek
     subst ek
     simp only[hf,Option.map_some,Option.some.injEq]at AZ
     subst AZ
     refine⟨hsz, .inl ⟨b,c',e,hρ,hM,hA,setRow_heap w b c c' e _ hc,hlen,fun i el j q hi hj=>?_⟩⟩
     obtain⟨x,hx,hr,h1⟩:=hcell i el j q hi hj
     exact⟨x,hx,hr.keeps hk hs (cU.refl _),h1⟩
   · rename_i ek
     refine(h.heap k blk AZ).keeps hk hs (cU.refl _) (fun _ h=>h) (fun b' hb'=>setRow_other w b b' c' (fun e=>ek ?_))
     subst e
     exact h.inj k id blk _ b' AZ hf hb' hρ
 · intro k k' blk fp b' h1 h2 r1 r2
   have g: ∀q bl,find (jJ st.heap id (.row sz xs')) q=some bl→ ∃z8,find st.heap q=some z8:=by
    intro q bl hq
    simp only[bQ]at hq
    split at hq
    · rename_i e;subst e;exact⟨_,hf⟩
    · exact⟨_,hq⟩
   obtain⟨TU,g1⟩:=g k blk h1
   obtain⟨O5,g2⟩:=g k' fp h2
   exact h.inj k k' TU O5 b' g1 g2 r1 r2
 · intro q hq;simpa using h.bound q hq
 · intro q hq;exact h.may q (by simpa using hq)
theorem Rel.rename (h:Rel M A ρ F st a w) {id nid:Nat} {blk:bi} (hf:find st.heap id=some blk) (hn:F nid):
 ∃l,ρ id=some l∧Rel M A (dg ρ nid l) (Sub F nid) {st with heap:=(nid,blk)::del st.heap id} a w∧cU ρ (dg ρ nid l):=by
 have hb:=h.heap id blk hf
 have hl: ∃l,ρ id=some l:=by
  cases blk with
  |row sz xs=>rcases hb.2 with⟨b,c,e,k1,_⟩|⟨k1,_⟩<;>exact⟨_,k1⟩
  |mp es clock=>obtain⟨b,en,k1,_⟩:=hb;exact⟨_,k1⟩
 obtain⟨l,hl⟩:=hl
 have hnone:=h.fresh nid hn
 have cF:cU ρ (dg ρ nid l):=cU.jJ hnone
 have hk:dZ A A w w:=⟨Nat.le_refl _,fun b _ hn=>⟨rfl,hn⟩⟩
 refine⟨l,hl,⟨h.size,h.defers,fun t v hv=>(h.tmps t v hv).keeps hk (fun _ _=>rfl) cF,?_,?_,?_,h.bound,h.may,h.dX⟩,cF⟩
 · intro k bl hk'
   simp only[aq]at hk'
   split at hk'
   · rename_i ek
     subst ek
     simp only[Option.some.injEq]at hk'
     subst hk'
     cases blk with
     |row sz xs=>
      refine⟨hb.1,?_⟩
      rcases hb.2 with⟨b,c,e,k1,k2,k3,k4,k5,k6⟩|⟨k1,k2⟩
      · rw[hl]at k1
        refine .inl ⟨b,c,e,by simp[dg,k1],k2,k3,k4,k5,fun i el j q hi hj=>?_⟩
        obtain⟨x,hx,hr,h1⟩:=k6 i el j q hi hj
        exact⟨x,hx,hr.keeps hk (fun _ _=>rfl) cF,h1⟩
      · rw[hl]at k1
        exact .inr ⟨by simp[dg,k1],k2⟩
     |mp es clock=>
      obtain⟨b,en,k1,k2,k3,k4,k5,k6⟩:=hb
      rw[hl]at k1
      refine⟨b,en,by simp[dg,k1],k2,k3,k4,k5,fun i k c n hi=>?_⟩
      obtain⟨e,h1,h2,h3,h4,h5⟩:=k6 i k c n hi
      exact⟨e,h1,h2,h3,h4.keeps hk (fun _ _=>rfl) cF,h5⟩
   · simp only[de]at hk'
     split at hk'
     · simp at hk'
     · exact(h.heap k bl hk').keeps hk (fun _ _=>rfl) cF (fun _ h=>h) (fun _ _=>rfl)
 · intro k k' bl z8 b h1 h2 r1 r2
   simp only[aq,de]at h1 h2
   simp only[dg]at r1 r2
   by_cases e1:nid=k<;>by_cases e2:nid=k'
   · omega
   · exfalso
     simp only[e2,if_false]at h2
     have n2:¬k'=nid:=fun e=>e2 e.symm
     simp only[n2,if_false]at r2
     simp only[e1.symm,if_true,Option.some.injEq]at r1
     by_cases e3:k'=id
     · simp[e3]at h2
     · simp only[e3,if_false]at h2
       exact e3 (h.inj k' id z8 blk b h2 hf r2 (r1▸hl))
   · exfalso
     simp only[e1,if_false]at h1
     have n1:¬k=nid:=fun e=>e1 e.symm
     simp only[n1,if_false]at r1
     simp only[e2.symm,if_true,Option.some.injEq]at r2
     by_cases e3:k=id
     · simp[e3]at h1
     · simp only[e3,if_false]at h1
       exact e3 (h.inj k id bl blk b h1 hf r1 (r2▸hl))
   · simp only[e1,e2,if_false]at h1 h2
     have n1:¬k=nid:=fun e=>e1 e.symm
     have n2:¬k'=nid:=fun e=>e2 e.symm
     simp only[n1,n2,if_false]at r1 r2
     by_cases e3:k=id<;>by_cases e4:k'=id<;>simp only[e3,e4,if_true,if_false]at h1 h2<;>try (simp at h1;done)
     · simp at h2
     · exact h.inj k k' bl z8 b h1 h2 r1 r2
 · intro k hk'
   have:¬k=nid:=fun e=>hk'.2 ⟨by omega,by omega⟩
   simp only[dg,this,if_false]
   exact h.fresh k hk'.1
def aX {α:Type} (xs:List α) (j:Nat) (ys:List α):List α:=xs.take j++ys++xs.drop (j+ys.length)
theorem bU {α:Type} {xs:List α} {j:Nat} {ys:List α} (h:j+ys.length≤xs.length):(aX xs j ys).length=xs.length:=by
 simp[aX];omega
theorem eY {α:Type} {xs:List α} {j:Nat} {ys:List α} (h:j+ys.length≤xs.length) (k:Nat):
 (aX xs j ys)[k]? =if j≤k∧k < j+ys.length then ys[k - j]? else xs[k]? :=by
 unfold aX
 have hj:(xs.take j).length=j:=by simp;omega
 by_cases h1:k < j
 · have n1:¬ (j≤k∧k < j+ys.length):=by omega
   rw[if_neg n1,List.append_assoc,List.getElem?_append_left (by omega),List.getElem?_take,if_pos h1]
 · by_cases h2:k < j+ys.length
   · rw[if_pos ⟨by omega,h2⟩,List.append_assoc,List.getElem?_append_right (by omega),hj,List.getElem?_append_left (by omega)]
   · have n1:¬ (j≤k∧k < j+ys.length):=by omega
     rw[if_neg n1,List.getElem?_append_right (by simp;omega),List.getElem?_drop]
     congr 1
     simp
     omega
def jh (P:Program) (t:TypeId) (p v:V) (heap:List (Nat×bi)):Option (List (Nat×bi)):=
 match p,v with
 | .w (.one (.ptr id sz i j)), .w u=>
   match find heap id,cG P t with
   |some (.row sz' xs),some n=>
    match xs[i]? with
    |some el=>if sz'=sz∧(cellsOf u).length=n∧j+n≤el.length then some (jJ heap id (.row sz (xs.set i (aX el j (cellsOf u)))))else none
    |none=>none
   |_,_=>none
 |_,_=>none
theorem sZ {t:TypeId} {p v:V} {x y:Value} {heap':List (Nat×bi)} (h:Rel M A ρ F st a w) (he:jh P t p v st.heap=some heap')
 (hp:RV w A ρ p x) (hv:RV w A ρ v y): ∃w',(Instr.storeAt t x y).run P w= .ok () w'∧Rel M A ρ F {st with heap:=heap'} a w'∧df M w w':=by
 unfold jh at he
 split at he
 · rename_i id sz i j u
   split at he
   · rename_i sz' xs n hf hn
     split at he
     · rename_i el hel
       split at he
       · rename_i hc
         obtain⟨rfl,hu,hjn⟩:=hc
         simp only[Option.some.injEq]at he
         subst he
         obtain⟨b,hρ,rfl⟩:=hp.1
         obtain⟨hsz,hb⟩:=h.heap id _ hf
         rcases hb with⟨b',c,e,k1,k2,k3,k4,k5,k6⟩|⟨h2,_⟩
         · rw[hρ]at k1
           simp only[Option.some.injEq,Loc.fz.injEq]at k1
           subst k1
           have hcs:=RW.cells hv
           have hlen:el.length=sz':=hsz el (List.mem_of_getElem? hel)
           have hi:i < xs.length:=(List.getElem?_eq_some_iff.1 hel).1
           have hfit:i * sz'+j+y.cells.toList.length≤c.size:=by
            have h1:y.cells.toList.length=n:=by simp[←hcs.1,hu]
            have h2:(i+1) * sz'≤xs.length * sz':=Nat.mul_le_mul_right _ hi
            rw[Nat.add_mul]at h2
            omega
           have hone: ∀q∈y.cells.toList,q.oneCell'=true:=by
            intro q hq
            obtain⟨k,hk,rfl⟩:=List.getElem_of_mem hq
            have hk':k < (cellsOf u).length:=by simp at hk;rw[hcs.1];exact hk
            have hkc:k < y.cells.size:=by simpa using hk
            exact(hcs.2 k (cellsOf u)[k] y.cells[k] (by simp[hk']) (by simp[hkc])).2
           have hrun:=run_storeCells_at P b (i * sz'+j) e y.cells.toList 0 c w k4 (by simpa using hfit) hone
           simp only[Nat.add_zero]at hrun
           have ew:c.toList.length=c.size:=by simp
           obtain⟨r1,r2⟩:=h.write (c':=(aX c.toList (i * sz'+j) y.cells.toList).toArray) (xs':=xs.set i (aX el j (cellsOf u))) hf hρ k4
            (by simp only[List.size_toArray];rw[bU (by omega)];simp)
            (fun BX A5=>by
              rcases List.mem_or_eq_of_mem_set A5 with h1|h1
              · exact hsz BX h1
              · rw[h1,bU (by omega)];exact hlen)
            (by simp only[List.length_set,List.size_toArray];rw[bU (by omega)];simpa using k5)
            (fun i' BX j' q hi' hj'=>by
              simp only[List.getElem?_toArray]
              rw[eY (by omega)]
              have kT:y.cells.toList.length=(cellsOf u).length:=by simp[hcs.1]
              by_cases II:i'=i
              · subst II
                rw[List.getElem?_set_self hi]at hi'
                simp only[Option.some.injEq]at hi'
                subst hi'
                rw[eY (by omega)]at hj'
                split at hj'
                · rename_i hin
                  have hk':j' - j < y.cells.size:=by rw[←hcs.1];omega
                  refine⟨y.cells[j' - j],?_,hcs.2 (j' - j) q _ hj' (by simp[hk'])⟩
                  rw[if_pos (by omega)]
                  rw[show i' * sz'+j' - (i' * sz'+j)=j' - j by omega]
                  simp[hk']
                · rename_i hin
                  rw[if_neg (by omega)]
                  obtain⟨z,hz,hr,h1⟩:=k6 i' el j' q hel hj'
                  exact⟨z,by simpa using hz,hr,h1⟩
              · rw[List.getElem?_set_ne (fun e=>II e.symm)]at hi'
                have hl':BX.length=sz':=hsz BX (List.mem_of_getElem? hi')
                have hj2:j' < sz':=by rw[←hl'];exact(List.getElem?_eq_some_iff.1 hj').1
                have hout:¬ (i * sz'+j≤i' * sz'+j'∧i' * sz'+j' < i * sz'+j+y.cells.toList.length):=by
                 intro hh
                 rcases Nat.lt_or_gt_of_ne II with hlt|hgt
                 · have:(i'+1) * sz'≤i * sz':=Nat.mul_le_mul_right _ hlt
                   rw[Nat.add_mul]at this
                   omega
                 · have:(i+1) * sz'≤i' * sz':=Nat.mul_le_mul_right _ hgt
                   rw[Nat.add_mul]at this
                   omega
                rw[if_neg hout]
                obtain⟨z,hz,hr,h1⟩:=k6 i' BX j' q hi' hj'
                exact⟨z,by simpa using hz,hr,h1⟩)
           refine⟨_,?_,r1,r2⟩
           have JM:y.cells.size=n:=by rw[←hcs.1,hu]
           simp only[Instr.storeAt,Instr.sureAddr,storeVar,Sem.run_bind,Sem.run_pure,Result.andThen_ok,run_sizeOf hn,JM,ne_eq,not_true_eq_false,if_false]
           simpa[aX]using hrun
         · simp[hρ]at h2
       · simp at he
     · simp at he
   · simp at he
 · simp at he
end Go.aS
end
section
namespace Go.aS
open Go
variable {P:Program} {M A:Nat→Prop} {ρ:Env} {F:Nat→Prop} {st:St} {a:Act} {w:World}
def C.shift:C→Nat→Option C
 | .ptr id sz i j,n=>some (.ptr id sz i (j+n))
 | .rG e j,n=>some (.rG e (j+n))
 |_,_=>none
theorem C.rE {c d:C} {n:Nat} {x:Value} (h:c.shift n=some d) (hr:RC w A ρ c x):
 ∃b o,x= .pointer (some ⟨b,o,none⟩)∧RC w A ρ d (.pointer (some ⟨b,o+n,none⟩)):=by
 cases c with
 |ptr id sz i j=>
  simp only[C.shift,Option.some.injEq]at h
  subst h
  obtain⟨b,h1,rfl⟩:=hr
  exact⟨b,_,rfl,b,h1,by rw[Nat.add_assoc]⟩
 |rG e j=>
  simp only[C.shift,Option.some.injEq]at h
  subst h
  obtain⟨b,o,f,rfl,h1,h2,h3⟩:=hr
  exact⟨b,_,rfl,b,o,f,by rw[Nat.add_assoc],h1,h2,h3⟩
 |_=>simp[C.shift]at h
def fK (P:Program) (s:TypeId) (v:V) (f:Nat):Option V:=
 match v with
 | .w (.one c)=>
   match P.underlying s with
   |some (.struct fields)=>
    match fields[f]? with
    |some fd=>
     match cG P fd.type with
     |some (_+1)=>(c.shift fd.offset).map fun d=> .w (.one d)
     |_=>none
    |none=>none
   |_=>none
 |_=>none
theorem nN {s:TypeId} {v u:V} {f:Nat} {x:Value} (he:fK P s v f=some u) (hv:RV w A ρ v x):
 ∃y,(Instr.fieldAt s x f).run P w= .ok y w∧RV w A ρ u y:=by
 unfold fK at he
 split at he
 · split at he
   · rename_i fields hu
     split at he
     · rename_i fd IJ
       split at he
       · rename_i n hn
         simp only[Option.map_eq_some_iff]at he
         obtain⟨d,hd,rfl⟩:=he
         obtain⟨b,o,rfl,hr⟩:=C.rE hd hv.1
         refine⟨_,?_,hr,rfl⟩
         simp[Instr.fieldAt,run_underlying hu,IJ,Instr.sureAddr,fieldPlace,run_sizeOf hn,Addr.add_lit]
       · simp at he
     · simp at he
   · simp at he
 · simp at he
def V.fm:V→Option (IntKind×Int)
 | .w (.one (.t (.val (.int k n))))=>some (k,n)
 |_=>none
theorem V.iu {v:V} {k:IntKind} {n:Int} {x:Value} (h:v.fm =some (k,n)) (hr:RV w A ρ v x):x= .int k n:=by
 unfold V.fm at h
 split at h
 · simp only[Option.some.injEq,Prod.mk.injEq]at h
   obtain⟨rfl,rfl⟩:=h
   cases hr.1
   rfl
 · simp at h
def elemAt (c:C) (n:Int) (size:Nat):Option C:=
 match c with
 | .own id sz i len=>if sz=size∧0≤n∧n < len then some (.ptr id sz (i+n.toNat) 0)else none
 | .t (.av sz xs)=>if sz=size∧0≤n∧n < xs.length then(xs[n.toNat]?).map fun e=> .rG e 0 else none
 |_=>none
theorem zH {c d:C} {n:Int} {size:Nat} {x:Value} (h:elemAt c n size=some d) (hr:RC w A ρ c x):
 ∃b o len cap,x= .slice (some ⟨b,o,none⟩) len cap∧0≤n∧n < len∧RC w A ρ d (.pointer (some ⟨b,o+n.toNat * size,none⟩)):=by
 unfold elemAt at h
 split at h
 · rename_i id sz i len
   split at h
   · rename_i hc
     obtain⟨rfl,h0,h1⟩:=hc
     simp only[Option.some.injEq]at h
     subst h
     rcases hr with⟨b,cap,q,e,k1,rfl,k3,k4,k5⟩|⟨_,_,rfl,_⟩
     · exact⟨b,_,len,cap,rfl,h0,h1,b,k1,by rw[Nat.add_mul];simp⟩
     · omega
   · simp at h
 · rename_i sz xs
   split at h
   · rename_i hc
     obtain⟨rfl,h0,h1⟩:=hc
     simp only[Option.map_eq_some_iff]at h
     obtain⟨e,he,rfl⟩:=h
     cases hr with
     |nil=>simp at he
     |av f hl hcap hb hA hsz ew Ng=>
      rename_i b off len cap
      refine⟨b,off,len,cap,rfl,h0,by rw[hl];exact h1,b,off+n.toNat * sz,f n.toNat,by simp,hb,hA,fun k c hk=>⟨?_,Ng _ e k c he hk⟩⟩
      exact ew _ e k c he hk
   · simp at h
 · simp at h
def eI (P:Program) (t:TypeId) (v i:V):Option V:=
 match v,i.fm with
 | .w (.one c),some (_,n)=>
   match P.underlying t with
   |some (.slice elem)=>
    match cG P elem with
    |some size=>(elemAt c n size).map fun d=> .w (.one d)
    |none=>none
   |some (.array len elem)=>
    match cG P elem with
    |some size=>if 0≤n∧n < len then(c.shift (n.toNat * size)).map fun d=> .w (.one d)else none
    |none=>none
   |_=>none
 |_,_=>none
theorem nM {t:TypeId} {v i u:V} {x y:Value} (he:eI P t v i=some u) (hv:RV w A ρ v x) (hi:RV w A ρ i y):
 ∃z,(Instr.indexAt t x y).run P w= .ok z w∧RV w A ρ u z:=by
 unfold eI at he
 split at he
 · rename_i c k n hn
   have hy:=V.iu hn hi
   subst hy
   split at he
   · rename_i elem hu
     split at he
     · rename_i size hs
       simp only[Option.map_eq_some_iff]at he
       obtain⟨d,hd,rfl⟩:=he
       obtain⟨b,o,len,cap,rfl,h0,h1,hr⟩:=zH hd hv.1
       refine⟨_,?_,hr,rfl⟩
       simp[Instr.indexAt,asIntOf,run_underlying hu,run_sizeOf hs,h0,h1,Addr.add_lit]
     · simp at he
   · rename_i len elem hu
     split at he
     · rename_i size hs
       split at he
       · rename_i hc
         simp only[Option.map_eq_some_iff]at he
         obtain⟨d,hd,rfl⟩:=he
         obtain⟨b,o,rfl,hr⟩:=C.rE hd hv.1
         refine⟨_,?_,hr,rfl⟩
         simp[Instr.indexAt,asIntOf,run_underlying hu,run_sizeOf hs,Instr.sureAddr,hc.1,hc.2,Addr.add_lit]
       · simp at he
     · simp at he
   · simp at he
 · simp at he
def nC (P:Program) (t:TypeId) (v:V) (f:Nat):Option V:=
 match v with
 | .w (.agg cs)=>
   match P.underlying t with
   |some (.struct fields)=>
    match fields[f]? with
    |some fd=>(js P fd.type cs fd.offset).map .w
    |none=>none
   |_=>none
 |_=>none
theorem Cl {t:TypeId} {cs:List C} {off:Nat} {u:W} {vs:Array Value} (hp:js P t cs off=some u) (hr:tq w A ρ cs vs):
 ∃x,(part t vs off).run P w= .ok x w∧RW w A ρ u x:=by
 unfold js at hp
 split at hp
 · rename_i hagg
   split at hp
   · rename_i n hn
     split at hp
     · rename_i hle
       simp only[Option.some.injEq]at hp
       subst hp
       refine⟨.agg (vs.extract off (off+n)),by simp[part,nq hagg,run_sizeOf hn],_,rfl,by simp;have:=hr.1;omega,fun k c x hk hx=>?_⟩
       have hkn:k < n:=by
        have:=(List.getElem?_eq_some_iff.1 hk).1
        simp at this
        omega
       have hk':cs[off+k]? =some c:=by simpa[List.getElem?_take,hkn]using hk
       have hx':vs[off+k]? =some x:=by
        have hsz:off+k < vs.size:=by have:=hr.1;omega
        have:=Array.getElem?_extract (xs:=vs) (start:=off) (stop:=off+n) (i:=k)
        rw[this]at hx
        split at hx
        · exact hx
        · simp at hx
       exact hr.2 _ c x hk' hx'
     · simp at hp
   · simp at hp
 · rename_i hagg
   simp only[Option.map_eq_some_iff]at hp
   obtain⟨d,hd,rfl⟩:=hp
   have hl:off < vs.size:=by rw[←hr.1];exact(List.getElem?_eq_some_iff.1 hd).1
   have hx:vs[off]? =some vs[off]:=by simp[hl]
   have:=hr.2 off d _ hd hx
   exact⟨vs[off],by simp[part,nq hagg,hl],this⟩
 · simp at hp
theorem s7 {t:TypeId} {v u:V} {f:Nat} {x:Value} (he:nC P t v f=some u) (hv:RV w A ρ v x):
 ∃y,(Instr.field t x f).run P w= .ok y w∧RV w A ρ u y:=by
 unfold nC at he
 split at he
 · split at he
   · rename_i fields hu
     split at he
     · rename_i fd IJ
       simp only[Option.map_eq_some_iff]at he
       obtain⟨d,hd,rfl⟩:=he
       obtain⟨vs,rfl,hr⟩:=hv
       obtain⟨y,hy,dr⟩:=Cl (P:=P) hd hr
       exact⟨y,by simp[Instr.field,run_underlying hu,IJ,asAgg,hy],dr⟩
     · simp at he
   · simp at he
 · simp at he
def wT (c:C) (l h:Nat):Option C:=
 match c with
 | .own id sz i len=>if h=l∧l≠0 then some (.t (.av sz []))else if l≤h∧h≤len then some (.own id sz (i+l) (h - l))else none
 | .t (.av sz xs)=>if l≤h∧h≤xs.length then some (.t (.av sz ((xs.drop l).take (h - l))))else none
 |_=>none
def C.uO:C→Option Nat
 | .own _ _ _ len=>some len
 | .t (.av _ xs)=>some xs.length
 | .t (.val (.slice none 0 0))=>some 0
 |_=>none
def C.Ml:C→Option Nat
 | .own _ sz _ _=>some sz
 | .t (.av sz _)=>some sz
 |_=>none
theorem C.qK {c:C} {n:Nat} {x:Value} (h:c.uO =some n) (hr:RC w A ρ c x): ∃b cap,x= .slice b n cap∧n≤cap:=by
 unfold C.uO at h
 split at h
 · simp only[Option.some.injEq]at h
   subst h
   rcases hr with⟨b,cap,q,e,k1,rfl,k3,k4,k5⟩|⟨_,_,rfl,rfl⟩
   · exact⟨_,_,rfl,k3⟩
   · exact⟨_,_,rfl,Nat.le_refl _⟩
 · simp only[Option.some.injEq]at h
   subst h
   cases hr with
   |nil=>exact⟨_,_,rfl,by simp⟩
   |av f hl hcap hb hA hsz hc Ng=>exact⟨_,_,by rw[hl],by rw[←hl];exact hcap⟩
 · simp only[Option.some.injEq]at h
   subst h
   cases hr
   exact⟨_,_,rfl,Nat.le_refl _⟩
 · simp at h
def fA (v:Option V) (d:Nat):Option Nat:=
 match v with
 |none=>some d
 |some v=>match v.fm with
  |some (_,n)=>if 0≤n then some n.toNat else none
  |none=>none
def nA (P:Program) (t:TypeId) (v:V) (lo hi:Option V):Option V:=
 match v with
 | .w (.one c)=>
   match P.underlying t,c.uO with
   |some (.slice elem),some len=>
    match fA lo 0,fA hi len,cG P elem with
    |some l,some h,some size=>if l≤h∧h≤len∧c.Ml =some size then(wT c l h).map fun d=> .w (.one d)else none
    |_,_,_=>none
   |_,_=>none
 |_=>none
theorem CN {c d:C} {l h len cap size:Nat} {b:Option Addr} (hd:wT c l h=some d) (hs:c.Ml =some size) (hlh:l≤h) (hhl:h≤len) (hcap:len≤cap)
 (hr:RC w A ρ c (.slice b len cap)):RC w A ρ d (.slice (if cap=l then b else b.map (·.add (l * size))) (h - l) (cap - l)):=by
 unfold wT at hd
 split at hd
 · rename_i id sz i len'
   simp only[C.Ml,Option.some.injEq]at hs
   subst hs
   split at hd
   · rename_i e
     obtain⟨e,_⟩:=e
     subst e
     simp only[Option.some.injEq]at hd
     subst hd
     simp only[Nat.sub_self]
     exact .nil
   · rename_i hne
     split at hd
     · rename_i hc
       simp only[Option.some.injEq]at hd
       subst hd
       by_cases JP:l=0
       · subst JP
         rcases hr with⟨b',cap',q,e,k1,k2,k3,k4,k5⟩|⟨h0,E3,h2,h3⟩
         · simp only[Value.slice.injEq]at k2
           obtain⟨rfl,rfl,rfl⟩:=k2
           refine .inl ⟨b',cap,q,e,k1,?_,by omega,k4,by simpa using k5⟩
           by_cases hc0:cap=0
           · simp[hc0]
           · simp[hc0,Addr.add_lit]
         · simp only[Value.slice.injEq]at h3
           obtain⟨rfl,rfl,rfl⟩:=h3
           refine .inr ⟨h0,by omega,by omega,?_⟩
           have:h=0:=by omega
           subst this
           simp
       rcases hr with⟨b',cap',q,e,k1,k2,k3,k4,k5⟩|⟨_,_,h2,h3⟩
       · simp only[Value.slice.injEq]at k2
         obtain⟨rfl,rfl,rfl⟩:=k2
         have Hi:¬cap=l:=by omega
         rw[if_neg Hi]
         refine .inl ⟨b',cap - l,q,e,k1,?_,by omega,k4,?_⟩
         · simp[Addr.add_lit,Nat.add_mul]
         · have:(cap - l) * sz+l * sz=cap * sz:=by rw[←Nat.add_mul];congr 1;omega
           rw[Nat.add_mul]
           omega
       · simp only[Value.slice.injEq]at h3
         omega
     · simp at hd
 · rename_i sz xs
   simp only[C.Ml,Option.some.injEq]at hs
   subst hs
   split at hd
   · rename_i hc
     simp only[Option.some.injEq]at hd
     subst hd
     by_cases hz:h - l=0
     · rw[hz]
       simp only[List.take_zero]
       exact .nil
     · cases hr with
       |nil=>simp at hc;omega
       |av f hl aeX hb hA hsz ew Ng=>
        rename_i b' off
        have Hi:¬cap=l:=by omega
        rw[if_neg Hi]
        simp only[Option.map_some,Addr.add_lit]
        refine .av (fun i j=>f (l+i) j) (by simp;omega) (by omega) hb hA (fun e he=>hsz e (List.mem_of_mem_drop (List.mem_of_mem_take he))) (fun i e j c hi hj=>?_) (fun i e j c hi hj=>?_)
        · have BR:i < h - l:=by
           have:=(List.getElem?_eq_some_iff.1 hi).1
           simp at this;omega
          have hi':xs[l+i]? =some e:=by simpa[List.getElem?_take,BR]using hi
          have:=ew (l+i) e j c hi' hj
          rw[Nat.add_mul]at this
          rw[show off+l * sz+i * sz+j=off+(l * sz+i * sz)+j by omega]
          exact this
        · have BR:i < h - l:=by
           have:=(List.getElem?_eq_some_iff.1 hi).1
           simp at this;omega
          have hi':xs[l+i]? =some e:=by simpa[List.getElem?_take,BR]using hi
          exact Ng (l+i) e j c hi' hj
   · simp at hd
 · simp at hd
theorem sC {v:Option V} {x:Option Value} {d n:Nat} (h:fA v d=some n) (hr: ∀u,v=some u→ ∃y,x=some y∧RV w A ρ u y) (hn:v=none→x=none):
 (x=none∧n=d)∨ ∃k,x=some (.int k n):=by
 unfold fA at h
 split at h
 · simp only[Option.some.injEq]at h
   exact .inl ⟨hn rfl,h.symm⟩
 · rename_i u
   split at h
   · rename_i k m hm
     split at h
     · rename_i h0
       simp only[Option.some.injEq]at h
       obtain⟨y,rfl,hy⟩:=hr u rfl
       have:=V.iu hm hy
       subst this
       refine .inr ⟨k,?_⟩
       rw[←h,Int.toNat_of_nonneg h0]
     · simp at h
   · simp at h
theorem s0 {t:TypeId} {v u:V} {lo hi:Option V} {x:Value} {lo' hi':Option Value} (he:nA P t v lo hi=some u) (hv:RV w A ρ v x)
 (hlo: ∀u,lo=some u→ ∃y,lo'=some y∧RV w A ρ u y) (Yg:lo=none→lo'=none)
 (hhi: ∀u,hi=some u→ ∃y,hi'=some y∧RV w A ρ u y) (Yo:hi=none→hi'=none):
 ∃z,(Instr.sliceAt t x lo' hi' none).run P w= .ok z w∧RV w A ρ u z:=by
 unfold nA at he
 split at he
 · rename_i c
   split at he
   · rename_i elem len hu hl
     split at he
     · rename_i l h size h1 h2 hs
       split at he
       · rename_i hc
         obtain⟨c1,c2,c3⟩:=hc
         simp only[Option.map_eq_some_iff]at he
         obtain⟨d,hd,rfl⟩:=he
         obtain⟨b,cap,rfl,hcap⟩:=C.qK hl hv.1
         have hr:=CN hd c3 c1 c2 hcap hv.1
         refine⟨_,?_,hr,rfl⟩
         have oT:=sC h1 hlo Yg
         have nw:=sC h2 hhi Yo
         have hlc:h≤cap:=Nat.le_trans c2 hcap
         have i1:(l:Int)≤(h:Int):=by omega
         have i2:(h:Int)≤(cap:Int):=by omega
         rcases oT with⟨rfl,rfl⟩|⟨k1,rfl⟩<;>rcases nw with⟨rfl,rfl⟩|⟨k2,rfl⟩<;>
          simp[Instr.sliceAt,Instr.slice,run_underlying hu,Instr.sliceBounds,Instr.sliceBound,asIntOf,run_sizeOf hs,hlc,c1]
       · simp at he
     · simp at he
   · simp at he
 · simp at he
end Go.aS
end
section
namespace Go.aS
open Go
variable {P:Program} {M A:Nat→Prop} {ρ:Env} {F:Nat→Prop} {st:St} {a:Act} {w:World}
def elems (heap:List (Nat×bi)):C→Option (Nat×List (List C))
 | .own id sz i len=>
   match find heap id with
   |some (.row sz' xs)=>if sz'=sz∧i+len≤xs.length then some (sz,(xs.drop i).take len)else none
   |_=>none
 | .t (.av sz xs)=>some (sz,xs.map fun e=>e.map .t)
 |_=>none
theorem mT {xs:List (List C)} {sz:Nat} {g:Nat→Option Value} (hsz: ∀e,e∈xs→e.length=sz)
 (hc: ∀ (i:Nat) (el:List C) (j:Nat) (k:C),xs[i]? =some el→el[j]? =some k→ ∃x,g (i * sz+j)=some x∧RC w A ρ k x∧cD x=true):
 ∃vs:List Value,vs.length=xs.length * sz∧(∀ (j:Nat) (v:Value),vs[j]? =some v→g j=some v)∧(∀v,v∈vs→v.oneCell'=true)∧
  ∀ (i:Nat) (el:List C) (j:Nat) (k:C),xs[i]? =some el→el[j]? =some k→ ∃x,vs[i * sz+j]? =some x∧RC w A ρ k x∧cD x=true:=by
 have key: ∀n,n < xs.length * sz→ ∃x,g n=some x∧cD x=true:=by
  intro n hn
  have SN:0 < sz:=by
   rcases Nat.eq_zero_or_pos sz with h0|h0
   · subst h0;simp at hn
   · exact h0
  have hi:n / sz < xs.length:=by rw[Nat.div_lt_iff_lt_mul SN];exact hn
  have he:xs[n / sz]? =some xs[n / sz]:=by simp[hi]
  have hl:=hsz _ (List.getElem_mem hi)
  have hj:n % sz < xs[n / sz].length:=by rw[hl];exact Nat.mod_lt _ SN
  obtain⟨x,hx,_,h1⟩:=hc (n / sz) xs[n / sz] (n % sz) xs[n / sz][n % sz] he (by simp[hj])
  rw[Nat.div_add_mod']at hx
  exact⟨x,hx,h1⟩
 refine⟨(List.range (xs.length * sz)).map fun n=>(g n).getD undef,by simp,?_,?_,?_⟩
 · intro j v hv
   have hj:j < xs.length * sz:=by
    have:=(List.getElem?_eq_some_iff.1 hv).1
    simpa using this
   obtain⟨x,hx,_⟩:=key j hj
   simp[hj,hx]at hv
   rw[hx,hv]
 · intro v hv
   simp only[List.mem_map,List.mem_range]at hv
   obtain⟨n,hn,rfl⟩:=hv
   obtain⟨x,hx,h1⟩:=key n hn
   simpa[hx]using h1
 · intro i el j k hi hj
   obtain⟨x,hx,hr,h1⟩:=hc i el j k hi hj
   have BR:i < xs.length:=(List.getElem?_eq_some_iff.1 hi).1
   have BQ:j < sz:=by rw[←hsz el (List.mem_of_getElem? hi)];exact(List.getElem?_eq_some_iff.1 hj).1
   have hlt:i * sz+j < xs.length * sz:=by
    have h2:(i+1) * sz≤xs.length * sz:=Nat.mul_le_mul_right _ BR
    rw[Nat.add_mul]at h2
    omega
   refine⟨x,by simp[hlt,hx],hr,h1⟩
theorem ji {c:C} {sz:Nat} {xs:List (List C)} {x:Value} (h:Rel M A ρ F st a w) (he:elems st.heap c=some (sz,xs)) (hr:RC w A ρ c x):
 (∀e,e∈xs→e.length=sz)∧ ∃b cap,x= .slice b xs.length cap∧xs.length≤cap:=by
 unfold elems at he
 split at he
 · rename_i id sz' i len
   split at he
   · rename_i cV ys hf
     split at he
     · rename_i hc
       obtain⟨rfl,hle⟩:=hc
       simp only[Option.some.injEq,Prod.mk.injEq]at he
       obtain⟨rfl,rfl⟩:=he
       refine⟨fun e he=>(h.heap id _ hf).1 e (List.mem_of_mem_drop (List.mem_of_mem_take he)),?_⟩
       have hlen:((ys.drop i).take len).length=len:=by simp;omega
       rw[hlen]
       rcases hr with⟨b,cap,q,e,k1,rfl,k3,k4,k5⟩|⟨_,_,rfl,rfl⟩
       · exact⟨_,_,rfl,k3⟩
       · exact⟨_,_,rfl,Nat.le_refl _⟩
     · simp at he
   · simp at he
 · rename_i sz' ys
   simp only[Option.some.injEq,Prod.mk.injEq]at he
   obtain⟨rfl,rfl⟩:=he
   cases hr with
   |nil=>exact⟨by simp,_,_,rfl,by simp⟩
   |av f hl hcap hb hA hsz hc Ng=>
    refine⟨fun e he=>?_,_,_,by simp[hl];exact⟨rfl,rfl⟩,by simp;omega⟩
    simp only[List.mem_map]at he
    obtain⟨e',he',rfl⟩:=he
    simpa using hsz e' he'
 · simp at he
theorem iH {c:C} {sz:Nat} {xs:List (List C)} {x:Value} (h:Rel M A ρ F st a w) (he:elems st.heap c=some (sz,xs)) (hr:RC w A ρ c x) (hne:xs≠ []):
 ∃b o cap,x= .slice (some ⟨b,o,none⟩) xs.length cap∧
  ∀ (i:Nat) (el:List C) (j:Nat) (k:C),xs[i]? =some el→el[j]? =some k→ ∃y,w.cell? ⟨b,o+(i * sz+j),none⟩=some y∧RC w A ρ k y∧cD y=true:=by
 unfold elems at he
 split at he
 · rename_i id sz' i len
   split at he
   · rename_i cV ys hf
     split at he
     · rename_i hc
       obtain⟨rfl,hle⟩:=hc
       simp only[Option.some.injEq,Prod.mk.injEq]at he
       obtain⟨rfl,rfl⟩:=he
       have hlen:((ys.drop i).take len).length=len:=by simp;omega
       rw[hlen]
       rcases hr with⟨b,cap,q,e,k1,rfl,k3,k4,k5⟩|⟨_,_,rfl,rfl⟩
       · refine⟨b,i * cV,cap,rfl,fun i' el j k hi hj=>?_⟩
         have BR:i' < len:=by rw[←hlen];exact(List.getElem?_eq_some_iff.1 hi).1
         have hi':ys[i+i']? =some el:=by simpa[List.getElem?_take,BR]using hi
         rcases(h.heap id _ hf).2 with⟨b',c',e',q1,q2,q3,q4,q5,q6⟩|⟨q1,_⟩
         · rw[k1]at q1
           simp only[Option.some.injEq,Loc.fz.injEq]at q1
           subst q1
           obtain⟨y,hy,hr,h1⟩:=q6 (i+i') el j k hi' hj
           rw[Nat.add_mul]at hy
           exact⟨y,by simp[World.cell?,q4];rw[←Nat.add_assoc];exact hy,hr,h1⟩
         · simp[k1]at q1
       · simp at hne
     · simp at he
   · simp at he
 · rename_i sz' ys
   simp only[Option.some.injEq,Prod.mk.injEq]at he
   obtain⟨rfl,rfl⟩:=he
   cases hr with
   |nil=>simp at hne
   |av f hl hcap hb hA hsz hc Ng=>
    rename_i b off len cap
    refine⟨b,off,cap,by simp[hl],fun i el j k hi hj=>?_⟩
    simp only[List.getElem?_map,Option.map_eq_some_iff]at hi
    obtain⟨e,he,rfl⟩:=hi
    simp only[List.getElem?_map,Option.map_eq_some_iff]at hj
    obtain⟨t,ht,rfl⟩:=hj
    have dr:=Ng i e j t he ht
    exact⟨f i j,by rw[←Nat.add_assoc];exact hc i e j t he ht,dr,dr.cell⟩
 · simp at he
def mZ (P:Program) (e:TypeId):Option (Nat×Nat):=
 match P.info? e with
 |some i=>
  match i.zero with
  |some z=>if z.cells.size=i.size∧0 < i.size then some (i.size,i.bytes)else none
  |none=>none
 |none=>none
def aU:Nat:=140737488355328
def isNil:C→Bool
 | .t (.val (.slice none 0 0))=>true
 |_=>false
def eo (P:Program) (t:TypeId) (s x:V) (heap:List (Nat×bi)) (nid:Nat):Option (V×List (Nat×bi)):=
 match s,x with
 | .w (.one s), .w (.one x)=>
   match P.underlying t with
   |some (.slice e)=>
    match mZ P e,(if isNil x then some (0,[])else elems heap x)with
    |some (size,bytes),some (sz,ys)=>
     if ys.isEmpty then
      (if(C.uO s).isSome then some (.w (.one s),heap)else none)
     else if sz=size then
      match s with
      | .own id sz' 0 len=>
        match find heap id with
        |some (.row cV xs)=>
         if sz'=size∧cV=size∧len=xs.length∧(xs.length+ys.length) * bytes≤aU∧xs.length+ys.length≤maxLen then
          some (.w (.one (.own nid size 0 (xs.length+ys.length))),(nid, .row size (xs++ys))::del heap id)
         else none
        |_=>none
      |s=>
       if isNil s∧ys.length * bytes≤aU∧ys.length≤maxLen then
        some (.w (.one (.own nid size 0 ys.length)),(nid, .row size ys)::heap)
       else none
     else none
    |_,_=>none
   |_=>none
 |_,_=>none
theorem lJ {e:TypeId} {size bytes:Nat} (h:mZ P e=some (size,bytes)): ∃i z,P.info? e=some i∧i.zero=some z∧i.size=size∧i.bytes=bytes∧z.cells.size=size∧0 < size:=by
 unfold mZ at h
 split at h
 · rename_i i hi
   split at h
   · rename_i z hz
     split at h
     · rename_i hc
       simp only[Option.some.injEq,Prod.mk.injEq]at h
       obtain⟨rfl,rfl⟩:=h
       exact⟨i,z,hi,hz,rfl,rfl,hc.1,hc.2⟩
     · simp at h
   · simp at h
 · simp at h
theorem oM {c:C} {x:Value} (h:isNil c=true) (hr:RC w A ρ c x):x= .slice none 0 0:=by
 unfold isNil at h
 split at h
 · cases hr;rfl
 · simp at h
theorem jy (h:Rel M A ρ F st a w) {nid:Nat} (hn:F nid) {size:Nat} {zs:List (List C)} {vs:List Value} {z:Array Value} {e:TypeId} {cap:Nat}
 (hz:z.size=size) (hsz: ∀el,el∈zs→el.length=size) (hl:vs.length=zs.length * size) (hcap:zs.length≤cap)
 (hc: ∀ (i:Nat) (el:List C) (j:Nat) (k:C),zs[i]? =some el→el[j]? =some k→ ∃x,vs[i * size+j]? =some x∧RC w A ρ k x∧cD x=true):
 ∃A' ρ',Rel M A' ρ' (Sub F nid) {st with heap:=(nid, .row size zs)::st.heap} a (w.drew.alloc (.cells (vs.toArray++Builtin.zeroCells z (cap - zs.length)) e))∧
  RV (w.drew.alloc (.cells (vs.toArray++Builtin.zeroCells z (cap - zs.length)) e)) A' ρ' (.w (.one (.own nid size 0 zs.length))) (.slice (some ⟨w.heap.size,0,none⟩) zs.length cap)∧
  df M w (w.drew.alloc (.cells (vs.toArray++Builtin.zeroCells z (cap - zs.length)) e))∧cU ρ ρ'∧bE A A' w:=by
 have hd:=h.drew
 have hk:dZ A A w w.drew:=⟨Nat.le_refl _,fun b _ hn=>⟨rfl,hn⟩⟩
 have hzc:(Builtin.zeroCells z (cap - zs.length)).size=(cap - zs.length) * size:=by rw[size_zeroCells,hz]
 obtain⟨r1,r2⟩:=Rel.alloc (w:=w.drew) hd hn (sz:=size) (xs:=zs) (c:=vs.toArray++Builtin.zeroCells z (cap - zs.length)) (e:=e) hsz (by simp[hl]) (fun i el j k hi hj=>by
  obtain⟨x,hx,hr,h1⟩:=hc i el j k hi hj
  refine⟨x,?_,hr.keeps hk (fun _ _=>rfl) (cU.refl _),h1⟩
  rw[Array.getElem?_append_left (by simpa using(List.getElem?_eq_some_iff.1 hx).1)]
  simpa using hx)
 refine⟨_,_,r1,⟨.inl ⟨w.heap.size,cap,cap * size,e,by show dg ρ nid (.fz w.heap.size) nid=_;simp[dg],by simp,hcap,?_,?_⟩,rfl⟩,(df.drew M w).trans (df.alloc M _ _),r2,bE.new A w⟩
 · have:=heap_alloc_new w.drew (.cells (vs.toArray++Builtin.zeroCells z (cap - zs.length)) e)
   simp only[World.shape?]
   have e1:w.drew.heap.size=w.heap.size:=rfl
   rw[e1]at this
   rw[this]
   simp only[Array.size_append,List.size_toArray,hl,hzc, ←Nat.add_mul,Option.some.injEq,Prod.mk.injEq,true_and]
   congr 1
   omega
 · simp
theorem qY {t ty:TypeId} {s x v:V} {sv xv:Value} {heap':List (Nat×bi)} {nid:Nat} (h:Rel M A ρ F st a w) (hn:F nid)
 (he:eo P t s x st.heap nid=some (v,heap')) (hs:RV w A ρ s sv) (hx:RV w A ρ x xv):
 ∃y w' A' ρ',(Builtin.append_ #[t,t] ty #[sv,xv]).run P w= .ok y w'∧Rel M A' ρ' (Sub F nid) {st with heap:=heap'} a w'∧RV w' A' ρ' v y∧df M w w'∧cU ρ ρ'∧bE A A' w:=by
 unfold eo at he
 split at he
 · rename_i s x
   split at he
   · rename_i e hu
     split at he
     · rename_i size bytes sz ys hT hys
       obtain⟨i,z,hi,hz,hsize,hby,hzs,hpos⟩:=lJ hT
       split at he
       ·
        rename_i zn
        split at he
        · rename_i hlen
          simp only[Option.some.injEq,Prod.mk.injEq]at he
          obtain⟨rfl,rfl⟩:=he
          obtain⟨n,hn'⟩:=Option.isSome_iff_exists.1 hlen
          obtain⟨b,cap,rfl,hcap⟩:=C.qK hn' hs.1
          have hx0: ∃b' cap',xv= .slice b' 0 cap':=by
           split at hys
           · rename_i zk
             rw[oM zk hx.1];exact⟨_,_,rfl⟩
           · obtain⟨_,b',cap',rfl,_⟩:=ji h hys hx.1
             simp only[List.isEmpty_iff]at zn
             subst zn
             exact⟨_,_,rfl⟩
          obtain⟨b',cap',rfl⟩:=hx0
          refine⟨_,w,A,ρ,?_,h.sub (fun id bJ=>bJ.1),hs,df.refl _ _,cU.refl _,bE.refl A w⟩
          have Tl:(Builtin.firstCells i.size 0 (.slice b' 0 cap')).run P w= .ok #[] w:=by
           cases b'<;>simp[Builtin.firstCells,loadCells,loadCellsFrom]
          cases b<;>simp[Builtin.append_,run_underlying hu,sizeOf,typeInfo,hi,Builtin.lenOf,hcap,Tl,storeCells]
        · simp at he
       · rename_i zn
         have Xu:¬isNil x=true:=by
          intro zk
          rw[if_pos zk]at hys
          simp only[Option.some.injEq,Prod.mk.injEq]at hys
          simp[←hys.2]at zn
         rw[if_neg Xu]at hys
         have hne:ys≠ []:=fun e=>by simp[e]at zn
         have Lk:0 < ys.length:=List.length_pos_iff.2 hne
         obtain⟨JL,_⟩:=ji h hys hx.1
         obtain⟨xb,xo,FO,rfl,hxc⟩:=iH h hys hx.1 hne
         split at he
         · rename_i XJ
           subst XJ
           obtain⟨news,hnl,hng,rV,X9⟩:=mT (g:=fun n=>w.cell? ⟨xb,xo+n,none⟩) JL hxc
           have hnews: ∀ (j:Nat) (u:Value),news[j]? =some u→w.cell? ((⟨xb,xo,none⟩:Addr).add j)=some u:=fun j u hj=>by rw[Addr.add_lit];exact hng j u hj
           split at he
           · rename_i id sz' len
             split at he
             · rename_i cV xs hf
               split at he
               · rename_i hc
                 obtain⟨rfl,rfl,rfl,hroom,Nl⟩:=hc
                 simp only[Option.some.injEq,Prod.mk.injEq]at he
                 obtain⟨rfl,rfl⟩:=he
                 obtain⟨SG,hblk⟩:=h.heap id _ hf
                 have h63:((xs.length+ys.length:Nat):Int)≤9223372036854775807:=by simp only[maxLen]at Nl;omega
                 rcases hs.1 with⟨b,cap,q,e',k1,rfl,k3,k4,k5⟩|⟨k1,_,k2,rfl⟩
                 · rcases hblk with⟨b',c,e2,q1,q2,q3,q4,q5,q6⟩|⟨q1,_⟩
                   · rw[k1]at q1
                     simp only[Option.some.injEq,Loc.fz.injEq]at q1
                     subst q1
                     have hcs:c.size=q:=by simp only[World.shape?,q4,Option.some.injEq,Prod.mk.injEq]at k4;exact k4.2
                     obtain⟨olds,S1,OT,ho1,hor⟩:=mT (g:=fun n=>c[n]?) SG q6
                     have holds: ∀ (j:Nat) (u:Value),olds[j]? =some u→w.cell? ((⟨b,0,none⟩:Addr).add j)=some u:=fun j u hj=>by
                      rw[Addr.add_lit];simp[World.cell?,q4,OT j u hj]
                     have Lu: ∀ (i':Nat) (el:List C) (j:Nat) (k:C),(xs++ys)[i']? =some el→el[j]? =some k→ ∃y,(olds++news)[i' * cV+j]? =some y∧RC w A ρ k y∧cD y=true:=by
                      intro i' el j k hi' hj
                      by_cases hlt:i' < xs.length
                      · rw[List.getElem?_append_left hlt]at hi'
                        obtain⟨y,hy,hr,h1⟩:=hor i' el j k hi' hj
                        exact⟨y,by rw[List.getElem?_append_left (List.getElem?_eq_some_iff.1 hy).1];exact hy,hr,h1⟩
                      · rw[List.getElem?_append_right (by omega)]at hi'
                        obtain⟨y,hy,hr,h1⟩:=X9 (i' - xs.length) el j k hi' hj
                        refine⟨y,?_,hr,h1⟩
                        have e1:(i' - xs.length) * cV+xs.length * cV=i' * cV:=by rw[←Nat.add_mul];congr 1;omega
                        rw[List.getElem?_append_right (by omega),S1]
                        rw[show i' * cV+j - xs.length * cV=(i' - xs.length) * cV+j by omega]
                        exact hy
                     have SM: ∀el,el∈xs++ys→el.length=cV:=fun el hel=>(List.mem_append.1 hel).elim (SG el) (JL el)
                     by_cases hfit:xs.length+ys.length≤cap
                     ·
                      have Hq:xs.length * i.size+news.length≤c.size:=by
                       rw[hsize,hnl,hcs, ←Nat.add_mul]
                       have:(xs.length+ys.length) * cV≤cap * cV:=Nat.mul_le_mul_right _ hfit
                       simp only[Nat.zero_mul,Nat.zero_add]at k5
                       omega
                      have q4':=q4
                      have hst:=run_storeCells_at P b (xs.length * i.size) e2 news 0 c w q4 (by simpa using Hq) rV
                      simp only[Nat.add_zero]at hst
                      have me:=run_firstCells_some (P:=P) w i.size ys.length ⟨xb,xo,none⟩ ys.length FO news (by rw[hnl,hsize]) hnews
                      have hrun:(Builtin.append_ #[t,t] ty #[.slice (some ⟨b,0 * cV,none⟩) xs.length cap, .slice (some ⟨xb,xo,none⟩) ys.length FO]).run P w=
                       .ok (.slice (some ⟨b,0,none⟩) (xs.length+ys.length) cap) (w.setRow b (c.toList.take (xs.length * i.size)++news++c.toList.drop (xs.length * i.size+news.length)).toArray):=by
                       simp[Builtin.append_,run_underlying hu,sizeOf,typeInfo,hi,Builtin.lenOf,hfit,me,Addr.add_lit,hst]
                      have XO:c.toList.take (xs.length * i.size)++news++c.toList.drop (xs.length * i.size+news.length)=aX c.toList (xs.length * cV) news:=by rw[hsize];rfl
                      rw[XO]at hrun
                      have hb0:xs.length * cV+news.length≤c.toList.length:=by rw[hsize]at Hq;simpa using Hq
                      obtain⟨r1,r2⟩:=h.write (c':=(aX c.toList (xs.length * cV) news).toArray) (xs':=xs++ys) hf k1 q4
                       (by simp only[List.size_toArray];rw[bU hb0];simp) SM
                       (by simp only[List.size_toArray];rw[bU hb0];simp only[List.length_append,Nat.add_mul,Array.length_toList];rw[hnl]at hb0;simpa using hb0)
                       (fun i' el j k hi' hj=>by
                         obtain⟨y,hy,hr,h1⟩:=Lu i' el j k hi' hj
                         refine⟨y,?_,hr,h1⟩
                         simp only[List.getElem?_toArray]
                         rw[eY hb0]
                         by_cases hlt:i' * cV+j < olds.length
                         · rw[List.getElem?_append_left hlt]at hy
                           rw[if_neg (by omega)]
                           simpa using OT _ _ hy
                         · rw[List.getElem?_append_right (by omega)]at hy
                           have:=(List.getElem?_eq_some_iff.1 hy).1
                           rw[if_pos (by omega), ←S1]
                           exact hy)
                      obtain⟨l,hl,r3,r4⟩:=r1.rename (id:=id) (nid:=nid) (blk:= .row cV (xs++ys)) (by simp[bQ,hf]) hn
                      have Yy:del (jJ st.heap id (.row cV (xs++ys))) id=del st.heap id:=by
                       clear r1 r2 r3 r4 hl hf h
                       induction st.heap with
                       |nil=>rfl
                       |cons p r ih=>
                        obtain⟨k,u⟩:=p
                        simp only[jJ,del]
                        by_cases hk:k=id
                        · simp[hk,del]
                        · simp[hk,del,ih]
                      simp only[Yy]at r3
                      rw[k1]at hl
                      simp only[Option.some.injEq]at hl
                      subst hl
                      refine⟨_,_,A,_,hrun,r3,⟨.inl ⟨b,cap,q,e',by simp[dg],by simp,hfit,?_,?_⟩,rfl⟩,r2,r4,bE.refl A w⟩
                      · rw[lm q4 (by simp only[List.size_toArray];rw[bU hb0];simp)];exact k4
                      · exact k5
                     ·
                      have OX:Builtin.nextslicecap (xs.length+ys.length) cap * i.bytes≤281474976710656:=by
                       rw[hby]
                       exact growslice_fits (by omega) (by simp only[aU]at hroom;exact hroom)
                      have hrun:=run_append_grow (P:=P) w t ty e i z hu hi hz ⟨b,0,none⟩ xs.length cap olds (by rw[S1,hsize]) holds ⟨xb,xo,none⟩ ys.length FO news (by rw[hnl,hsize]) hnews (by omega) h63 OX
                      have hge:=grownCap_ge w (xs.length+ys.length) cap e
                      obtain⟨A',ρ',r1,r2,r3,r4,r5⟩:=jy (e:=e) (z:=z.cells) (cap:=grownCap w (xs.length+ys.length) cap e) h hn hzs SM (vs:=olds++news) (by simp[S1,hnl,Nat.add_mul]) (by simpa using hge) Lu
                      have Mz:=r1.drop id
                      have Nk:¬nid=id:=by
                       intro e
                       have:=h.fresh nid hn
                       rw[e,k1]at this
                       simp at this
                      simp only[del,Nk,if_false]at Mz
                      have e0:(⟨b,0 * cV,none⟩:Addr)=⟨b,0,none⟩:=by simp
                      rw[e0]
                      simp only[List.length_append]at Mz r2 r3
                      have e1:(olds++news).toArray=olds.toArray++news.toArray:=by simp
                      rw[e1]at Mz r2 r3
                      exact⟨_,_,A',ρ',hrun,Mz,r2,r3,r4,r5⟩
                   · simp[k1]at q1
                 ·
                  have hx0:xs=[]:=List.eq_nil_of_length_eq_zero k2
                  subst hx0
                  simp only[List.length_nil,Nat.zero_add,List.nil_append]at *
                  have hrun:=run_append_nil (P:=P) w t ty e i z hu hi hz ⟨xb,xo,none⟩ ys.length FO news (by rw[hnl,hsize]) hnews Lk h63 (by rw[hby];simp only[aU]at hroom;omega)
                  have hge:=grownCap_ge w ys.length 0 e
                  obtain⟨A',ρ',r1,r2,r3,r4,r5⟩:=jy (e:=e) (z:=z.cells) (cap:=grownCap w ys.length 0 e) h hn hzs JL (vs:=news) hnl hge X9
                  have Mz:=r1.drop id
                  have Nk:¬nid=id:=by
                   intro e
                   have:=h.fresh nid hn
                   rw[e,k1]at this
                   simp at this
                  simp only[del,Nk,if_false]at Mz
                  exact⟨_,_,A',ρ',hrun,Mz,r2,r3,r4,r5⟩
               · simp at he
             · simp at he
           · split at he
             · rename_i hc
               obtain⟨zk,hroom,Nl⟩:=hc
               simp only[Option.some.injEq,Prod.mk.injEq]at he
               obtain⟨rfl,rfl⟩:=he
               have SO:=oM zk hs.1
               subst SO
               have h63:((ys.length:Nat):Int)≤9223372036854775807:=by simp only[maxLen]at Nl;omega
               have hrun:=run_append_nil (P:=P) w t ty e i z hu hi hz ⟨xb,xo,none⟩ ys.length FO news (by rw[hnl,hsize]) hnews Lk h63 (by rw[hby];simp only[aU]at hroom;omega)
               have hge:=grownCap_ge w ys.length 0 e
               obtain⟨A',ρ',r1,r2,r3,r4,r5⟩:=jy (e:=e) (z:=z.cells) (cap:=grownCap w ys.length 0 e) h hn hzs JL (vs:=news) hnl hge X9
               exact⟨_,_,A',ρ',hrun,r1,r2,r3,r4,r5⟩
             · simp at he
         · simp at he
     · simp at he
   · simp at he
 · simp at he
end Go.aS
end
section
namespace Go.aS
open Go
variable {P:Program} {M A:Nat→Prop} {ρ:Env} {F:Nat→Prop} {st:St} {a:Act} {w:World}
theorem pT (off:Nat): ∀ (l:List Value) (s:Nat) (cs:Array Value),off+s+l.length≤cs.size→
 (l.zipIdx s).foldl (fun(cs:Array Value) (p:Value×Nat)=>cs.setIfInBounds (off+p.2) p.1) cs=(aX cs.toList (off+s) l).toArray
 | [],s,cs,_=>by simp[aX]
 |v::l,s,cs,h=>by
  simp only[List.length_cons]at h
  simp only[List.zipIdx_cons,List.foldl_cons]
  rw[pT off l (s+1) _ (by simp;omega)]
  congr 1
  have e:=list_seg_step cs.toList (off+s) v l (by simp;omega)
  simpa[aX,Array.toList_setIfInBounds,Nat.add_assoc,Nat.add_comm,Nat.add_left_comm]using e
theorem xU (place:Nat→Option (Nat×Nat)) (cells:Array Value) (i:Nat) (v:Value) (rest:List (Nat×Value)) {off size:Nat}
 (hp:place i=some (off,size)) (hs:v.cells.size=size) (hl:off+size≤cells.size):
 Instr.fill place cells ((i,v)::rest)=Instr.fill place (aX cells.toList off v.cells.toList).toArray rest:=by
 have:=pT off v.cells.toList 0 cells (by simp;omega)
 simp only[Instr.fill,hp]
 have hn:¬ (v.cells.size≠size||off+v.cells.size > cells.size)=true:=by simp[hs];omega
 rw[if_neg hn]
 congr 1
 rw[←Array.foldl_toList,Array.toList_zipIdx]
 simpa using this
def sj (place:Nat→Option (Nat×Nat)) (cells:List C):List (Nat×W)→Option (List C)
 | []=>some cells
 |(i,u)::rest=>
  match place i with
  |none=>none
  |some (off,size)=>if(cellsOf u).length=size∧off+size≤cells.length then sj place (aX cells off (cellsOf u)) rest else none
def Il (w:World) (A:Nat→Prop) (ρ:Env):List (Nat×W)→List (Nat×Value)→Prop
 | [],[]=>True
 |(i,u)::r,(i',v)::r'=>i=i'∧RW w A ρ u v∧Il w A ρ r r'
 |_,_=>False
theorem tq.aX {cs:List C} {vs:Array Value} {off:Nat} {u:W} {v:Value} (h:tq w A ρ cs vs) (hu:RW w A ρ u v) (hl:off+(cellsOf u).length≤cs.length):
 tq w A ρ (aS.aX cs off (cellsOf u)) (aS.aX vs.toList off v.cells.toList).toArray:=by
 have hc:=hu.cells
 have e1:v.cells.toList.length=(cellsOf u).length:=by simp[hc.1]
 have rW:off+v.cells.toList.length≤vs.toList.length:=by rw[e1];simpa[←h.1]using hl
 refine⟨by rw[bU hl];simp only[List.size_toArray];rw[bU rW];simpa using h.1,fun k c x hk hx=>?_⟩
 rw[eY hl]at hk
 simp only[List.getElem?_toArray]at hx
 rw[eY rW]at hx
 split at hk
 · rename_i hin
   rw[if_pos (by omega)]at hx
   exact hc.2 _ c x hk (by simpa using hx)
 · rename_i hin
   rw[if_neg (by omega)]at hx
   exact h.2 k c x hk (by simpa using hx)
theorem mW {place:Nat→Option (Nat×Nat)}: ∀ {ps:List (Nat×W)} {qs:List (Nat×Value)} {cs cs':List C} {vs:Array Value},sj place cs ps=some cs'→
 tq w A ρ cs vs→Il w A ρ ps qs→ ∃vs',Instr.fill place vs qs=some vs'∧tq w A ρ cs' vs'
 | [],[],cs,cs',vs,h,hr,_=>by
   simp only[sj,Option.some.injEq]at h
   subst h
   exact⟨vs,rfl,hr⟩
 | [],_::_,_,_,_,_,_,hp=>by simp[Il]at hp
 |_::_,[],_,_,_,_,_,hp=>by simp[Il]at hp
 |(i,u)::r,(i',v)::r',cs,cs',vs,h,hr,hp=>by
  obtain⟨rfl,hu,aF⟩:=hp
  simp only[sj]at h
  split at h
  · simp at h
  · rename_i off size jv
    split at h
    · rename_i hc
      have YA:=hu.cells
      rw[xU place vs i v r' jv (by rw[←YA.1,hc.1]) (by rw[←hr.1];exact hc.2)]
      exact mW h (hr.aX hu (by rw[hc.1];exact hc.2)) aF
    · simp at h
def iR (P:Program) (t:TypeId):Option (List C):=
 match P.info? t with
 |some i=>
  match i.zero with
  |some z=>if z.cells.size=i.size∧z.cells.toList.all cD=true then some (z.cells.toList.map fun c=> .t (.val c))else none
  |none=>none
 |none=>none
theorem ec {t:TypeId} {cs:List C} (h:iR P t=some cs) (w:World) (A:Nat→Prop) (ρ:Env):
 ∃i z,P.info? t=some i∧i.zero=some z∧z.cells.size=i.size∧i.size=cs.length∧tq w A ρ cs z.cells:=by
 unfold iR at h
 split at h
 · rename_i i hi
   split at h
   · rename_i z hz
     split at h
     · rename_i hc
       simp only[Option.some.injEq]at h
       subst h
       refine⟨i,z,hi,hz,hc.1,by simp[hc.1],by simp,fun k c x hk hx=>?_⟩
       simp only[List.getElem?_map,Array.getElem?_toList,hx,Option.map_some,Option.some.injEq]at hk
       subst hk
       have hm:x∈z.cells.toList:=List.mem_of_getElem? (i:=k) (by simpa using hx)
       have:=List.all_eq_true.1 hc.2 x hm
       exact⟨.val this,this⟩
     · simp at h
   · simp at h
 · simp at h
theorem di {t:TypeId} {i:TypeInfo} {z:Value} (hi:P.info? t=some i) (hz:i.zero=some z) (w:World):(zeroValue t).run P w= .ok z w:=by
 simp[zeroValue,typeInfo,hi,hz]
def kO (P:Program) (e:TypeId) (nid:Nat):Option (V×(Nat×bi)):=
 match iR P e with
 |some cs=>some (.w (.one (.ptr nid cs.length 0 0)),(nid, .row cs.length [cs]))
 |none=>none
theorem qd (h:Rel M A ρ F st a w) {nid:Nat} (hn:F nid) {cs:List C} {vs:Array Value} (hr:tq w A ρ cs vs) (e:TypeId):
 ∃A' ρ',Rel M A' ρ' (Sub F nid) {st with heap:=(nid, .row cs.length [cs])::st.heap} a (w.alloc (.cells vs e))∧
  RV (w.alloc (.cells vs e)) A' ρ' (.w (.one (.ptr nid cs.length 0 0))) (.pointer (some ⟨w.heap.size,0,none⟩))∧cU ρ ρ'∧bE A A' w:=by
 obtain⟨h1,h2⟩:=h.alloc hn (sz:=cs.length) (xs:=[cs]) (c:=vs) (e:=e) (by simp) (by simp[hr.1]) (fun i el j k hi hj=>by
  cases i with
  |zero=>
   simp only[List.getElem?_cons_zero,Option.some.injEq]at hi
   subst hi
   have hj':j < cs.length:=(List.getElem?_eq_some_iff.1 hj).1
   have UU:j < vs.size:=hr.1▸hj'
   have hx:vs[j]? =some vs[j]:=by simp[UU]
   obtain⟨r1,r2⟩:=hr.2 j k _ hj hx
   exact⟨_,by simp[hx],r1,r2⟩
  |succ i=>simp at hi)
 exact⟨_,_,h1,⟨⟨w.heap.size,by simp[dg],by simp⟩,rfl⟩,h2,bE.new A w⟩
theorem tc {e:TypeId} {nid:Nat} {v:V} {p:Nat×bi} (h:Rel M A ρ F st a w) (hn:F nid) (he:kO P e nid=some (v,p)):
 ∃y w' A' ρ',(Instr.alloc e true (.tuple #[])).run P w= .ok y w'∧Rel M A' ρ' (Sub F nid) {st with heap:=p::st.heap} a w'∧RV w' A' ρ' v y∧df M w w'∧cU ρ ρ'∧bE A A' w:=by
 unfold kO at he
 split at he
 · rename_i cs hz
   simp only[Option.some.injEq,Prod.mk.injEq]at he
   obtain⟨rfl,rfl⟩:=he
   obtain⟨i,z,hi,G4,hzs,_,hr⟩:=ec hz w A ρ
   obtain⟨A',ρ',h1,h2,h3,h4⟩:=qd h hn hr e
   exact⟨_,_,A',ρ',by simp[Instr.alloc,di hi G4,newVar,newRow],h1,h2,df.alloc M w _,h3,h4⟩
 · simp at he
def pV (v:V) (nid:Nat):Option (V×(Nat×bi)):=
 match v with
 | .w u=>some (.w (.one (.ptr nid (cellsOf u).length 0 0)),(nid, .row (cellsOf u).length [cellsOf u]))
 |_=>none
theorem wR {e:TypeId} {nid:Nat} {v u:V} {x:Value} {p:Nat×bi} (h:Rel M A ρ F st a w) (hn:F nid) (he:pV v nid=some (u,p)) (hv:RV w A ρ v x):
 ∃y w' A' ρ',(Instr.box e x).run P w= .ok y w'∧Rel M A' ρ' (Sub F nid) {st with heap:=p::st.heap} a w'∧RV w' A' ρ' u y∧df M w w'∧cU ρ ρ'∧bE A A' w:=by
 unfold pV at he
 split at he
 · rename_i q
   simp only[Option.some.injEq,Prod.mk.injEq]at he
   obtain⟨rfl,rfl⟩:=he
   obtain⟨A',ρ',h1,h2,h3,h4⟩:=qd h hn (RW.cells hv) e
   exact⟨_,_,A',ρ',by simp[Instr.box,newVar,newRow],h1,h2,df.alloc M w _,h3,h4⟩
 · simp at he
def placesOf (P:Program):List Field→Option (List (Nat×Nat))
 | []=>some []
 |f::r=>match cG P f.type,placesOf P r with
  |some n,some l=>some ((f.offset,n)::l)
  |_,_=>none
theorem run_places: ∀ {fs:List Field} {l:List (Nat×Nat)},placesOf P fs=some l→ ∀w,(fs.mapM fun(f:Field)=>do pure (f.offset, ←sizeOf f.type)).run P w= .ok l w
 | [],l,h,w=>by simp only[placesOf,Option.some.injEq]at h;subst h;simp
 |f::r,l,h,w=>by
  simp only[placesOf]at h
  split at h
  · rename_i n l' hn hl
    simp only[Option.some.injEq]at h
    subst h
    have:=run_places hl w
    simp only[bind_pure_comp]at this
    simp[List.mapM_cons,run_sizeOf hn,this]
  · simp at h
def kN (P:Program) (t:TypeId) (ps:List (Nat×W)):Option V:=
 match iR P t,P.underlying t with
 |some z,some (.struct fields)=>
  match placesOf P fields.toList with
  |some l=>(sj (fun i=>l[i]?) z ps).map fun cs=> .w (.agg cs)
  |none=>none
 |some z,some (.array _ e)=>
  match cG P e with
  |some size=>(sj (fun i=>some (i * size,size)) z ps).map fun cs=> .w (.agg cs)
  |none=>none
 |_,_=>none
theorem s9 {t:TypeId} {ps:List (Nat×W)} {qs:Array (Nat×Value)} {v:V} (he:kN P t ps=some v) (hp:Il w A ρ ps qs.toList):
 ∃y,(Instr.build t qs).run P w= .ok y w∧RV w A ρ v y:=by
 unfold kN at he
 split at he
 · rename_i z fields hz hu
   split at he
   · rename_i l hl
     simp only[Option.map_eq_some_iff]at he
     obtain⟨cs,hcs,rfl⟩:=he
     obtain⟨i,zv,hi,G4,hzs,_,hr⟩:=ec hz w A ρ
     obtain⟨vs,hvs,dr⟩:=mW hcs hr hp
     have hrun:=run_places hl w
     have SV:(fields.mapM fun(f:Field)=>do pure (f.offset, ←sizeOf f.type)).run P w= .ok l.toArray w:=by
      rw[Array.mapM_eq_mapM_toList]
      simp only[Sem.run_map,hrun,Result.andThen_ok]
     refine⟨.agg vs,?_,vs,rfl,dr⟩
     have e1:(fun(i:Nat)=>l.toArray[i]?)=fun(i:Nat)=>l[i]? :=by funext i;simp
     simp only[Instr.build,Sem.run_bind,di hi G4,Result.andThen_ok,run_underlying hu,SV,e1,hvs,Sem.run_pure]
   · simp at he
 · rename_i z n e hz hu
   split at he
   · rename_i size hs
     simp only[Option.map_eq_some_iff]at he
     obtain⟨cs,hcs,rfl⟩:=he
     obtain⟨i,zv,hi,G4,hzs,_,hr⟩:=ec hz w A ρ
     obtain⟨vs,hvs,dr⟩:=mW hcs hr hp
     refine⟨.agg vs,?_,vs,rfl,dr⟩
     simp only[Instr.build,Sem.run_bind,di hi G4,Result.andThen_ok,run_underlying hu,run_sizeOf hs,hvs,Sem.run_pure]
   · simp at he
 · simp at he
def RE (w:World) (A:Nat→Prop) (ρ:Env) (size:Nat) (xs:List (List C)) (vs:Array Value):Prop:=
 (∀e,e∈xs→e.length=size)∧vs.size=xs.length * size∧
   ∀ (i:Nat) (el:List C) (j:Nat) (k:C),xs[i]? =some el→el[j]? =some k→ ∃x,vs[i * size+j]? =some x∧RC w A ρ k x∧cD x=true
def oc (size:Nat) (xs:List (List C)):List (Nat×W)→Option (List (List C))
 | []=>some xs
 |(i,u)::rest=>if(cellsOf u).length=size∧i < xs.length then oc size (xs.set i (cellsOf u)) rest else none
theorem RE.set {size:Nat} {xs:List (List C)} {vs:Array Value} {i:Nat} {u:W} {v:Value} (h:RE w A ρ size xs vs) (hu:RW w A ρ u v) (hl:(cellsOf u).length=size) (hi:i < xs.length):
 RE w A ρ size (xs.set i (cellsOf u)) (aX vs.toList (i * size) v.cells.toList).toArray:=by
 have hc:=hu.cells
 obtain⟨h1,h2,h3⟩:=h
 have e1:v.cells.toList.length=size:=by rw[←hl];simp[hc.1]
 have hmul:(i+1) * size≤xs.length * size:=Nat.mul_le_mul_right _ hi
 rw[Nat.add_mul]at hmul
 have rW:i * size+v.cells.toList.length≤vs.toList.length:=by rw[e1];simp only[Array.length_toList,h2];omega
 refine⟨fun e he=>?_,by simp only[List.size_toArray];rw[bU rW];simpa using h2,fun i' el j k hi' hj=>?_⟩
 · rcases List.mem_or_eq_of_mem_set he with q|q
   · exact h1 e q
   · rw[q,hl]
 · simp only[List.getElem?_toArray]
   rw[eY rW]
   by_cases II:i'=i
   · subst II
     rw[List.getElem?_set_self hi]at hi'
     simp only[Option.some.injEq]at hi'
     subst hi'
     have BQ:j < size:=by rw[←hl];exact(List.getElem?_eq_some_iff.1 hj).1
     rw[if_pos (by omega),show i' * size+j - i' * size=j by omega]
     have UU:j < v.cells.size:=by rw[←hc.1,hl];exact BQ
     have hx:v.cells[j]? =some v.cells[j]:=by simp[UU]
     obtain⟨r1,r2⟩:=hc.2 j k _ hj hx
     exact⟨_,by simp[UU],r1,r2⟩
   · rw[List.getElem?_set_ne (fun e=>II e.symm)]at hi'
     have hj2:j < size:=by rw[←h1 el (List.mem_of_getElem? hi')];exact(List.getElem?_eq_some_iff.1 hj).1
     have hout:¬ (i * size≤i' * size+j∧i' * size+j < i * size+v.cells.toList.length):=by
      rw[e1]
      intro hh
      rcases Nat.lt_or_gt_of_ne II with hlt|hgt
      · have:(i'+1) * size≤i * size:=Nat.mul_le_mul_right _ hlt
        rw[Nat.add_mul]at this
        omega
      · have:(i+1) * size≤i' * size:=Nat.mul_le_mul_right _ hgt
        rw[Nat.add_mul]at this
        omega
     rw[if_neg hout]
     obtain⟨z,hz,hr,h4⟩:=h3 i' el j k hi' hj
     exact⟨z,by simpa using hz,hr,h4⟩
theorem mV {size:Nat}: ∀ {ps:List (Nat×W)} {qs:List (Nat×Value)} {xs xs':List (List C)} {vs:Array Value},oc size xs ps=some xs'→
 RE w A ρ size xs vs→Il w A ρ ps qs→ ∃vs',Instr.fill (fun i=>some (i * size,size)) vs qs=some vs'∧RE w A ρ size xs' vs'
 | [],[],xs,xs',vs,h,hr,_=>by
   simp only[oc,Option.some.injEq]at h
   subst h
   exact⟨vs,rfl,hr⟩
 | [],_::_,_,_,_,_,_,hp=>by simp[Il]at hp
 |_::_,[],_,_,_,_,_,hp=>by simp[Il]at hp
 |(i,u)::r,(i',v)::r',xs,xs',vs,h,hr,hp=>by
  obtain⟨rfl,hu,aF⟩:=hp
  simp only[oc]at h
  split at h
  · rename_i hc
    have YA:=hu.cells
    have hmul:(i+1) * size≤xs.length * size:=Nat.mul_le_mul_right _ hc.2
    rw[Nat.add_mul]at hmul
    rw[xU (fun i=>some (i * size,size)) vs i v r' (off:=i * size) (size:=size) rfl (by rw[←YA.1,hc.1]) (by rw[hr.2.1];omega)]
    exact mV h (hr.set hu hc.1 hc.2) aF
  · simp at h
theorem mj {cs:List C} {z:Array Value} (hr:tq w A ρ cs z) (n:Nat):
 RE w A ρ cs.length (List.replicate n cs) ((Array.range (n * cs.length)).map fun k=>z[k % z.size]!):=by
 refine⟨fun e he=>by rw[List.eq_of_mem_replicate he],by simp,fun i el j k hi hj=>?_⟩
 have BR:i < n:=by have:=(List.getElem?_eq_some_iff.1 hi).1;simpa using this
 simp only[List.getElem?_replicate,BR,if_true,Option.some.injEq]at hi
 subst hi
 have BQ:j < cs.length:=(List.getElem?_eq_some_iff.1 hj).1
 have hmul:(i+1) * cs.length≤n * cs.length:=Nat.mul_le_mul_right _ BR
 rw[Nat.add_mul]at hmul
 have hlt:i * cs.length+j < n * cs.length:=by omega
 have hjz:j < z.size:=hr.1▸BQ
 have S6:(i * cs.length+j) % z.size=j:=by rw[←hr.1,Nat.add_comm,Nat.add_mul_mod_self_right,Nat.mod_eq_of_lt BQ]
 have hx:z[j]? =some z[j]:=by simp[hjz]
 obtain⟨r1,r2⟩:=hr.2 j k _ hj hx
 refine⟨z[j],?_,r1,r2⟩
 simp[hlt,S6,getElem!_pos z j hjz]
theorem uq:Array.range 0= #[]:=Array.eq_empty_of_size_eq_zero (by simp)
def dw (P:Program) (t:TypeId) (len:Nat) (ps:List (Nat×W)) (nid:Nat):Option (V×(Nat×bi)):=
 match P.underlying t with
 |some (.slice e)=>
  match iR P e with
  |some z=>
   if len * z.length≤16777216∧0 < z.length then
    (oc z.length (List.replicate len z) ps).map fun xs=>(.w (.one (.own nid z.length 0 len)),(nid, .row z.length xs))
   else none
  |none=>none
 |_=>none
theorem qV {size:Nat}: ∀ {ps:List (Nat×W)} {xs xs':List (List C)},oc size xs ps=some xs'→xs'.length=xs.length
 | [],xs,xs',h=>by simp only[oc,Option.some.injEq]at h;rw[h]
 |(i,u)::r,xs,xs',h=>by
  simp only[oc]at h
  split at h
  · have:=qV h;simpa using this
  · simp at h
theorem xn (h:Rel M A ρ F st a w) {nid:Nat} (hn:F nid) {size:Nat} {xs:List (List C)} {vs:Array Value} {len cap:Nat} (e:TypeId)
 (hsz: ∀el,el∈xs→el.length=size) (hl:xs.length=len) (hcap:len≤cap) (hv:vs.size=cap * size)
 (hc: ∀ (i:Nat) (el:List C) (j:Nat) (k:C),xs[i]? =some el→el[j]? =some k→ ∃x,vs[i * size+j]? =some x∧RC w A ρ k x∧cD x=true):
 ∃A' ρ',Rel M A' ρ' (Sub F nid) {st with heap:=(nid, .row size xs)::st.heap} a (w.alloc (.cells vs e))∧
  RV (w.alloc (.cells vs e)) A' ρ' (.w (.one (.own nid size 0 len))) (.slice (some ⟨w.heap.size,0,none⟩) len cap)∧cU ρ ρ'∧bE A A' w:=by
 have hle:xs.length * size≤vs.size:=by rw[hv,hl];exact Nat.mul_le_mul_right _ hcap
 obtain⟨h1,h2⟩:=h.alloc hn (sz:=size) (xs:=xs) (c:=vs) (e:=e) hsz hle hc
 refine⟨_,_,h1,⟨.inl ⟨w.heap.size,cap,cap * size,e,by simp[dg],by simp,hcap,?_,by simp⟩,rfl⟩,h2,bE.new A w⟩
 simp only[World.shape?]
 rw[heap_alloc_new w (.cells vs e)]
 simp[hv]
theorem mY {t:TypeId} {len nid:Nat} {ps:List (Nat×W)} {qs:Array (Nat×Value)} {v:V} {p:Nat×bi} (h:Rel M A ρ F st a w) (hn:F nid)
 (he:dw P t len ps nid=some (v,p)) (hp:Il w A ρ ps qs.toList):
 ∃y w' A' ρ',(Instr.buildSlice t len qs).run P w= .ok y w'∧Rel M A' ρ' (Sub F nid) {st with heap:=p::st.heap} a w'∧RV w' A' ρ' v y∧df M w w'∧cU ρ ρ'∧bE A A' w:=by
 unfold dw at he
 split at he
 · rename_i e hu
   split at he
   · rename_i z hz
     split at he
     · rename_i hc
       simp only[Option.map_eq_some_iff,Prod.mk.injEq]at he
       obtain⟨xs,hxs,rfl,rfl⟩:=he
       obtain⟨i,zv,hi,G4,hzs,JN,hr⟩:=ec hz w A ρ
       obtain⟨vs,hvs,hE⟩:=mV hxs (mj hr len) hp
       have hlen:=qV hxs
       simp only[List.length_replicate]at hlen
       obtain⟨A',ρ',h1,h2,h3,h4⟩:=xn h hn (cap:=len) e hE.1 hlen (Nat.le_refl _) (by rw[hE.2.1,hlen]) hE.2.2
       refine⟨_,_,A',ρ',?_,h1,h2,df.alloc M w _,h3,h4⟩
       have rV:¬ (len * i.size > 2 ^ 24):=by rw[JN];have:=hc.1;omega
       have hsize:(sizeOf e).run P w= .ok i.size w:=by simp[sizeOf,typeInfo,hi]
       rw[←JN]at hvs
       simp only[Instr.buildSlice,Sem.run_bind,run_underlying hu,Result.andThen_ok,hsize,rV,if_false]
       by_cases h0:len * i.size=0
       · rw[h0,uq,Array.map_empty]at hvs
         simp[h0,uq,hvs,newRow]
       · simp[h0,di hi G4,hvs,newRow]
     · simp at he
   · simp at he
 · simp at he
def fJ (P:Program) (t:TypeId) (l c:V) (nid:Nat):Option (V×(Nat×bi)):=
 match P.underlying t,l.fm,c.fm with
 |some (.slice e),some (_,l),some (_,c)=>
  match iR P e,mZ P e with
  |some z,some (_,bytes)=>
   if 0≤l∧l≤c∧c≤4611686018427387904∧c * bytes≤281474976710656 then
    some (.w (.one (.own nid z.length 0 l.toNat)),(nid, .row z.length (List.replicate l.toNat z)))
   else none
  |_,_=>none
 |_,_,_=>none
theorem wrap_i64 {n:Int} (h0:0≤n) (h1:n≤4611686018427387904):IntKind.i64.wrap n=n:=by
 simp[IntKind.wrap,IntKind.bits,IntKind.signed]
 omega
theorem nK {t:TypeId} {nid:Nat} {l c v:V} {x y:Value} {p:Nat×bi} (h:Rel M A ρ F st a w) (hn:F nid)
 (he:fJ P t l c nid=some (v,p)) (hl:RV w A ρ l x) (hc:RV w A ρ c y):
 ∃z w' A' ρ',(Instr.makeSlice t x y).run P w= .ok z w'∧Rel M A' ρ' (Sub F nid) {st with heap:=p::st.heap} a w'∧RV w' A' ρ' v z∧df M w w'∧cU ρ ρ'∧bE A A' w:=by
 unfold fJ at he
 split at he
 · rename_i e k1 ln k2 cn hu h1 h2
   split at he
   · rename_i z size bytes hz hT
     split at he
     · rename_i xO
       obtain⟨c1,c2,c3,c4⟩:=xO
       simp only[Option.some.injEq,Prod.mk.injEq]at he
       obtain⟨rfl,rfl⟩:=he
       have hx:=V.iu h1 hl
       have hy:=V.iu h2 hc
       subst hx
       subst hy
       obtain⟨i,zv,hi,G4,hzs,JN,hr⟩:=ec hz w A ρ
       obtain⟨i',ZX,hi',_,alD,hby,_,hpos⟩:=lJ hT
       rw[hi]at hi'
       simp only[Option.some.injEq]at hi'
       subst hi'
       have hE:=mj hr cn.toNat
       have hle:ln.toNat≤cn.toNat:=by omega
       obtain⟨A',ρ',r1,r2,r3,r4⟩:=xn h hn (size:=z.length) (xs:=List.replicate ln.toNat z) (len:=ln.toNat) (cap:=cn.toNat) e
        (fun el hel=>by rw[List.eq_of_mem_replicate hel]) (by simp) hle (by rw[hE.2.1];simp) (fun i el j k hi hj=>by
          refine hE.2.2 i el j k ?_ hj
          have BR:i < ln.toNat:=by have:=(List.getElem?_eq_some_iff.1 hi).1;simpa using this
          simp only[List.getElem?_replicate,BR,if_true]at hi
          simp only[List.getElem?_replicate,show i < cn.toNat by omega,if_true]
          exact hi)
       refine⟨_,_,A',ρ',?_,r1,r2,df.alloc M w _,r3,r4⟩
       have w1:=wrap_i64 c1 (by omega)
       have w2:=wrap_i64 (n:=cn) (by omega) c3
       have n1:¬cn < 0:=by omega
       have n2:¬ ((i.bytes:Int) * cn > 281474976710656):=by rw[hby,Int.mul_comm];omega
       have n3:¬ln < 0:=by omega
       have n4:¬ln > cn:=by omega
       have hsize:(sizeOf e).run P w= .ok i.size w:=by simp[sizeOf,typeInfo,hi]
       have hti:(typeInfo e).run P w= .ok i w:=by simp[typeInfo,hi]
       have hb:(decide (cn < 0)||decide ((i.bytes:Int) * cn > 2 ^ 48))=false:=by simp;omega
       simp only[Instr.makeSlice,Sem.run_bind,run_underlying hu,Result.andThen_ok,asInt,asIntOf,hti,w1,w2,Sem.run_pure]
       have hif:(decide (cn < 0)||decide ((i.bytes:Int) * cn > 2 ^ 48)||decide (ln < 0)||decide (ln > cn))=false:=by rw[hb];simp;omega
       simp only[hif,Bool.false_eq_true,if_false,run_askRoom,Result.andThen_ok,Sem.run_bind,hsize,Sem.run_pure]
       rw[←JN]at *
       by_cases h0:cn.toNat * i.size=0
       · simp[h0,uq,newRow]
       · simp[h0,di hi G4,newRow]
     · simp at he
   · simp at he
 · simp at he
end Go.aS
end
section
namespace Go.aS
open Go
variable {P:Program} {M A:Nat→Prop} {ρ:Env} {F:Nat→Prop} {st:St} {a:Act} {w:World}
def eB (P:Program) (t:TypeId) (d s:V) (heap:List (Nat×bi)):Option (V×List (Nat×bi)):=
 match d,s with
 | .w (.one (.own id sz i len)), .w (.one x)=>
   match P.underlying t with
   |some (.slice e)=>
    match cG P e,(if isNil x then some (sz,[])else elems heap x)with
    |some size,some (cV,ys)=>
     if(ys.take len).length=0 then some (.w (.one (.t (.val (goInt 0)))),heap)
     else match find heap id with
      |some (.row sz' xs)=>if sz=size∧sz'=size∧cV=size∧i+len≤xs.length then some (.w (.one (.t (.val (goInt ((ys.take len).length:Int))))),jJ heap id (.row size (aX xs i (ys.take len))))else none
      |_=>none
    |_,_=>none
   |_=>none
 |_,_=>none
theorem vz {t t' ty:TypeId} {d s v:V} {x y:Value} {heap':List (Nat×bi)} (h:Rel M A ρ F st a w) (he:eB P t d s st.heap=some (v,heap'))
 (hd:RV w A ρ d x) (hs:RV w A ρ s y): ∃r w',(Builtin.copy_ #[t,t'] ty #[x,y]).run P w= .ok r w'∧Rel M A ρ F {st with heap:=heap'} a w'∧df M w w'∧RV w' A ρ v r:=by
 unfold eB at he
 split at he
 · rename_i id sz i len xc
   split at he
   · rename_i e hu
     split at he
     · rename_i size cV ys hsz hys
       have Tc: ∃inf,P.info? e=some inf∧inf.size=size:=by
        simp only[cG,Option.map_eq_some_iff]at hsz
        exact hsz
       obtain⟨inf,Td,Lv⟩:=Tc
       have hsrc: ∃b cap,y= .slice b ys.length cap∧ys.length≤cap:=by
        split at hys
        · rename_i hn
          simp only[Option.some.injEq,Prod.mk.injEq]at hys
          obtain⟨_,rfl⟩:=hys
          exact⟨none,0,oM hn hs.1,Nat.le_refl _⟩
        · exact(ji h hys hs.1).2
       obtain⟨sb,aiG,rfl,_⟩:=hsrc
       have vc: ∃db TK,x= .slice db len TK:=by
        rcases hd.1 with⟨b,cap,q,e',k1,k2,_⟩|⟨_,_,rfl,k2⟩
        · exact⟨_,_,k2⟩
        · exact⟨_,_,k2⟩
       obtain⟨db,TK,rfl⟩:=vc
       have hmin:Nat.min ys.length len=(ys.take len).length:=by simp[Nat.min_comm]
       split at he
       · rename_i E1
         simp only[Option.some.injEq,Prod.mk.injEq]at he
         obtain⟨rfl,rfl⟩:=he
         refine⟨goInt 0,w,?_,h,df.refl _ _,RV.ofValue w A ρ (goInt 0)⟩
         have hl: ∀ (q:Addr),(loadCells q 0).run P w= .ok #[] w:=fun q=>by simpa using run_loadCells_list (P:=P) w q [] (by simp)
         rw[E1]at hmin
         cases db<;>cases sb<;>simp[Builtin.copy_,run_underlying hu,Builtin.lenOf,Builtin.firstCells,sizeOf,typeInfo,Td,Lv,hmin,storeCells,hl]
       · rename_i E1
         split at he
         · rename_i sz' xs hf
           split at he
           · rename_i hc
             obtain⟨rfl,rfl,rfl,hle⟩:=hc
             simp only[Option.some.injEq,Prod.mk.injEq]at he
             obtain⟨rfl,rfl⟩:=he
             rcases hd.1 with⟨b,cap,q,e',k1,k2,k3,k4,k5⟩|⟨_,_,rfl,_⟩
             · simp only[Value.slice.injEq]at k2
               obtain⟨rfl,_,rfl⟩:=k2
               obtain⟨G7,hb⟩:=h.heap id _ hf
               rcases hb with⟨b',c,ce,q1,q2,q3,q4,q5,q6⟩|⟨h2,_⟩
               · rw[k1]at q1
                 simp only[Option.some.injEq,Loc.fz.injEq]at q1
                 subst q1
                 have hnn:isNil xc=false:=by
                  cases zk:isNil xc with
                  |false=>rfl
                  |true=>
                   rw[zk]at hys
                   simp only[if_true,Option.some.injEq,Prod.mk.injEq]at hys
                   rw[←hys.2]at E1
                   simp at E1
                 rw[hnn]at hys
                 simp only[Bool.false_eq_true,if_false]at hys
                 have hne:ys≠ []:=by
                  intro h0
                  subst h0
                  simp at E1
                 obtain⟨JM,_⟩:=ji h hys hs.1
                 obtain⟨b2,o2,anT,e2,hcell⟩:=iH h hys hs.1 hne
                 simp only[Value.slice.injEq]at e2
                 obtain⟨rfl,_,rfl⟩:=e2
                 let zs:=ys.take len
                 have hzs: ∀el,el∈zs→el.length=cV:=fun el hel=>JM el (List.mem_of_mem_take hel)
                 obtain⟨vs,hvl,hvg,AU,hvr⟩:=mT (w:=w) (A:=A) (ρ:=ρ) (xs:=zs) (sz:=cV) (g:=fun n=>w.cell? ⟨b2,o2+n,none⟩) hzs (fun i' el j k hi hj=>by
                  have BR:i' < len:=by
                   have:=(List.getElem?_eq_some_iff.1 hi).1
                   simp only[zs,List.length_take]at this
                   omega
                  exact hcell i' el j k (by simpa[zs,List.getElem?_take,BR]using hi) hj)
                 have jS:zs.length≤len:=by simp only[zs,List.length_take];omega
                 have hfit:i * cV+vs.length≤c.size:=by
                  rw[hvl]
                  have h1:(i+zs.length) * cV≤xs.length * cV:=Nat.mul_le_mul_right _ (by omega)
                  rw[Nat.add_mul]at h1
                  omega
                 have S8:=run_loadCells_list (P:=P) w ⟨b2,o2,none⟩ vs (fun j u zh=>by
                  have YL:(⟨b2,o2,none⟩:Addr).add j=⟨b2,o2+j,none⟩:=by unfold Addr.add;split<;>simp_all
                  rw[YL]
                  exact hvg j u zh)
                 have hst:=run_storeCells_at P b (i * cV) ce vs 0 c w q4 (by simpa using hfit) AU
                 simp only[Nat.add_zero]at hst
                 have ew:c.toList.length=c.size:=by simp
                 obtain⟨r1,r2⟩:=h.write (c':=(aX c.toList (i * cV) vs).toArray) (xs':=aX xs i zs) hf k1 q4
                  (by simp only[List.size_toArray];rw[bU (by omega)];simp)
                  (fun el hel=>by
                    simp only[aX,List.mem_append]at hel
                    rcases hel with(hel|hel)|hel
                    · exact G7 el (List.mem_of_mem_take hel)
                    · exact hzs el hel
                    · exact G7 el (List.mem_of_mem_drop hel))
                  (by rw[bU (by omega)];simp only[List.size_toArray];rw[bU (by omega)];simpa using q5)
                  (fun i' el j k hi hj=>by
                    simp only[List.getElem?_toArray]
                    rw[eY (by omega)]
                    rw[eY (by omega)]at hi
                    split at hi
                    · rename_i hin
                      have hel:el.length=cV:=hzs el (List.mem_of_getElem? hi)
                      have hj2:j < cV:=by rw[←hel];exact(List.getElem?_eq_some_iff.1 hj).1
                      have h1:(i' - i) * cV+i * cV=i' * cV:=by rw[←Nat.add_mul];congr 1;omega
                      have h2:(i' - i+1) * cV≤zs.length * cV:=Nat.mul_le_mul_right _ (by omega)
                      rw[Nat.add_mul]at h2
                      rw[if_pos (by rw[hvl];omega),show i' * cV+j - i * cV=(i' - i) * cV+j by omega]
                      exact hvr (i' - i) el j k hi hj
                    · rename_i hin
                      have hel:el.length=cV:=G7 el (List.mem_of_getElem? hi)
                      have hj2:j < cV:=by rw[←hel];exact(List.getElem?_eq_some_iff.1 hj).1
                      have hout:¬ (i * cV≤i' * cV+j∧i' * cV+j < i * cV+vs.length):=by
                       intro hh
                       rw[hvl]at hh
                       rcases Nat.lt_or_ge i' i with hlt|hge
                       · have:(i'+1) * cV≤i * cV:=Nat.mul_le_mul_right _ hlt
                         rw[Nat.add_mul]at this
                         omega
                       · have:(i+zs.length) * cV≤i' * cV:=Nat.mul_le_mul_right _ (by omega)
                         rw[Nat.add_mul]at this
                         omega
                      rw[if_neg hout]
                      obtain⟨z,hz,hr,h1⟩:=q6 i' el j k hi hj
                      exact⟨z,by simpa using hz,hr,h1⟩)
                 refine⟨goInt ((ys.take len).length:Int),_,?_,r1,r2,RV.ofValue _ A ρ (goInt ((ys.take len).length:Int))⟩
                 have hnl:Nat.min ys.length len * cV=vs.length:=by rw[hmin,hvl]
                 simp only[Builtin.copy_,Sem.run_bind,List.getElem?_toArray,List.getElem?_cons_zero,List.getElem?_cons_succ,run_underlying hu,Result.andThen_ok,Builtin.lenOf,Builtin.firstCells,Sem.run_pure,sizeOf,typeInfo,run_program,Td,Lv]
                 have Ya:(ys.take len).length * cV=vs.length:=by rw[←hmin];exact hnl
                 simp only[hmin,Ya,S8,Result.andThen_ok,hst,aX]
               · simp[k1]at h2
             · simp at E1
           · simp at he
         · simp at he
     · simp at he
   · simp at he
 · simp at he
end Go.aS
end
section
namespace Go.aS
open Go
variable {P:Program} {M A:Nat→Prop} {ρ:Env} {F:Nat→Prop} {st:St} {a:Act} {w:World}
theorem aJ {P:Program} {α β:Type} (x:Sem α) (f:α→Sem β):aH P (x >>= f)=(aH P x).bind fun a=>aH P (f a):=by
 show aH P (x.bind f)=_
 induction x with
 |pure a=>simp[Sem.bind,aH]
 |program k ih=>simp only[Sem.bind,aH];exact ih _
 |mark m k ih=>simp only[Sem.bind,aH];exact ih
 |_=>simp[Sem.bind,aH]
theorem aD {P:Program} {α:Type} (a:α):aH P (pure a:Sem α)=some a:=rfl
theorem dh {P:Program} {α β:Type} (x:Sem α) (f:α→β):aH P (f <$> x)=(aH P x).map f:=by
 have:(f <$> x)=x >>= fun a=>pure (f a):=by simp[bind_pure_comp]
 rw[this,aJ]
 cases aH P x<;>rfl
theorem aN {P:Program} {t:TypeId} {d:TypeDesc} (h:P.underlying t=some d):aH P (underlying t)=some d:=by
 simp[underlying,aJ,program,aH,h,aD]
def cT (es:List (Value×C×Nat)):List MapEntry:=es.map fun p=>⟨p.1, .bool false,0⟩
def gX (P:Program) (empty:Bool) (kt:TypeId) (k:Value) (es:List (Value×C×Nat)):Option (Option Nat):=
 match aH P (Instr.checkKey empty 10000 kt k)with
 |some _=>match aH P (Instr.findKey kt k (cT es))with
  |some (some (i,_))=>some (some i)
  |some none=>some none
  |none=>none
 |none=>none
def rz (l2:List MapEntry) (i:Nat) (o1 o2:Option (Nat×Value)):Prop:=
 o1.map (·.1)=o2.map (·.1)∧ ∀j v,o2=some (j,v)→i≤j∧ ∃e,l2[j - i]? =some e∧e.val=v
theorem rz.step {l2:List MapEntry} {e:MapEntry} {i:Nat} {o1 o2:Option (Nat×Value)} (h:rz l2 (i+1) o1 o2):rz (e::l2) i o1 o2:=by
 refine⟨h.1,fun j v hj=>?_⟩
 obtain⟨h1,e',h2,h3⟩:=h.2 j v hj
 refine⟨by omega,e',?_,h3⟩
 rw[show j - i=(j - (i+1))+1 by omega]
 simpa using h2
theorem oa {d:TypeDesc} {k:Value}: ∀ {l1 l2:List MapEntry} {i:Nat},l1.map (·.key)=l2.map (·.key)→
 (Instr.findNow d k l1 i=none∧Instr.findNow d k l2 i=none)∨ ∃o1 o2,Instr.findNow d k l1 i=some o1∧Instr.findNow d k l2 i=some o2∧rz l2 i o1 o2
 | [],[],i,_=> .inr ⟨none,none,rfl,rfl,rfl,fun j v h=>by simp at h⟩
 |e1::l1,e2::l2,i,h=>by
  simp only[List.map_cons,List.cons.injEq]at h
  have ih:=oa (d:=d) (k:=k) (i:=i+1) h.2
  simp only[Instr.findNow,h.1]
  split
  · exact .inr ⟨_,_,rfl,rfl,rfl,fun j v hj=>by
     simp only[Option.some.injEq,Prod.mk.injEq]at hj
     obtain⟨rfl,rfl⟩:=hj
     exact⟨Nat.le_refl _,e2,by simp,rfl⟩⟩
  · rcases ih with ih|⟨o1,o2,h1,h2,h3⟩
    · exact .inl ih
    · exact .inr ⟨o1,o2,h1,h2,h3.step⟩
  · exact .inl ⟨rfl,rfl⟩
 | [],_::_,i,h=>by simp at h
 |_::_,[],i,h=>by simp at h
theorem kM {kt:TypeId} {k:Value}: ∀ {l1 l2:List MapEntry} {i:Nat} {o1:Option (Nat×Value)},l1.map (·.key)=l2.map (·.key)→
 aH P (Instr.findAsking kt k l1 i)=some o1→ ∃o2,aH P (Instr.findAsking kt k l2 i)=some o2∧rz l2 i o1 o2
 | [],[],i,o1,_,h=>by
   simp only[Instr.findAsking,aD,Option.some.injEq]at h
   subst h
   exact⟨none,rfl,rfl,fun j v h=>by simp at h⟩
 |e1::l1,e2::l2,i,o1,hk,h=>by
  simp only[List.map_cons,List.cons.injEq]at hk
  simp only[Instr.findAsking,aJ,hk.1,Option.bind_eq_some_iff]at h
  obtain⟨b,hb,h⟩:=h
  simp only[Instr.findAsking,aJ,hb,Option.bind_some]
  cases b with
  |true=>
   simp only[if_true,aD,Option.some.injEq]at h⊢
   subst h
   refine⟨_,rfl,rfl,fun j v hj=>?_⟩
   simp only[Option.some.injEq,Prod.mk.injEq]at hj
   obtain⟨rfl,rfl⟩:=hj
   exact⟨Nat.le_refl _,e2,by simp,rfl⟩
  |false=>
   simp only[Bool.false_eq_true,if_false]at h⊢
   obtain⟨o2,h1,h2⟩:=kM hk.2 h
   exact⟨o2,h1,h2.step⟩
 | [],_::_,i,o1,hk,h=>by simp at hk
 |_::_,[],i,o1,hk,h=>by simp at hk
theorem wO {kt:TypeId} {k:Value} {l1 l2:List MapEntry} {o1:Option (Nat×Value)} (hk:l1.map (·.key)=l2.map (·.key))
 (h:aH P (Instr.findKey kt k l1)=some o1): ∃o2,aH P (Instr.findKey kt k l2)=some o2∧rz l2 0 o1 o2:=by
 simp only[Instr.findKey,aJ,Option.bind_eq_some_iff]at h
 obtain⟨d,hd,h⟩:=h
 rcases oa (d:=d) (k:=k) (i:=0) hk with⟨h1,h2⟩|⟨p1,p2,h1,h2,h3⟩
 · rw[h1]at h
   obtain⟨o2,h4,h5⟩:=kM hk h
   exact⟨o2,by simp only[Instr.findKey,aJ,hd,Option.bind_some,h2,h4],h5⟩
 · rw[h1]at h
   simp only[aD,Option.some.injEq]at h
   subst h
   exact⟨p2,by simp only[Instr.findKey,aJ,hd,Option.bind_some,h2,aD],h3⟩
theorem dl {empty:Bool} {kt:TypeId} {k:Value} {es:List (Value×C×Nat)} {en:Array MapEntry} {r:Option Nat} (h:gX P empty kt k es=some r)
 (hk:(cT es).map (·.key)=en.toList.map (·.key)) (w:World):
 (Instr.checkKey empty 10000 kt k).run P w= .ok () w∧ ∃o2,(Instr.findKey kt k en.toList).run P w= .ok o2 w∧o2.map (·.1)=r∧ ∀j v,o2=some (j,v)→ ∃e,en[j]? =some e∧e.val=v:=by
 unfold gX at h
 split at h
 · rename_i u hu
   refine⟨mB hu w,?_⟩
   have fin: ∀ {o1:Option (Nat×Value)},aH P (Instr.findKey kt k (cT es))=some o1→o1.map (·.1)=r→ ∃o2,(Instr.findKey kt k en.toList).run P w= .ok o2 w∧o2.map (·.1)=r∧ ∀j v,o2=some (j,v)→ ∃e,en[j]? =some e∧e.val=v:=by
    intro o1 h1 h2
    obtain⟨o2,h3,h4⟩:=wO hk h1
    refine⟨o2,mB h3 w,by rw[←h4.1];exact h2,fun j v hj=>?_⟩
    obtain⟨_,e,h5,h6⟩:=h4.2 j v hj
    exact⟨e,by simpa using h5,h6⟩
   split at h
   · rename_i i v hf
     simp only[Option.some.injEq]at h
     subst h
     exact fin hf rfl
   · rename_i hf
     simp only[Option.some.injEq]at h
     subst h
     exact fin hf rfl
   · simp at h
 · simp at h
theorem fo {id clock:Nat} {es:List (Value×C×Nat)} {en:Array MapEntry} (hs:en.size=es.length)
 (h: ∀ (i:Nat) (k:Value) (c:C) (n:Nat),es[i]? =some (k,c,n)→ ∃e,en[i]? =some e∧e.key=k∧e.born=n∧RC w A ρ c e.val∧yj c e.val):
 (cT es).map (·.key)=en.toList.map (·.key):=by
 apply List.ext_getElem?
 intro i
 simp only[cT,List.map_map,List.getElem?_map,Array.getElem?_toList]
 cases he:es[i]? with
 |none=>
  have:en[i]? =none:=by
   rw[Array.getElem?_eq_none_iff]
   have:=List.getElem?_eq_none_iff.1 he
   omega
  rw[this];rfl
 |some p=>
  obtain⟨k,c,n⟩:=p
  obtain⟨e,h1,h2,_⟩:=h i k c n he
  rw[h1]
  simp[h2]
theorem nG {P:Program} {w:World} {r:Nat} {es:Array MapEntry} {clock:Nat} (hb:w.heap[r]? =some (.map es clock)):(getObj r).run P w= .ok (.map es clock) w:=by
 simp[getObj,Sem.run,hb]
theorem EE {P:Program} {w:World} {r:Nat} {es:Array MapEntry} {clock:Nat} (o:Obj) (hb:w.heap[r]? =some (.map es clock)):(setObj r o).run P w= .ok () {w with heap:=w.heap.setIfInBounds r o}:=by
 simp[setObj,Sem.run,hb]
def mm (P:Program) (t:TypeId):Option Value:=
 match P.info? t with
 |some i=>match i.zero with
  |some z=>if cD z=true then some z else none
  |none=>none
 |none=>none
theorem qn {P:Program} {t:TypeId} {z:Value} (h:mm P t=some z) (w:World):(zeroValue t).run P w= .ok z w∧cD z=true:=by
 unfold mm at h
 split at h
 · rename_i i hi
   split at h
   · rename_i z' hz
     split at h
     · rename_i hc
       simp only[Option.some.injEq]at h
       subst h
       exact⟨di hi hz w,hc⟩
     · simp at h
   · simp at h
 · simp at h
def bT (b:Bool):W:= .one (.t (.val (.bool b)))
theorem RW.bT (b:Bool):RW w A ρ (bT b) (.bool b):=⟨.val rfl,rfl⟩
theorem B3 {u0:W} {x:Value} {b:Bool} (hc:RW w A ρ u0 x):RV w A ρ (.dQ [u0,Go.aS.bT b]) (.tuple #[x, .bool b]):=by
 refine⟨_,rfl,rfl,fun k u y hu hy=>?_⟩
 match k with
 |0=>simp at hu hy;subst hu;subst hy;exact hc
 |1=>simp at hu hy;subst hu;subst hy;exact RW.bT b
 |k+2=>simp at hu
theorem gF {id clock:Nat} {es:List (Value×C×Nat)} {n:Nat} {L:List (Nat×V)} {hp:List (Nat×bi)} {x:Value} (hr:Rel M A ρ F ⟨n,L,hp⟩ a w) (hf:find hp id=some (.mp es clock)) (hx:RV w A ρ (.w (.one (.map id))) x):
 ∃b en,ρ id=some (.fz b)∧x= .map (some b)∧w.heap[b]? =some (.map en clock)∧en.size=es.length∧
  ∀ (i:Nat) (k:Value) (c:C) (n:Nat),es[i]? =some (k,c,n)→ ∃e,en[i]? =some e∧e.key=k∧e.born=n∧RC w A ρ c e.val∧yj c e.val:=by
 obtain⟨b,h1,h2⟩:=hx.1
 obtain⟨b',en,k1,k2,k3,k4,k5,k6⟩:=hr.heap id _ hf
 rw[h1]at k1
 simp only[Option.some.injEq,Loc.fz.injEq]at k1
 subst k1
 exact⟨b,en,h1,h2,k4,k5,k6⟩
theorem ej {en:Array MapEntry} {es:List (Value×C×Nat)} (h:en.size=es.length):en.isEmpty=es.isEmpty:=by
 rw[Bool.eq_iff_iff,Array.isEmpty_iff_size_eq_zero,List.isEmpty_iff_length_eq_zero,h]
def iv (P:Program) (t:TypeId) (m k:V) (ok:Bool) (heap:List (Nat×bi)):Option V:=
 match m,k.val? with
 | .w (.one (.map id)),some kv=>match P.underlying t,find heap id with
   |some (.map kt et),some (.mp es _)=>match gX P es.isEmpty kt kv es with
    |some (some i)=>match es[i]? with
     |some (_,c,_)=>some (match ok with|true=> .dQ [cw c,bT true]|false=> .w (cw c))
     |none=>none
    |some none=>match mm P et with
     |some z=>some (match ok with|true=> .dQ [.one (.t (.val z)),bT false]|false=> .w (.one (.t (.val z))))
     |none=>none
    |none=>none
   |_,_=>none
 |_,_=>none
theorem qX {t:TypeId} {m k:V} {ok:Bool} {hp hp2:List (Nat×bi)} (h: ∀id,m= .w (.one (.map id))→find hp2 id=find hp id):iv P t m k ok hp2=iv P t m k ok hp:=by
 unfold iv
 split
 · rename_i id kv hk
   rw[h id rfl]
 · rfl
theorem qW {t:TypeId} {m k:V} {ok:Bool} {v:V} {xm xk:Value} (h:Rel M A ρ F st a w) (he:iv P t m k ok st.heap=some v) (hm:RV w A ρ m xm) (hk:RV w A ρ k xk):
 ∃x,(Instr.lookup t xm xk ok).run P w= .ok x w∧RV w A ρ v x:=by
 unfold iv at he
 split at he
 · rename_i id kv hkv
   have vk:=V.bn hkv hk
   split at he
   · rename_i kt et es clock hu hf
     obtain⟨b,en,q1,q2,q3,q4,q5⟩:=gF (n:=st.n) (L:=st.tmps) (hp:=st.heap) h hf hm
     split at he
     · rename_i i oR
       split at he
       · rename_i kk c born zk
         simp only[Option.some.injEq]at he
         subst he
         obtain⟨c1,o2,c2,c3,c4⟩:=dl oR (fo (id:=id) (clock:=clock) q4 q5) w
         cases o2 with
         |none=>simp at c3
         |some p=>
          obtain⟨j,v⟩:=p
          simp only[Option.map_some,Option.some.injEq]at c3
          subst c3
          obtain⟨e0,e1,e2,e3,e4,e5⟩:=q5 j kk c born zk
          obtain⟨e',f1,f2⟩:=c4 j v rfl
          rw[e1]at f1
          simp only[Option.some.injEq]at f1
          subst f1
          subst f2
          refine⟨if ok then .tuple #[e0.val, .bool true]else e0.val,?_,?_⟩
          · simp only[Instr.lookup,Sem.run_bind,run_underlying hu,Result.andThen_ok,q2,nG q3,Sem.run_pure,vk,ej q4,c1,c2]
          · cases ok with
            |true=>exact B3 (e5.rw e4)
            |false=>exact e5.rw e4
       · simp at he
     · rename_i oR
       split at he
       · rename_i z hz
         simp only[Option.some.injEq]at he
         subst he
         obtain⟨c1,o2,c2,c3,c4⟩:=dl oR (fo (id:=id) (clock:=clock) q4 q5) w
         cases o2 with
         |some p=>simp at c3
         |none=>
          obtain⟨M9,sU⟩:=qn hz w
          refine⟨if ok then .tuple #[z, .bool false]else z,?_,?_⟩
          · simp only[Instr.lookup,Sem.run_bind,run_underlying hu,Result.andThen_ok,q2,nG q3,Sem.run_pure,vk,ej q4,c1,c2,M9]
          · cases ok with
            |true=>exact B3 (u0:= .one (.t (.val z))) ⟨RT.val sU,sU⟩
            |false=>exact⟨RT.val sU,sU⟩
       · simp at he
     · simp at he
   · simp at he
 · simp at he
def yb:List (List C)→Option (List Int)
 | []=>some []
 | [.t (.val (.int .u8 n))]::r=>(yb r).map (n:: ·)
 |_::_=>none
theorem ya: ∀ {ys:List (List C)} {ns:List Int},yb ys=some ns→ns.length=ys.length∧ ∀ (i:Nat) (n:Int),ns[i]? =some n→ys[i]? =some [.t (.val (.int .u8 n))]
 | [],ns,h=>by simp only[yb,Option.some.injEq]at h;subst h;simp
 |y::ys,ns,h=>by
  unfold yb at h
  split at h
  · rename_i h0;simp at h0
  · rename_i n r h0
    simp only[List.cons.injEq]at h0
    obtain⟨rfl,rfl⟩:=h0
    simp only[Option.map_eq_some_iff]at h
    obtain⟨ms,hm,rfl⟩:=h
    obtain⟨h1,h2⟩:=ya hm
    refine⟨by simp[h1],fun i m hi=>?_⟩
    cases i with
    |zero=>simpa using hi
    |succ i=>simpa using h2 i m (by simpa using hi)
  · simp at h
def gi (P:Program) (src dst:TypeId) (v:V) (heap:List (Nat×bi)):Option V:=
 match v with
 | .w (.one (.own id sz i len))=>match P.underlying src,P.underlying dst with
   |some (.slice e),some .string=>match P.underlying e,elems heap (.own id sz i len)with
    |some (.int .u8),some (1,y::ys)=>(yb (y::ys)).map fun ns=> .w (.one (.t (.val (.string (strOfNums ns)))))
    |_,_=>none
   |_,_=>none
 |_=>none
theorem s8 {src dst:TypeId} {v u:V} {x:Value} (h:Rel M A ρ F st a w) (he:gi P src dst v st.heap=some u) (hv:RV w A ρ v x):
 ∃y,(convert src dst x).run P w= .ok y w∧RV w A ρ u y:=by
 unfold gi at he
 split at he
 · rename_i id sz i len
   split at he
   · rename_i e hs hd
     split at he
     · rename_i y ys hu hel
       simp only[Option.map_eq_some_iff]at he
       obtain⟨ns,hn,rfl⟩:=he
       obtain⟨h1,h2⟩:=ya hn
       obtain⟨b,o,cap,rfl,hc⟩:=iH h hel hv.1 (by simp)
       refine⟨_,run_convert_bytes_arg w src e hs hu b o (y::ys).length cap ns h1 (fun k hk=>?_) dst hd,⟨.val rfl,rfl⟩⟩
       have hk':k < ns.length:=by omega
       have hg:=h2 k ns[k] (by simp[hk'])
       obtain⟨z,hz,hr,_⟩:=hc k _ 0 _ hg rfl
       cases hr
       simp only[Nat.mul_one,Nat.add_zero]at hz
       rw[hz]
       simp[List.getD,hk']
     · simp at he
   · simp at he
 · simp at he
end Go.aS
end
section
namespace Go.aS
open Go
variable {P:Program} {M A:Nat→Prop} {ρ:Env} {F:Nat→Prop} {st:St} {a:Act} {w:World}
def fQ (get:Operand→V):List (Nat×Operand)→Option (List (Nat×W))
 | []=>some []
 |(i,x)::r=>match get x,fQ get r with
  | .w u,some l=>some ((i,u)::l)
  |_,_=>none
def V.gk:V→Option Bool
 | .w (.one (.t (.val (.bool b))))=>some b
 |_=>none
def wv (get:Operand→V):List Operand→Option (List (Nat×Nat×Nat×Nat))
 | []=>some []
 |x::r=>match get x,wv get r with
  | .w (.one (.ptr id sz i j)),some l=>some ((id,sz,i,j)::l)
  |_,_=>none
def MX (v:V):Option V:=
 match v with
 | .w (.one c)=>(C.uO c).map fun(n:Nat)=>V.w (.one (.t (.val (goInt (n:Int)))))
 |_=>none
def ai (P:Program) (get:Operand→V) (heap:List (Nat×bi)) (nid:Nat) (o:Oper):Option (V×List (Nat×bi)):=
 let pure:=(bg P get o).map fun v=>(v,heap)
 match o.op with
 | .move x| .assign x=>some (get x,heap)
 | .pick c x y=>
   match(get c).gk with
   |some b=>some (if b then get x else get y,heap)
   |none=>none
 | .alloc e=>(kO P e nid).map fun p=>(p.1,p.2::heap)
 | .box _ x=>(pV (get x) nid).map fun p=>(p.1,p.2::heap)
 | .build t ps=>match fQ get ps.toList with
   |some l=>(kN P t l).map fun v=>(v,heap)
   |none=>none
 | .buildSlice t len ps=>match fQ get ps.toList with
   |some l=>(dw P t len l nid).map fun p=>(p.1,p.2::heap)
   |none=>none
 | .load t x=>(dY P t (get x) heap).map fun v=>(v,heap)
 | .store t x y=>(jh P t (get x) (get y) heap).map fun h=>(.undef,h)
 | .fieldAddr s x f=>(fK P s (get x) f).map fun v=>(v,heap)
 | .field t x f=>match nC P t (get x) f with
   |some v=>some (v,heap)
   |none=>pure
 | .indexAddr t x i=>(eI P t (get x) (get i)).map fun v=>(v,heap)
 | .slice t x lo hi none=>match nA P t (get x) (lo.map get) (hi.map get)with
   |some v=>some (v,heap)
   |none=>pure
 | .makeSlice t l c=>(fJ P t (get l) (get c) nid).map fun p=>(p.1,p.2::heap)
 | .extract x k=>match get x with
   | .dQ ws=>(ws[k]?).map fun u=>(.w u,heap)
   |_=>none
 | .nilCheck x=>match get x with
   | .w (.one (.ptr id sz i j))=>some (.w (.one (.ptr id sz i j)),heap)
   | .w (.one (.jY f cZ))=>some (.w (.one (.jY f cZ)),heap)
   |_=>pure
 | .makeFunc (.func f) first captured=>
   if first.isEmpty&& !captured.isEmpty then
    match wv get captured.toList with
    |some l=>some (.w (.one (.jY f l)),heap)
    |none=>none
   else pure
 | .call c=>
   match c.callee with
   | .builtin .len=>
     match c.args.toList,c.argTypes.toList with
     | [x],[t]=>
       match P.underlying t with
       |some (.slice _)=>(MX (get x)).map fun v=>(v,heap)
       |_=>pure
     |_,_=>none
   | .builtin .append=>
     match c.args.toList,c.argTypes.toList with
     | [s,x],[t,t']=>if t=t' then eo P t (get s) (get x) heap nid else none
     |_,_=>none
   | .builtin .copy=>
     match c.args.toList,c.argTypes.toList with
     | [d,s],[t,_]=>eB P t (get d) (get s) heap
     |_,_=>none
   | .builtin _=>pure
   |_=>none
 | .lookup t m k ok=>(iv P t (get m) (get k) ok heap).map fun v=>(v,heap)
 | .convert src dst x=>match gi P src dst (get x) heap with
   |some v=>some (v,heap)
   |none=>pure
 | .binOp .. | .unOp .. | .index .. | .makeInterface .. =>pure
 |_=>none
theorem iW (h:Rel M A ρ F st a w): ∀ {ps:List (Nat×Operand)} {l:List (Nat×W)},fQ st.get ps=some l→Il w A ρ l (ps.map fun p=>(p.1,a.eval p.2))
 | [],l,hp=>by simp only[fQ,Option.some.injEq]at hp;subst hp;trivial
 |(i,x)::r,l,hp=>by
  simp only[fQ]at hp
  split at hp
  · rename_i u l' hu hl
    simp only[Option.some.injEq]at hp
    subst hp
    have:=h.get x
    rw[hu]at this
    exact⟨rfl,this,iW h hl⟩
  · simp at hp
theorem V.lN {v:V} {b:Bool} {x:Value} (h:v.gk =some b) (hr:RV w A ρ v x):x= .bool b:=by
 unfold V.gk at h
 split at h
 · simp only[Option.some.injEq]at h
   subst h
   cases hr.1
   rfl
 · simp at h
theorem uu (h:Rel M A ρ F st a w): ∀ {xs:List Operand} {l:List (Nat×Nat×Nat×Nat)},wv st.get xs=some l→
 l.length=xs.length∧ ∀ (k id sz i j:Nat) (x:Value),l[k]? =some (id,sz,i,j)→(xs.map a.eval)[k]? =some x→RP ρ id sz i j x
 | [],l,hp=>by simp only[wv,Option.some.injEq]at hp;subst hp;simp
 |x::r,l,hp=>by
  simp only[wv]at hp
  split at hp
  · rename_i id sz i j l' hu hl
    simp only[Option.some.injEq]at hp
    subst hp
    obtain⟨h1,h2⟩:=uu h hl
    refine⟨by simp[h1],fun k id' sz' i' j' y hk hy=>?_⟩
    cases k with
    |zero=>
     simp only[List.getElem?_cons_zero,Option.some.injEq,Prod.mk.injEq]at hk
     obtain⟨rfl,rfl,rfl,rfl⟩:=hk
     simp only[List.map_cons,List.getElem?_cons_zero,Option.some.injEq]at hy
     subst hy
     have:=h.get x
     rw[hu]at this
     exact this.1
    |succ k=>exact h2 k id' sz' i' j' y (by simpa using hk) (by simpa using hy)
  · simp at hp
theorem nO.of {F':Nat→Prop} {s:Sem Value} {st':St} {v:V} {y:Value} {w':World} {A':Nat→Prop} {ρ':Env} {o:Oper}
 (hx:(execOp a.eval o).run P w=(s.run P w).andThen fun v w'=> .ok (.value v) w')
 (hrun:s.run P w= .ok y w') (hr:Rel M A' ρ' F' st' a w') (hv:RV w' A' ρ' v y) (he:df M w w') (cF:cU ρ ρ') (hA:bE A A' w):
 nO M A ρ F' a w ((execOp a.eval o).run P w) st' v:=
 ⟨y,w',A',ρ', .inl (by rw[hx,hrun];rfl),hr,hv,he,cF,hA⟩
set_option maxHeartbeats 1000000 in
theorem lH {nid:Nat} {o:Oper} {v:V} {heap':List (Nat×bi)} (he:ai P st.get st.heap nid o=some (v,heap')) (hr:Rel M A ρ F st a w) (hn:F nid):
 nO M A ρ (Sub F nid) a w ((execOp a.eval o).run P w) {st with heap:=heap'} v:=by
 have hF: ∀id,Sub F nid id→F id:=fun id h=>h.1
 have hst:({st with heap:=st.heap}:St)=st:=rfl
 have fa: ∀ {v:V} {heap':List (Nat×bi)},((bg P st.get o).map fun v=>(v,st.heap))=some (v,heap')→
  nO M A ρ (Sub F nid) a w ((execOp a.eval o).run P w) {st with heap:=heap'} v:=by
  intro v heap' h
  simp only[Option.map_eq_some_iff,Prod.mk.injEq]at h
  obtain⟨u,hu,rfl,rfl⟩:=h
  exact gJ hu hr hF
 obtain⟨dst,op,ty,pos,after,guard⟩:=o
 cases op with
 |move x=>
  simp only[ai,Option.some.injEq,Prod.mk.injEq]at he
  obtain⟨rfl,rfl⟩:=he
  exact nO.same hr hF (by simp[execOp]) (hr.get x)
 |assign x=>
  simp only[ai,Option.some.injEq,Prod.mk.injEq]at he
  obtain⟨rfl,rfl⟩:=he
  exact nO.same hr hF (by simp[execOp]) (hr.get x)
 |pick c x y=>
  simp only[ai]at he
  split at he
  · rename_i b hb
    simp only[Option.some.injEq,Prod.mk.injEq]at he
    obtain⟨rfl,rfl⟩:=he
    have hc:=V.lN hb (hr.get c)
    refine nO.same (x:=if b then a.eval x else a.eval y) hr hF (by simp[execOp,hc,asBool]) ?_
    cases b
    · exact hr.get y
    · exact hr.get x
  · simp at he
 |alloc e=>
  simp only[ai,Option.map_eq_some_iff,Prod.mk.injEq]at he
  obtain⟨⟨u,p⟩,hp,rfl,rfl⟩:=he
  obtain⟨y,w',A',ρ',h1,h2,h3,h4,h5,h6⟩:=tc (P:=P) hr hn hp
  exact nO.of (s:=Instr.alloc e true (.tuple #[])) (by simp[execOp]) h1 h2 h3 h4 h5 h6
 |box e x=>
  simp only[ai,Option.map_eq_some_iff,Prod.mk.injEq]at he
  obtain⟨⟨u,p⟩,hp,rfl,rfl⟩:=he
  obtain⟨y,w',A',ρ',h1,h2,h3,h4,h5,h6⟩:=wR (P:=P) (e:=e) hr hn hp (hr.get x)
  exact nO.of (s:=Instr.box e (a.eval x)) (by simp[execOp]) h1 h2 h3 h4 h5 h6
 |build t ps=>
  simp only[ai]at he
  split at he
  · rename_i l hl
    simp only[Option.map_eq_some_iff,Prod.mk.injEq]at he
    obtain⟨u,hu,rfl,rfl⟩:=he
    obtain⟨y,h1,h2⟩:=s9 (P:=P) (qs:=ps.map fun p=>(p.1,a.eval p.2)) hu (by simpa using iW hr hl)
    exact nO.same hr hF (by
     show(Bind.bind (Instr.build t (ps.map fun p=>(p.1,a.eval p.2))) fun v=>Pure.pure (Next.value v)).run P w=_
     rw[Sem.run_bind,h1]
     simp only[Result.andThen_ok,Sem.run_pure]) h2
  · simp at he
 |buildSlice t len ps=>
  simp only[ai]at he
  split at he
  · rename_i l hl
    simp only[Option.map_eq_some_iff,Prod.mk.injEq]at he
    obtain⟨⟨u,p⟩,hp,rfl,rfl⟩:=he
    obtain⟨y,w',A',ρ',h1,h2,h3,h4,h5,h6⟩:=mY (P:=P) (qs:=ps.map fun p=>(p.1,a.eval p.2)) hr hn hp (by simpa using iW hr hl)
    exact nO.of (s:=Instr.buildSlice t len (ps.map fun p=>(p.1,a.eval p.2))) (by
     show(Bind.bind (Instr.buildSlice t len (ps.map fun p=>(p.1,a.eval p.2))) fun v=>Pure.pure (Next.value v)).run P w=_
     rw[Sem.run_bind]
     simp only[Sem.run_pure]) h1 h2 h3 h4 h5 h6
  · simp at he
 |load t x=>
  simp only[ai,Option.map_eq_some_iff,Prod.mk.injEq]at he
  obtain⟨u,hu,rfl,rfl⟩:=he
  obtain⟨y,h1,h2⟩:=mX hr hu (hr.get x)
  exact nO.same hr hF (by simp[execOp,h1]) h2
 |store t x y=>
  simp only[ai,Option.map_eq_some_iff,Prod.mk.injEq]at he
  obtain⟨h',hh,rfl,rfl⟩:=he
  obtain⟨w',h1,h2,h3⟩:=sZ hr hh (hr.get x) (hr.get y)
  exact⟨undef,w',A,ρ, .inr ⟨by simp[execOp,h1],rfl⟩,h2.sub hF,trivial,h3,cU.refl _,bE.refl A w⟩
 |fieldAddr s x f=>
  simp only[ai,Option.map_eq_some_iff,Prod.mk.injEq]at he
  obtain⟨u,hu,rfl,rfl⟩:=he
  obtain⟨y,h1,h2⟩:=nN hu (hr.get x)
  exact nO.same hr hF (by simp[execOp,h1]) h2
 |field t x f=>
  simp only[ai]at he
  split at he
  · rename_i u hu
    simp only[Option.some.injEq,Prod.mk.injEq]at he
    obtain⟨rfl,rfl⟩:=he
    obtain⟨y,h1,h2⟩:=s7 hu (hr.get x)
    exact nO.same hr hF (by simp[execOp,h1]) h2
  · exact fa he
 |indexAddr t x i=>
  simp only[ai,Option.map_eq_some_iff,Prod.mk.injEq]at he
  obtain⟨u,hu,rfl,rfl⟩:=he
  obtain⟨y,h1,h2⟩:=nM hu (hr.get x) (hr.get i)
  exact nO.same hr hF (by simp[execOp,h1]) h2
 |slice t x lo hi mx=>
  cases mx with
  |some m=>simp[ai]at he
  |none=>
   simp only[ai]at he
   split at he
   · rename_i u hu
     simp only[Option.some.injEq,Prod.mk.injEq]at he
     obtain⟨rfl,rfl⟩:=he
     obtain⟨y,h1,h2⟩:=s0 (lo':=lo.map a.eval) (hi':=hi.map a.eval) hu (hr.get x)
      (fun u hu=>by cases lo with|none=>simp at hu|some z=>simp only[Option.map_some,Option.some.injEq]at hu;subst hu;exact⟨_,rfl,hr.get z⟩) (fun h=>by cases lo<;>simp_all)
      (fun u hu=>by cases hi with|none=>simp at hu|some z=>simp only[Option.map_some,Option.some.injEq]at hu;subst hu;exact⟨_,rfl,hr.get z⟩) (fun h=>by cases hi<;>simp_all)
     exact nO.same hr hF (by simp[execOp,h1]) h2
   · exact fa he
 |makeSlice t l c=>
  simp only[ai,Option.map_eq_some_iff,Prod.mk.injEq]at he
  obtain⟨⟨u,p⟩,hp,rfl,rfl⟩:=he
  obtain⟨y,w',A',ρ',h1,h2,h3,h4,h5,h6⟩:=nK (P:=P) hr hn hp (hr.get l) (hr.get c)
  exact nO.of (s:=Instr.makeSlice t (a.eval l) (a.eval c)) (by simp[execOp]) h1 h2 h3 h4 h5 h6
 |extract x k=>
  simp only[ai]at he
  split at he
  · rename_i ws EW
    simp only[Option.map_eq_some_iff,Prod.mk.injEq]at he
    obtain⟨u,hu,rfl,rfl⟩:=he
    have hx:=hr.get x
    rw[EW]at hx
    obtain⟨vs,h1,h2,h3⟩:=hx
    have hk:k < vs.size:=by rw[←h2];exact(List.getElem?_eq_some_iff.1 hu).1
    have hv:vs[k]? =some vs[k]:=by simp[hk]
    exact nO.same hr hF (x:=vs[k]) (by simp[execOp,Instr.extract,h1,hk]) (h3 k u _ hu hv)
  · simp at he
 |nilCheck x=>
  simp only[ai]at he
  split at he
  · rename_i id sz i j hx
    simp only[Option.some.injEq,Prod.mk.injEq]at he
    obtain⟨rfl,rfl⟩:=he
    have h:=hr.get x
    rw[hx]at h
    have h':=h
    obtain⟨b,k1,k2⟩:=h.1
    exact nO.same hr hF (x:=a.eval x) (by simp only[execOp,k2,Sem.run_pure]) h'
  · rename_i f cZ hx
    simp only[Option.some.injEq,Prod.mk.injEq]at he
    obtain⟨rfl,rfl⟩:=he
    have h:=hr.get x
    rw[hx]at h
    have h':=h
    obtain⟨vs,k1,k2⟩:=h.1
    exact nO.same hr hF (x:=a.eval x) (by simp only[execOp,k1,Sem.run_pure]) h'
  · exact fa he
 |makeFunc fn first captured=>
  cases fn with
  |func f=>
   simp only[ai]at he
   split at he
   · rename_i hc
     split at he
     · rename_i l hl
       simp only[Option.some.injEq,Prod.mk.injEq]at he
       obtain⟨rfl,rfl⟩:=he
       simp only[Bool.and_eq_true,Array.isEmpty_iff]at hc
       obtain⟨rfl,_⟩:=hc
       obtain⟨k1,k2⟩:=uu hr hl
       refine nO.same hr hF (x:= .func (.func f) #[] (captured.map a.eval)) (by simp[execOp,Instr.makeFunc]) ⟨⟨_,rfl,by simp[k1],fun k id sz i j x hk hx=>k2 k id sz i j x hk ?_⟩,rfl⟩
       simpa using hx
     · simp at he
   · exact fa he
  |_=>simp[ai]at he
 |call c=>
  obtain⟨callee,args,argTypes⟩:=c
  simp only[ai]at he
  split at he
  · split at he
    · rename_i x t hargs iF
      have ea:args= #[x]:=by rw[←Array.toArray_toList (xs:=args),hargs]
      have et:argTypes= #[t]:=by rw[←Array.toArray_toList (xs:=argTypes),iF]
      subst ea
      subst et
      split at he
      · rename_i e hu
        simp only[Option.map_eq_some_iff,Prod.mk.injEq]at he
        obtain⟨u,zh,rfl,rfl⟩:=he
        unfold MX at zh
        split at zh
        · rename_i c hc
          simp only[Option.map_eq_some_iff]at zh
          obtain⟨n,hn',rfl⟩:=zh
          have h:=hr.get x
          rw[hc]at h
          obtain⟨b,cap,hs,_⟩:=C.qK hn' h.1
          exact nO.same hr hF (x:=goInt n) (by simp[execOp,resolve,invoke,builtin,Builtin.len_,run_underlying hu,hs]) ⟨.val rfl,rfl⟩
        · simp at zh
      · exact fa he
    · simp at he
  · split at he
    · rename_i s x t t' hargs iF
      have ea:args= #[s,x]:=by rw[←Array.toArray_toList (xs:=args),hargs]
      have et:argTypes= #[t,t']:=by rw[←Array.toArray_toList (xs:=argTypes),iF]
      subst ea
      subst et
      split at he
      · rename_i e
        subst e
        obtain⟨y,w',A',ρ',h1,h2,h3,h4,h5,h6⟩:=qY (P:=P) (ty:=ty) hr hn he (hr.get s) (hr.get x)
        exact nO.of (s:=Builtin.append_ #[t,t] ty #[a.eval s,a.eval x]) (by simp[execOp,resolve,invoke,builtin]) h1 h2 h3 h4 h5 h6
      · simp at he
    · simp at he
  · split at he
    · rename_i d s t t' hargs iF
      have ea:args= #[d,s]:=by rw[←Array.toArray_toList (xs:=args),hargs]
      have et:argTypes= #[t,t']:=by rw[←Array.toArray_toList (xs:=argTypes),iF]
      subst ea
      subst et
      obtain⟨r,w',h1,h2,h3,h4⟩:=vz (P:=P) (t':=t') (ty:=ty) hr he (hr.get d) (hr.get s)
      exact nO.of (s:=Builtin.copy_ #[t,t'] ty #[a.eval d,a.eval s]) (by simp[execOp,resolve,invoke,builtin]) h1 (h2.sub hF) h4 h3 (cU.refl _) (bE.refl _ _)
    · simp at he
  · exact fa he
  · simp at he
 |lookup t m k ok=>
  simp only[ai,Option.map_eq_some_iff,Prod.mk.injEq]at he
  obtain⟨u,hu,rfl,rfl⟩:=he
  obtain⟨x,h1,h2⟩:=qW hr hu (hr.get m) (hr.get k)
  exact nO.of (s:=Instr.lookup t (a.eval m) (a.eval k) ok) (by simp[execOp]) h1 (hr.sub hF) h2 (df.refl _ _) (cU.refl _) (bE.refl _ _)
 |binOp=>exact fa (by simpa[ai]using he)
 |unOp=>exact fa (by simpa[ai]using he)
 |convert src dst' x=>
  simp only[ai]at he
  split at he
  · rename_i u hu
    simp only[Option.some.injEq,Prod.mk.injEq]at he
    obtain⟨rfl,rfl⟩:=he
    obtain⟨y,h1,h2⟩:=s8 hr hu (hr.get x)
    exact nO.of (s:=convert src dst' (a.eval x)) (by simp[execOp]) h1 (hr.sub hF) h2 (df.refl _ _) (cU.refl _) (bE.refl _ _)
  · exact fa he
 |index=>exact fa (by simpa[ai]using he)
 |makeInterface=>exact fa (by simpa[ai]using he)
 |_=>simp[ai]at he
end Go.aS
end
section
namespace Go.aS
open Go
abbrev bt (n:Nat):Nat→Prop:=fun id=>n≤id
abbrev HR (M A:Nat→Prop) (ρ:Env) (F:Nat→Prop) (heap:List (Nat×bi)) (w:World):Prop:=Rel M A ρ F ⟨0,[],heap⟩ ⟨#[],[]⟩ w
def wY (w:World) (A:Nat→Prop) (ρ:Env) (us:List W) (xs:List Value):Prop:=
 us.length=xs.length∧ ∀ (k:Nat) (u:W) (x:Value),us[k]? =some u→xs[k]? =some x→RW w A ρ u x
def o7 (ρ:Env) (heap:List (Nat×bi)) (b:Nat):Prop:= ∃id blk,find heap id=some blk∧ρ id=some (.fz b)
def Fn (P:Program) (f:FuncId) (args:List W) (hin:List (Nat×bi)) (res:V) (hout:List (Nat×bi)):Prop:=
 ∀ (w:World) (A:Nat→Prop) (ρ:Env) (xs:Array Value),
  HR (fun b=>o7 ρ hin b∨w.heap.size≤b) A ρ (bt 4) hin w→wY w A ρ args xs.toList→
  Calls P f xs w fun e w'=> ∃x A' ρ' F',e= .returned x∧RV w' A' ρ' res x∧HR (fun b=>o7 ρ hin b∨w.heap.size≤b) A' ρ' F' hout w'∧
   df (fun b=>o7 ρ hin b∨w.heap.size≤b) w w'∧iJ ρ ρ'∧bE A A' w
def C.up (n:Nat):C→C
 | .own id sz i len=>if id < 4 then .own (id+n) sz i len else .any
 | .ptr id sz i j=>if id < 4 then .ptr (id+n) sz i j else .any
 | .jY f cZ=>if cZ.all (fun p=>p.1 < 4)then .jY f (cZ.map fun p=>(p.1+n,p.2))else .any
 | .map id=>if id < 4 then .map (id+n)else .any
 | .it _=> .any
 |c=>c
def W.up (n:Nat):W→W
 | .one c=> .one (c.up n)
 | .agg cs=> .agg (cs.map (C.up n))
def V.up (n:Nat):V→V
 | .w u=> .w (u.up n)
 | .dQ ws=> .dQ (ws.map (W.up n))
 | .undef=> .undef
def bi.up (n:Nat):bi→bi
 | .row sz xs=> .row sz (xs.map fun e=>e.map (C.up n))
 | .mp es clock=> .mp (es.map fun p=>(p.1,p.2.1.up n,p.2.2)) clock
def fq (n:Nat):List (Nat×bi)→List (Nat×bi)
 | []=>[]
 |(id,b)::r=>if id < 4 then(id+n,b.up n)::fq n r else fq n r
variable {P:Program} {M A:Nat→Prop} {ρ:Env} {F:Nat→Prop} {st:St} {a:Act} {w:World}
theorem RC.up {ρ2:Env} {n:Nat} {c:C} {x:Value} (h:RC w A ρ c x) (hρ: ∀id l,id < 4→ρ id=some l→ρ2 (id+n)=some l):RC w A ρ2 (c.up n) x:=by
 cases c with
 |t y=>exact h
 |own id sz i len=>
  simp only[C.up]
  split
  · rename_i bJ
    rcases h with⟨b,cap,q,e,h1,h2⟩|⟨h1,h2⟩
    · exact .inl ⟨b,cap,q,e,hρ _ _ bJ h1,h2⟩
    · exact .inr ⟨hρ _ _ bJ h1,h2⟩
  · trivial
 |ptr id sz i j=>
  simp only[C.up]
  split
  · rename_i bJ
    obtain⟨b,h1,h2⟩:=h
    exact⟨b,hρ _ _ bJ h1,h2⟩
  · trivial
 |rG e j=>exact h
 |jY f cZ=>
  simp only[C.up]
  split
  · rename_i hall
    obtain⟨vs,h1,h2,h3⟩:=h
    refine⟨vs,h1,by simpa using h2,fun k id sz i j y hk hy=>?_⟩
    simp only[List.getElem?_map,Option.map_eq_some_iff,Prod.mk.injEq]at hk
    obtain⟨⟨id',r⟩,hk',bJ,hr⟩:=hk
    simp only at bJ hr
    subst hr
    have hlt:id' < 4:=by
     have:=List.all_eq_true.1 hall _ (List.mem_of_getElem? hk')
     simpa using this
    obtain⟨b,k1,k2⟩:=h3 k id' sz i j y hk' hy
    exact⟨b,bJ▸hρ _ _ hlt k1,k2⟩
  · trivial
 |map id=>
  simp only[C.up]
  split
  · rename_i bJ
    obtain⟨b,h1,h2⟩:=h
    exact⟨b,hρ _ _ bJ h1,h2⟩
  · trivial
 |it=>trivial
 |kP f g ts=>exact h
 |pk ts=>exact h
 |any=>trivial
theorem C.M5 (n:Nat) (c:C):(c.up n).IC=c.IC:=by
 cases c<;>simp only[C.up]<;>(try split)<;>rfl
theorem yj.up {n:Nat} {c:C} {v:Value} (h:yj c v):yj (c.up n) v:=by
 unfold yj
 rw[C.M5]
 exact h
theorem tq.up {ρ2:Env} {n:Nat} {cs:List C} {vs:Array Value} (h:tq w A ρ cs vs) (hρ: ∀id l,id < 4→ρ id=some l→ρ2 (id+n)=some l):tq w A ρ2 (cs.map (C.up n)) vs:=by
 refine⟨by simpa using h.1,fun k c x hk hx=>?_⟩
 simp only[List.getElem?_map,Option.map_eq_some_iff]at hk
 obtain⟨d,hd,rfl⟩:=hk
 obtain⟨h1,h2⟩:=h.2 k d x hd hx
 exact⟨h1.up hρ,h2⟩
theorem RW.up {ρ2:Env} {n:Nat} {u:W} {x:Value} (h:RW w A ρ u x) (hρ: ∀id l,id < 4→ρ id=some l→ρ2 (id+n)=some l):RW w A ρ2 (u.up n) x:=by
 cases u with
 |one c=>exact⟨h.1.up hρ,h.2⟩
 |agg cs=>obtain⟨vs,h1,h2⟩:=h;exact⟨vs,h1,h2.up hρ⟩
theorem RV.up {ρ2:Env} {n:Nat} {u:V} {x:Value} (h:RV w A ρ u x) (hρ: ∀id l,id < 4→ρ id=some l→ρ2 (id+n)=some l):RV w A ρ2 (u.up n) x:=by
 cases u with
 |w y=>exact RW.up h hρ
 |dQ ws=>
  obtain⟨vs,h1,h2,h3⟩:=h
  refine⟨vs,h1,by simpa using h2,fun k u x hk hx=>?_⟩
  simp only[List.getElem?_map,Option.map_eq_some_iff]at hk
  obtain⟨d,hd,rfl⟩:=hk
  exact(h3 k d x hd hx).up hρ
 |undef=>trivial
theorem sc (n:Nat) (h:List (Nat×bi)) (k:Nat) (b:bi) (hf:find (fq n h) k=some b): ∃id b',id < 4∧k=id+n∧find h id=some b'∧b=b'.up n:=by
 induction h with
 |nil=>simp[fq,find]at hf
 |cons p r ih=>
  obtain⟨id,b'⟩:=p
  simp only[fq]at hf
  split at hf
  · rename_i bJ
    simp only[aq]at hf
    split at hf
    · rename_i e
      simp only[Option.some.injEq]at hf
      exact⟨id,b',bJ,e.symm,by simp[aq],hf.symm⟩
    · rename_i e
      obtain⟨mM,b2,h1,h2,h3,h4⟩:=ih hf
      refine⟨mM,b2,h1,h2,?_,h4⟩
      have:¬id=mM:=by omega
      simp[aq,this,h3]
  · rename_i bJ
    obtain⟨mM,b2,h1,h2,h3,h4⟩:=ih hf
    refine⟨mM,b2,h1,h2,?_,h4⟩
    have:¬id=mM:=by omega
    simp[aq,this,h3]
theorem cM {α:Type} (l r:List (Nat×α)) (k:Nat):find (l++r) k=(find l k).or (find r k):=by
 induction l with
 |nil=>simp[find]
 |cons p q ih=>
  obtain⟨i,v⟩:=p
  simp only[List.cons_append,aq,ih]
  split<;>simp
def C.flat:C→Bool
 | .t (.val _)| .own .. | .ptr .. | .jY .. | .map _| .any=>true
 |_=>false
def W.flat:W→Bool
 | .one c=>c.flat
 | .agg cs=>cs.all C.flat
def V.flat:V→Bool
 | .w u=>u.flat
 | .dQ ws=>ws.all W.flat
 | .undef=>true
def bi.flat:bi→Bool
 | .row _ xs=>xs.all fun e=>e.all C.flat
 | .mp es _=>es.all fun p=>p.2.1.flat
theorem RC.flat {A':Nat→Prop} {c:C} {x:Value} (h:RC w A ρ c x) (hf:c.flat=true):RC w A' ρ c x:=by
 cases c with
 |t y=>cases y with
  |val v=>cases h with|val h=>exact .val h
  |av=>simp[C.flat]at hf
 |rG=>simp[C.flat]at hf
 |own=>exact h
 |ptr=>exact h
 |jY=>exact h
 |map=>exact h
 |kP=>simp[C.flat]at hf
 |pk=>simp[C.flat]at hf
 |it=>simp[C.flat]at hf
 |any=>trivial
theorem RW.flat {A':Nat→Prop} {u:W} {x:Value} (h:RW w A ρ u x) (hf:u.flat=true):RW w A' ρ u x:=by
 cases u with
 |one c=>exact⟨h.1.flat hf,h.2⟩
 |agg cs=>
  obtain⟨vs,h1,h2⟩:=h
  refine⟨vs,h1,h2.1,fun k c x hk hx=>⟨(h2.2 k c x hk hx).1.flat ?_,(h2.2 k c x hk hx).2⟩⟩
  exact List.all_eq_true.1 hf c (List.mem_of_getElem? hk)
theorem RV.flat {A':Nat→Prop} {u:V} {x:Value} (h:RV w A ρ u x) (hf:u.flat=true):RV w A' ρ u x:=by
 cases u with
 |w y=>exact RW.flat h hf
 |dQ ws=>
  obtain⟨vs,h1,h2,h3⟩:=h
  exact⟨vs,h1,h2,fun k u x hk hx=>(h3 k u x hk hx).flat (List.all_eq_true.1 hf u (List.mem_of_getElem? hk))⟩
 |undef=>trivial
theorem RC.grow {A':Nat→Prop} {c:C} {x:Value} (h:RC w A ρ c x) (hA: ∀b,A' b→A b):RC w A' ρ c x:=
 h.keeps ⟨Nat.le_refl _,fun b _ hn=>⟨rfl,fun h=>hn (hA b h)⟩⟩ (fun _ _=>rfl) (cU.refl _)
theorem RW.grow {A':Nat→Prop} {c:W} {x:Value} (h:RW w A ρ c x) (hA: ∀b,A' b→A b):RW w A' ρ c x:=
 h.keeps ⟨Nat.le_refl _,fun b _ hn=>⟨rfl,fun h=>hn (hA b h)⟩⟩ (fun _ _=>rfl) (cU.refl _)
theorem RV.grow {A':Nat→Prop} {c:V} {x:Value} (h:RV w A ρ c x) (hA: ∀b,A' b→A b):RV w A' ρ c x:=
 h.keeps ⟨Nat.le_refl _,fun b _ hn=>⟨rfl,fun h=>hn (hA b h)⟩⟩ (fun _ _=>rfl) (cU.refl _)
theorem Rel.import (h:Rel M A ρ F st a w) {nid:Nat} (hn: ∀k,nid≤k→k < nid+4→F k) {A1:Nat→Prop} {ρ1:Env} {F1:Nat→Prop} {hout:List (Nat×bi)} {w':World} {res:V} {x:Value}
 (dJ:df (fun b=>w.heap.size≤b) w w') (hr:HR (fun b=>w.heap.size≤b) A1 ρ1 F1 hout w') (hg: ∀b,b < w.heap.size→A1 b→A b) (hv:RV w' A1 ρ1 res x)
 (hfl:(∀b,A b→A1 b)∨(res.flat=true∧ ∀id blk,find hout id=some blk→blk.flat=true)):
 ∃A2 ρ2,Rel M A2 ρ2 (Sub F nid) {st with heap:=fq nid hout++st.heap} a w'∧RV w' A2 ρ2 (res.up nid) x∧df M w w'∧cU ρ ρ2∧bE A A2 w:=by
 let ρ2:Env:=fun k=>if nid≤k∧k < nid+4 then ρ1 (k - nid)else ρ k
 have Na: ∀id l,id < 4→ρ1 id=some l→ρ2 (id+nid)=some l:=by
  intro id l bJ hl
  simp only[ρ2]
  rw[if_pos ⟨by omega,by omega⟩,show id+nid - nid=id by omega]
  exact hl
 have cF:cU ρ ρ2:=by
  intro id l hl
  simp only[ρ2]
  split
  · rename_i hc
    have:=h.fresh id (hn id hc.1 hc.2)
    simp[this]at hl
  · exact hl
 have A4:df M w w':=dJ.weaken (fun i hi ho=>by omega)
 let A2:Nat→Prop:=fun b=>A b∨A1 b
 have hgrow:bE A A2 w:=⟨fun b hb=> .inl hb,fun b hb h'=>h'.elim id (hg b hb)⟩
 have hk:dZ A A2 w w':=⟨dJ.size,fun b hb Hj=>⟨dJ.block b hb (by omega),fun h'=>h'.elim Hj (fun h1=>Hj (hg b hb h1))⟩⟩
 have hs: ∀k,k < w.heap.size→w'.shape? k=w.shape? k:=dJ.shape
 have hC: ∀ {c:C} {y:Value},RC w' A1 ρ1 c y→((∀b,A b→A1 b)∨c.flat=true)→RC w' A2 ρ1 c y:=by
  intro c y hc hh
  rcases hh with hh|hh
  · exact hc.grow (fun b hb=>hb.elim (hh b) id)
  · exact hc.flat hh
 have hV:RV w' A2 ρ1 res x:=by
  rcases hfl with hh|hh
  · exact hv.grow (fun b hb=>hb.elim (hh b) id)
  · exact hv.flat hh.1
 refine⟨A2,ρ2,⟨h.size,h.defers,fun t v hv=>(h.tmps t v hv).keeps hk hs cF,?_,?_,?_,?_,?_,h.dX.Fk A4 hgrow.2⟩,hV.up Na,A4,cF,hgrow⟩
 · intro k blk hf
   simp only[cM,Option.or_eq_some_iff]at hf
   rcases hf with hf|⟨_,hf⟩
   · obtain⟨id,b',bJ,rfl,hb',rfl⟩:=sc _ _ _ _ hf
     have hb:=hr.heap id b' hb'
     cases b' with
     |row sz xs=>
      obtain⟨q1,q2⟩:=hb
      refine⟨fun e he=>?_,?_⟩
      · simp only[List.mem_map]at he
        obtain⟨e',he',rfl⟩:=he
        simpa using q1 e' he'
      · rcases q2 with⟨b,c,e,k1,k2,k3,k4,k5,k6⟩|⟨k1,k2⟩
        · refine .inl ⟨b,c,e,Na _ _ bJ k1,h.may b k2, .inr k3,k4,by simpa using k5,fun i el j q hi hj=>?_⟩
          simp only[List.getElem?_map,Option.map_eq_some_iff]at hi
          obtain⟨BX,A5,rfl⟩:=hi
          simp only[List.getElem?_map,Option.map_eq_some_iff]at hj
          obtain⟨q',DJ,rfl⟩:=hj
          obtain⟨y,hy,dr,h1⟩:=k6 i BX j q' A5 DJ
          refine⟨y,hy,(hC dr ?_).up Na,h1⟩
          rcases hfl with hh|hh
          · exact .inl hh
          · have:=hh.2 id _ hb'
            simp only[bi.flat,List.all_eq_true]at this
            exact .inr (this BX (List.mem_of_getElem? A5) q' (List.mem_of_getElem? DJ))
        · exact .inr ⟨Na _ _ bJ k1,by rw[k2];rfl⟩
     |mp es clock=>
      obtain⟨b,en,k1,k2,k3,k4,k5,k6⟩:=hb
      refine⟨b,en,Na _ _ bJ k1,h.may b k2, .inr k3,k4,by simpa using k5,fun i k c n hi=>?_⟩
      simp only[List.getElem?_map,Option.map_eq_some_iff]at hi
      obtain⟨⟨k',c',n'⟩,hi',he⟩:=hi
      simp only[Prod.mk.injEq]at he
      obtain⟨rfl,rfl,rfl⟩:=he
      obtain⟨e,h1,h2,h3,h4,h5⟩:=k6 i k' c' n' hi'
      refine⟨e,h1,h2,h3,(hC h4 ?_).up Na,h5.up⟩
      rcases hfl with hh|hh
      · exact .inl hh
      · have:=hh.2 id _ hb'
        simp only[bi.flat,List.all_eq_true]at this
        exact .inr (this _ (List.mem_of_getElem? hi'))
   · have hb:=h.heap k blk hf
     exact hb.keeps hk hs cF (fun b hb=> .inl hb) (fun b BU=>dJ.block b (hb.lt BU).1 (by have:=(hb.lt BU).1;omega))
 · intro k k' blk fp b h1 h2 r1 r2
   simp only[cM,Option.or_eq_some_iff]at h1 h2
   have old: ∀ {q:Nat} {bl:bi},find st.heap q=some bl→ ∀ {b:Nat},ρ2 q=some (.fz b)→ρ q=some (.fz b)∧b < w.heap.size:=by
    intro q bl hq b hb
    have Nr:=h.heap q bl hq
    have DJ: ∃l,ρ q=some l:=by
     cases bl with
     |row sz xs=>rcases Nr.2 with⟨b,c,e,k1,_⟩|⟨k1,_⟩<;>exact⟨_,k1⟩
     |mp es clock=>obtain⟨b,en,k1,_⟩:=Nr;exact⟨_,k1⟩
    obtain⟨l,hl⟩:=DJ
    have e1:=cF q l hl
    rw[e1]at hb
    rw[hl,hb]
    refine⟨rfl,(Nr.lt (by rw[hl,hb])).1⟩
   have new: ∀ {q:Nat} {bl:bi},find (fq nid hout) q=some bl→ ∀ {b:Nat},ρ2 q=some (.fz b)→ ∃id b',q=id+nid∧find hout id=some b'∧ρ1 id=some (.fz b)∧w.heap.size≤b:=by
    intro q bl hq b hb
    obtain⟨id,b',bJ,rfl,hb',rfl⟩:=sc _ _ _ _ hq
    have Nr:=hr.heap id b' hb'
    have hl: ∃l,ρ1 id=some l:=by
     cases b' with
     |row sz xs=>rcases Nr.2 with⟨b,c,e,k1,_⟩|⟨k1,_⟩<;>exact⟨_,k1⟩
     |mp es clock=>obtain⟨b,en,k1,_⟩:=Nr;exact⟨_,k1⟩
    obtain⟨l,hl⟩:=hl
    have e1:=Na id l bJ hl
    rw[e1]at hb
    have:ρ1 id=some (.fz b):=by rw[hl,hb]
    exact⟨id,b',rfl,hb',this,(Nr.lt this).2.1⟩
   rcases h1 with h1|⟨_,h1⟩<;>rcases h2 with h2|⟨_,h2⟩
   · obtain⟨i1,b1,rfl,f1,g1,_⟩:=new h1 r1
     obtain⟨i2,b2,rfl,f2,g2,_⟩:=new h2 r2
     rw[hr.inj i1 i2 b1 b2 b f1 f2 g1 g2]
   · obtain⟨_,_,_,_,_,g1⟩:=new h1 r1
     have:=(old h2 r2).2
     omega
   · obtain⟨_,_,_,_,_,g1⟩:=new h2 r2
     have:=(old h1 r1).2
     omega
   · exact h.inj k k' blk fp b h1 h2 (old h1 r1).1 (old h2 r2).1
 · intro k hk'
   simp only[ρ2]
   rw[if_neg hk'.2]
   exact h.fresh k hk'.1
 · intro b hb
   rcases hb with hb|hb
   · exact Nat.lt_of_lt_of_le (h.bound b hb) dJ.size
   · exact hr.bound b hb
 · intro b hb
   exact h.may b (Nat.le_trans dJ.size hb)
def C.t?:C→Option T
 | .t x=>some x
 |_=>none
def F0:List C→Option (List T)
 | []=>some []
 |c::r=>match c.t?,F0 r with
  |some x,some l=>some (x::l)
  |_,_=>none
def Af:List (List C)→Option (Lz)
 | []=>some []
 |c::r=>match F0 c,Af r with
  |some x,some l=>some (x::l)
  |_,_=>none
theorem Ag: ∀ {cs:List C} {ts:List T},F0 cs=some ts→cs=ts.map .t
 | [],ts,h=>by simp only[F0,Option.some.injEq]at h;subst h;rfl
 |c::r,ts,h=>by
  simp only[F0]at h
  split at h
  · rename_i x l hx hl
    simp only[Option.some.injEq]at h
    subst h
    have:=Ag hl
    cases c<;>simp[C.t?]at hx
    subst hx
    simp[this]
  · simp at h
theorem xe: ∀ {cs:List (List C)} {ts:Lz},Af cs=some ts→cs=ts.map fun e=>e.map .t
 | [],ts,h=>by simp only[Af,Option.some.injEq]at h;subst h;rfl
 |c::r,ts,h=>by
  simp only[Af]at h
  split at h
  · rename_i x l hx hl
    simp only[Option.some.injEq]at h
    subst h
    simp[xe hl,Ag hx]
  · simp at h
def rO (heap:List (Nat×bi)) (c:C):Option C:=
 match c with
 | .t x=>some (.t x)
 | .own id sz i len=>
   match elems heap (.own id sz i len)with
   |some (sz,xs)=>(Af xs).map fun ts=> .t (.av sz ts)
   |none=>none
 |_=>none
theorem rM (h:Rel M A ρ F st a w) {c d:C} {x:Value} (hl:rO st.heap c=some d) (hr:RC w A ρ c x) (ρ':Env):RC w (fun _=>False) ρ' d x:=by
 unfold rO at hl
 split at hl
 · simp only[Option.some.injEq]at hl
   subst hl
   exact RT.keeps (w:=w) ⟨Nat.le_refl _,fun b _ _=>⟨rfl,fun h=>h⟩⟩ hr
 · rename_i id sz i len
   split at hl
   · rename_i sz' xs he
     simp only[Option.map_eq_some_iff]at hl
     obtain⟨ts,hts,rfl⟩:=hl
     have hm:=xe hts
     obtain⟨hsz,b0,Y6,hx0,Hs⟩:=ji h he hr
     by_cases hne:xs=[]
     · have:ts=[]:=by rw[hne]at hm;cases ts<;>simp at hm;rfl
       subst this
       subst hne
       rw[hx0]
       exact .nil
     · obtain⟨b,o,cap,rfl,hc⟩:=iH h he hr hne
       simp only[Value.slice.injEq]at hx0
       obtain⟨_,_,rfl⟩:=hx0
       have hlen:xs.length=ts.length:=by rw[hm];simp
       have hcell: ∀ (i:Nat) (e:List T) (j:Nat) (t:T),ts[i]? =some e→e[j]? =some t→ ∃y,w.cell? ⟨b,o+(i * sz'+j),none⟩=some y∧RC w A ρ (.t t) y∧cD y=true:=by
        intro i e j t hi hj
        exact hc i (e.map .t) j (.t t) (by rw[hm];simp[hi]) (by simp[hj])
       have hb:b < w.heap.size:=by
        rcases hr with⟨b',cap',q,e',k1,k2,k3,k4,k5⟩|⟨_,_,h2,h3⟩
        · simp only[Value.slice.injEq,Option.some.injEq,Addr.mk.injEq]at k2
          obtain⟨⟨rfl,_⟩,_⟩:=k2
          rcases Nat.lt_or_ge b w.heap.size with hlt|hge
          · exact hlt
          · simp[World.shape?,Array.getElem?_eq_none hge]at k4
        · simp at h3
       have hE:RT w (fun _=>False) (.av sz' ts) (.slice (some ⟨b,o,none⟩) xs.length cap):=by
        refine .av (fun i j=>(w.cell? ⟨b,o+(i * sz'+j),none⟩).getD undef) hlen Hs hb (fun h=>h) (fun e he'=>?_) (fun i e j t hi hj=>?_) (fun i e j t hi hj=>?_)
        · have:=hsz (e.map .t) (by rw[hm];exact List.mem_map.2 ⟨e,he',rfl⟩)
          simpa using this
        · obtain⟨y,hy,_⟩:=hcell i e j t hi hj
          rw[Nat.add_assoc,hy];rfl
        · obtain⟨y,hy,dr,_⟩:=hcell i e j t hi hj
          rw[hy]
          exact RT.keeps (w:=w) ⟨Nat.le_refl _,fun b _ _=>⟨rfl,fun h=>h⟩⟩ dr
       exact hE
   · simp at hl
 · simp at hl
def mJ (heap:List (Nat×bi)):List C→Option (List C)
 | []=>some []
 |c::r=>match rO heap c,mJ heap r with
  |some d,some l=>some (d::l)
  |_,_=>none
def pL (heap:List (Nat×bi)):W→Option W
 | .one c=>(rO heap c).map .one
 | .agg cs=>(mJ heap cs).map .agg
def iL (heap:List (Nat×bi)):List W→Option (List W)
 | []=>some []
 |c::r=>match pL heap c,iL heap r with
  |some d,some l=>some (d::l)
  |_,_=>none
theorem uN {heap:List (Nat×bi)}: ∀ {cs ds:List C},mJ heap cs=some ds→ds.length=cs.length∧ ∀ (k:Nat) (d:C),ds[k]? =some d→ ∃c,cs[k]? =some c∧rO heap c=some d
 | [],ds,h=>by simp only[mJ,Option.some.injEq]at h;subst h;simp
 |c::r,ds,h=>by
  simp only[mJ]at h
  split at h
  · rename_i d l hd hl
    simp only[Option.some.injEq]at h
    subst h
    obtain⟨h1,h2⟩:=uN hl
    refine⟨by simp[h1],fun k e hk=>?_⟩
    cases k with
    |zero=>simp only[List.getElem?_cons_zero,Option.some.injEq]at hk;subst hk;exact⟨c,rfl,hd⟩
    |succ k=>simpa using h2 k e (by simpa using hk)
  · simp at h
theorem uM {heap:List (Nat×bi)}: ∀ {cs ds:List W},iL heap cs=some ds→ds.length=cs.length∧ ∀ (k:Nat) (d:W),ds[k]? =some d→ ∃c,cs[k]? =some c∧pL heap c=some d
 | [],ds,h=>by simp only[iL,Option.some.injEq]at h;subst h;simp
 |c::r,ds,h=>by
  simp only[iL]at h
  split at h
  · rename_i d l hd hl
    simp only[Option.some.injEq]at h
    subst h
    obtain⟨h1,h2⟩:=uM hl
    refine⟨by simp[h1],fun k e hk=>?_⟩
    cases k with
    |zero=>simp only[List.getElem?_cons_zero,Option.some.injEq]at hk;subst hk;exact⟨c,rfl,hd⟩
    |succ k=>simpa using h2 k e (by simpa using hk)
  · simp at h
theorem AG (h:Rel M A ρ F st a w) {u d:W} {x:Value} (hl:pL st.heap u=some d) (hr:RW w A ρ u x) (ρ':Env):RW w (fun _=>False) ρ' d x:=by
 cases u with
 |one c=>
  simp only[pL,Option.map_eq_some_iff]at hl
  obtain⟨e,he,rfl⟩:=hl
  exact⟨rM h he hr.1 ρ',hr.2⟩
 |agg cs=>
  simp only[pL,Option.map_eq_some_iff]at hl
  obtain⟨e,he,rfl⟩:=hl
  obtain⟨vs,rfl,h2⟩:=hr
  obtain⟨k1,k2⟩:=uN he
  refine⟨vs,rfl,k1.trans h2.1,fun k c x hk hx=>?_⟩
  obtain⟨c',Cy,hl'⟩:=k2 k c hk
  obtain⟨r1,r2⟩:=h2.2 k c' x Cy hx
  exact⟨rM h hl' r1 ρ',r2⟩
def C.bY:C→Bool
 | .t _=>true
 |_=>false
def W.bY:W→Bool
 | .one c=>c.bY
 | .agg cs=>cs.all C.bY
theorem RC.bY {ρ':Env} {c:C} {x:Value} (h:RC w A ρ c x) (hc:c.bY=true):RC w A ρ' c x:=by
 cases c<;>simp[C.bY]at hc
 exact h
theorem RW.bY {ρ':Env} {c:W} {x:Value} (h:RW w A ρ c x) (hc:c.bY=true):RW w A ρ' c x:=by
 cases c with
 |one c=>exact⟨h.1.bY hc,h.2⟩
 |agg cs=>
  obtain⟨vs,h1,h2⟩:=h
  refine⟨vs,h1,h2.1,fun k c x hk hx=>⟨(h2.2 k c x hk hx).1.bY ?_,(h2.2 k c x hk hx).2⟩⟩
  exact List.all_eq_true.1 hc c (List.mem_of_getElem? hk)
def Ab (P:Program) (f:FuncId) (args:List W) (res:V) (hout:List (Nat×bi)):Prop:=
 ∀ (w:World) (A:Nat→Prop) (xs:Array Value),
  HR (fun b=>o7 (fun _=>none) [] b∨w.heap.size≤b) A (fun _=>none) (bt 4) [] w→wY w A (fun _=>none) args xs.toList→
  Calls P f xs w fun e w'=> ∃x A' ρ' F',e= .returned x∧RV w' A' ρ' res x∧HR (fun b=>o7 (fun _=>none) [] b∨w.heap.size≤b) A' ρ' F' hout w'∧
   df (fun b=>o7 (fun _=>none) [] b∨w.heap.size≤b) w w'∧bE A A' w
theorem Fn.toF {f:FuncId} {args:List W} {res:V} {hout:List (Nat×bi)} (h:Fn P f args [] res hout):Ab P f args res hout:=by
 intro w A xs hH hx
 refine(h w A (fun _=>none) xs hH hx).mono ?_
 rintro e w' ⟨x,A',ρ',F',h1,h2,h3,h4,_,h5⟩
 exact⟨x,A',ρ',F',h1,h2,h3,h4,h5⟩
def C.ids:C→List Nat
 | .own id .. =>[id]
 | .ptr id .. =>[id]
 | .jY _ cZ=>cZ.map (·.1)
 | .map id=>[id]
 | .it id=>[id]
 |_=>[]
def W.ids:W→List Nat
 | .one c=>c.ids
 | .agg cs=>cs.flatMap C.ids
def Ix (P:Program) (heap:List (Nat×bi)) (f:FuncId) (args:List W) (v:V):Prop:=
 ∀jU:List (Nat×bi),(∀id,id∈args.flatMap W.ids→find jU id=find heap id)→
  ∀ (M A:Nat→Prop) (ρ:Env) (F:Nat→Prop) (a:Act) (w:World) (n:Nat) (L:List (Nat×V)) (xs:Array Value),Rel M A ρ F ⟨n,L,jU⟩ a w→wY w A ρ args xs.toList→
   Calls P f xs w fun e w'=> ∃x A' ρ',e= .returned x∧Rel M A' ρ' F ⟨n,L,jU⟩ a w'∧RV w' A' ρ' v x∧df M w w'∧cU ρ ρ'∧bE A A' w
def eu (P:Program) (heap:List (Nat×bi)) (nid:Nat) (f:FuncId) (args:List W) (v:V) (heap':List (Nat×bi)):Prop:=
 (∃res hout targs,Ab P f targs res hout∧v=res.up nid∧heap'=fq nid hout++heap∧
   ((targs=args∧args.all W.bY=true)∨(iL heap args=some targs∧res.flat=true∧ ∀id blk,find hout id=some blk→blk.flat=true)))∨
 (heap'=heap∧Ix P heap f args v)
theorem eu.sound (h:Rel M A ρ F st a w) {nid:Nat} (hn: ∀k,nid≤k→k < nid+4→F k) {f:FuncId} {args:List W} {v:V} {heap':List (Nat×bi)} {xs:Array Value}
 (hc:eu P st.heap nid f args v heap') (hx:wY w A ρ args xs.toList):
 Calls P f xs w fun e w'=> ∃x A' ρ',e= .returned x∧Rel M A' ρ' (Sub F nid) {st with heap:=heap'} a w'∧RV w' A' ρ' v x∧df M w w'∧cU ρ ρ'∧bE A A' w:=by
 rcases hc with⟨res,hout,targs,hfn,rfl,rfl,S5⟩|⟨rfl,hrd⟩
 case inr=>
  obtain⟨n0,sI,o6⟩:=st
  refine(hrd o6 (fun _ _=>rfl) M A ρ F a w n0 sI xs h hx).mono ?_
  rintro e w' ⟨x,A',ρ',rfl,r1,r2,r3,r4,r5⟩
  exact⟨x,A',ρ',rfl,r1.sub fun id h=>h.1,r2,r3,r4,r5⟩
 have hM: ∀ (ρ0:Env),(fun b=>o7 ρ0 [] b∨w.heap.size≤b)=fun b=>w.heap.size≤b:=by
  intro ρ0
  funext b
  simp[o7,find]
 have empty: ∀ (A0:Nat→Prop),(∀b,A0 b→b < w.heap.size)→(∀b,A0 b→A b)→HR (fun b=>o7 (fun _=>none) [] b∨w.heap.size≤b) A0 (fun _=>none) (bt 4) [] w:=by
  intro A0 hA0 hA1
  exact⟨rfl,rfl,fun t v hv=>by simp[find]at hv,fun id b hb=>by simp[find]at hb,fun id id' b b' c hb=>by simp[find]at hb,fun _ _=>rfl,hA0,fun b hb=> .inr hb,h.dX.sub (fun b hb hm=>hm.elim (fun ho=>by obtain⟨_,_,hf,_⟩:=ho;simp[find]at hf) (fun hl=>by omega)) hA1⟩
 rcases S5 with⟨rfl,hT⟩|⟨hl,Yu,A3⟩
 · have hx':wY w A (fun _=>none) targs xs.toList:=⟨hx.1,fun k u x hu zg=>(hx.2 k u x hu zg).bY (List.all_eq_true.1 hT u (List.mem_of_getElem? hu))⟩
   refine(hfn w A xs (empty A h.bound (fun _ h=>h)) hx').mono ?_
   rintro e w' ⟨x,A1,ρ1,F1,rfl,hv,hr,dJ,hg⟩
   rw[hM]at hr dJ
   obtain⟨A2,ρ2,r1,r2,r3,r4,r5⟩:=h.import hn dJ hr hg.2 hv (.inl hg.1)
   exact⟨x,A2,ρ2,rfl,r1,r2,r3,r4,r5⟩
 · obtain⟨k1,k2⟩:=uM hl
   have hx':wY w (fun _=>False) (fun _=>none) targs xs.toList:=⟨k1.trans hx.1,fun k u x hu zg=>by
    obtain⟨c,hc,hlc⟩:=k2 k u hu
    exact AG h hlc (hx.2 k c x hc zg) _⟩
   refine(hfn w (fun _=>False) xs (empty _ (fun _ h=>h.elim) (fun _ h=>h.elim)) hx').mono ?_
   rintro e w' ⟨x,A1,ρ1,F1,rfl,hv,hr,dJ,hg⟩
   rw[hM]at hr dJ
   obtain⟨A2,ρ2,r1,r2,r3,r4,r5⟩:=h.import hn dJ hr (fun b hb hA=>(hg.2 b hb hA).elim) hv (.inr ⟨Yu,A3⟩)
   exact⟨x,A2,ρ2,rfl,r1,r2,r3,r4,r5⟩
end Go.aS
end
section
namespace Go.aS
open Go
def C.ak (f:Nat→Option Nat):C→C
 | .own id sz i len=>match f id with
   |some k=> .own k sz i len
   |none=> .any
 | .ptr id sz i j=>match f id with
   |some k=> .ptr k sz i j
   |none=> .any
 | .jY g cZ=>if cZ.all (fun p=>(f p.1).isSome)then .jY g (cZ.map fun p=>((f p.1).getD 0,p.2))else .any
 | .map id=>match f id with
   |some k=> .map k
   |none=> .any
 | .it _=> .any
 |c=>c
def W.ak (f:Nat→Option Nat):W→W
 | .one c=> .one (c.ak f)
 | .agg cs=> .agg (cs.map (C.ak f))
def V.ak (f:Nat→Option Nat):V→V
 | .w u=> .w (u.ak f)
 | .dQ ws=> .dQ (ws.map (W.ak f))
 | .undef=> .undef
def bi.ak (f:Nat→Option Nat):bi→bi
 | .row sz xs=> .row sz (xs.map fun e=>e.map (C.ak f))
 | .mp es clock=> .mp (es.map fun p=>(p.1,p.2.1.ak f,p.2.2)) clock
structure Ren where
 keys:List Nat
 ids:List (Nat×Nat)
 ctr:Nat
def Ren.all (S:Ren):List (Nat×Nat):=(0,0)::(1,1)::(2,2)::(3,3)::S.ids
def swp (l:List (Nat×Nat)):List (Nat×Nat):=l.map fun p=>(p.2,p.1)
def Ren.f (S:Ren) (id:Nat):Option Nat:=find S.all id
def Ren.ok (S:Ren):Bool:=S.all.all fun p=>find (swp S.all) p.2==some p.1&&find S.all p.1==some p.2&&decide (p.2 < S.ctr)
def Ren.tm (S:Ren) (tm:List (Nat×V)):List (Nat×V):=S.keys.filterMap fun t=>(find tm t).map fun v=>(t,v.ak S.f)
def Ren.hp (S:Ren) (hp:List (Nat×bi)):List (Nat×bi):=S.all.filterMap fun p=>(find hp p.1).map fun b=>(p.2,b.ak S.f)
variable {P:Program} {M A:Nat→Prop} {ρ:Env} {F:Nat→Prop} {st:St} {a:Act} {w:World}
theorem RC.ak {ρ2:Env} {f:Nat→Option Nat} {c:C} {x:Value} (h:RC w A ρ c x) (hρ: ∀id k l,f id=some k→ρ id=some l→ρ2 k=some l):RC w A ρ2 (c.ak f) x:=by
 cases c with
 |t y=>exact h
 |own id sz i len=>
  simp only[C.ak]
  split
  · rename_i k hk
    rcases h with⟨b,cap,q,e,h1,h2⟩|⟨h1,h2⟩
    · exact .inl ⟨b,cap,q,e,hρ _ _ _ hk h1,h2⟩
    · exact .inr ⟨hρ _ _ _ hk h1,h2⟩
  · trivial
 |ptr id sz i j=>
  simp only[C.ak]
  split
  · rename_i k hk
    obtain⟨b,h1,h2⟩:=h
    exact⟨b,hρ _ _ _ hk h1,h2⟩
  · trivial
 |rG e j=>exact h
 |jY g cZ=>
  simp only[C.ak]
  split
  · rename_i hall
    obtain⟨vs,h1,h2,h3⟩:=h
    refine⟨vs,h1,by simpa using h2,fun k id sz i j y hk hy=>?_⟩
    simp only[List.getElem?_map,Option.map_eq_some_iff,Prod.mk.injEq]at hk
    obtain⟨⟨id',r⟩,hk',bJ,hr⟩:=hk
    simp only at bJ hr
    subst hr
    have hs:(f id').isSome=true:=by
     have:=List.all_eq_true.1 hall _ (List.mem_of_getElem? hk')
     simpa using this
    obtain⟨q,hq⟩:=Option.isSome_iff_exists.1 hs
    rw[hq]at bJ
    simp only[Option.getD_some]at bJ
    subst bJ
    obtain⟨b,k1,k2⟩:=h3 k id' sz i j y hk' hy
    exact⟨b,hρ _ _ _ hq k1,k2⟩
  · trivial
 |map id=>
  simp only[C.ak]
  split
  · rename_i k hk
    obtain⟨b,h1,h2⟩:=h
    exact⟨b,hρ _ _ _ hk h1,h2⟩
  · trivial
 |it=>trivial
 |kP f g ts=>exact h
 |pk ts=>exact h
 |any=>trivial
theorem C.JI (f:Nat→Option Nat) (c:C):(c.ak f).IC=c.IC:=by
 cases c<;>simp only[C.ak]<;>(try split)<;>rfl
theorem yj.ak {f:Nat→Option Nat} {c:C} {v:Value} (h:yj c v):yj (c.ak f) v:=by
 unfold yj
 rw[C.JI]
 exact h
theorem tq.ak {ρ2:Env} {f:Nat→Option Nat} {cs:List C} {vs:Array Value} (h:tq w A ρ cs vs) (hρ: ∀id k l,f id=some k→ρ id=some l→ρ2 k=some l):tq w A ρ2 (cs.map (C.ak f)) vs:=by
 refine⟨by simpa using h.1,fun k c x hk hx=>?_⟩
 simp only[List.getElem?_map,Option.map_eq_some_iff]at hk
 obtain⟨d,hd,rfl⟩:=hk
 obtain⟨h1,h2⟩:=h.2 k d x hd hx
 exact⟨h1.ak hρ,h2⟩
theorem RW.ak {ρ2:Env} {f:Nat→Option Nat} {u:W} {x:Value} (h:RW w A ρ u x) (hρ: ∀id k l,f id=some k→ρ id=some l→ρ2 k=some l):RW w A ρ2 (u.ak f) x:=by
 cases u with
 |one c=>exact⟨h.1.ak hρ,h.2⟩
 |agg cs=>obtain⟨vs,h1,h2⟩:=h;exact⟨vs,h1,h2.ak hρ⟩
theorem RV.ak {ρ2:Env} {f:Nat→Option Nat} {u:V} {x:Value} (h:RV w A ρ u x) (hρ: ∀id k l,f id=some k→ρ id=some l→ρ2 k=some l):RV w A ρ2 (u.ak f) x:=by
 cases u with
 |w y=>exact RW.ak h hρ
 |dQ ws=>
  obtain⟨vs,h1,h2,h3⟩:=h
  refine⟨vs,h1,by simpa using h2,fun k u x hk hx=>?_⟩
  simp only[List.getElem?_map,Option.map_eq_some_iff]at hk
  obtain⟨d,hd,rfl⟩:=hk
  exact(h3 k d x hd hx).ak hρ
 |undef=>trivial
theorem fb {α:Type}: ∀ {l:List (Nat×α)} {k:Nat} {v:α},find l k=some v→(k,v)∈l
 | [],k,v,h=>by simp[find]at h
 |(q,u)::r,k,v,h=>by
  simp only[aq]at h
  split at h
  · rename_i e
    simp only[Option.some.injEq]at h
    subst e
    subst h
    exact List.mem_cons_self
  · exact List.mem_cons_of_mem _ (fb h)
theorem Ren.pH {S:Ren} (h:S.ok=true) {o n:Nat} (hm:(o,n)∈S.all):find (swp S.all) n=some o∧find S.all o=some n∧n < S.ctr:=by
 have:=List.all_eq_true.1 h _ hm
 simp only[Bool.and_eq_true,beq_iff_eq,decide_eq_true_eq]at this
 exact⟨this.1.1,this.1.2,this.2⟩
theorem Rel.ak (h:Rel M A ρ F st a w) {S:Ren} (hok:S.ok=true): ∃ρ2,Rel M A ρ2 (bt S.ctr) ⟨st.n,S.tm st.tmps,S.hp st.heap⟩ a w∧iJ ρ ρ2:=by
 let ρ2:Env:=fun k=>(find (swp S.all) k).bind ρ
 have hρ: ∀id k l,S.f id=some k→ρ id=some l→ρ2 k=some l:=by
  intro id k l hf hl
  have:=(Ren.pH hok (fb hf)).1
  simp only[ρ2,this,Option.bind_some,hl]
 have hfind: ∀ {k:Nat} {b:bi},find (S.hp st.heap) k=some b→ ∃o b',(o,k)∈S.all∧find st.heap o=some b'∧b=b'.ak S.f∧ρ2 k=ρ o:=by
  intro k b hk
  have hm:=fb hk
  simp only[Ren.hp,List.mem_filterMap,Option.map_eq_some_iff,Prod.mk.injEq]at hm
  obtain⟨⟨o,n⟩,Ni,b',hb',rfl,rfl⟩:=hm
  refine⟨o,b',Ni,hb',rfl,?_⟩
  simp only[ρ2,(Ren.pH hok Ni).1,Option.bind_some]
 refine⟨ρ2,⟨h.size,h.defers,fun t v hv=>?_,fun k b hk=>?_,fun k k' b b' q h1 h2 r1 r2=>?_,fun k hk=>?_,h.bound,h.may,h.dX⟩,fun id l bJ hl=>?_⟩
 · have hm:=fb hv
   simp only[Ren.tm,List.mem_filterMap,Option.map_eq_some_iff,Prod.mk.injEq]at hm
   obtain⟨t',_,u,hu,rfl,rfl⟩:=hm
   exact(h.tmps _ u hu).ak hρ
 · obtain⟨o,b',Ni,hb',rfl,hr⟩:=hfind hk
   have hb:=h.heap o b' hb'
   cases b' with
   |row sz xs=>
    obtain⟨q1,q2⟩:=hb
    refine⟨fun e he=>?_,?_⟩
    · simp only[List.mem_map]at he
      obtain⟨e',he',rfl⟩:=he
      simpa using q1 e' he'
    · rcases q2 with⟨b,c,e,k1,k2,k3,k4,k5,k6⟩|⟨k1,k2⟩
      · refine .inl ⟨b,c,e,by rw[hr,k1],k2,k3,k4,by simpa using k5,fun i el j q hi hj=>?_⟩
        simp only[List.getElem?_map,Option.map_eq_some_iff]at hi
        obtain⟨BX,A5,rfl⟩:=hi
        simp only[List.getElem?_map,Option.map_eq_some_iff]at hj
        obtain⟨q',DJ,rfl⟩:=hj
        obtain⟨y,hy,dr,h1⟩:=k6 i BX j q' A5 DJ
        exact⟨y,hy,dr.ak hρ,h1⟩
      · exact .inr ⟨by rw[hr,k1],by rw[k2];rfl⟩
   |mp es clock=>
    obtain⟨b,en,k1,k2,k3,k4,k5,k6⟩:=hb
    refine⟨b,en,by rw[hr,k1],k2,k3,k4,by simpa using k5,fun i k c n hi=>?_⟩
    simp only[List.getElem?_map,Option.map_eq_some_iff]at hi
    obtain⟨⟨k',c',n'⟩,hi',he⟩:=hi
    simp only[Prod.mk.injEq]at he
    obtain⟨rfl,rfl,rfl⟩:=he
    obtain⟨e,h1,h2,h3,h4,h5⟩:=k6 i k' c' n' hi'
    exact⟨e,h1,h2,h3,h4.ak hρ,h5.ak⟩
 · obtain⟨o,b1,Ni,oT,_,e1⟩:=hfind h1
   obtain⟨o',b2,X6,nw,_,e2⟩:=hfind h2
   rw[e1]at r1
   rw[e2]at r2
   have:=h.inj o o' b1 b2 q oT nw r1 r2
   subst this
   have g1:=(Ren.pH hok Ni).2.1
   have g2:=(Ren.pH hok X6).2.1
   rw[g1]at g2
   simpa using g2
 · simp only[ρ2]
   cases hf:find (swp S.all) k with
   |none=>rfl
   |some o=>
    exfalso
    have hm:=fb hf
    simp only[swp,List.mem_map,Prod.mk.injEq]at hm
    obtain⟨⟨o',n⟩,Ni,rfl,rfl⟩:=hm
    have:=(Ren.pH hok Ni).2.2
    simp only[bt]at hk
    omega
 · refine hρ id id l ?_ hl
   have:id=0∨id=1∨id=2∨id=3:=by omega
   rcases this with rfl|rfl|rfl|rfl<;>rfl
end Go.aS
end
section
namespace Go.aS
open Go
variable {P:Program} {M A:Nat→Prop} {ρ:Env} {F:Nat→Prop} {st:St} {a:Act} {w:World}
def fM (M A A':Nat→Prop) (w:World):Prop:=(∀b,A b→¬M b→A' b)∧ ∀b,b < w.heap.size→A' b→A b
theorem bE.m {A':Nat→Prop} (h:bE A A' w):fM M A A' w:=⟨fun b hb _=>h.1 b hb,h.2⟩
theorem fM.refl (M A:Nat→Prop) (w:World):fM M A A w:=⟨fun _ h _=>h,fun _ _ h=>h⟩
theorem fM.trans {A1 A2:Nat→Prop} {w1:World} (h:fM M A A1 w) (k:fM M A1 A2 w1) (hs:w.heap.size≤w1.heap.size):fM M A A2 w:=
 ⟨fun b hb hm=>k.1 b (h.1 b hb hm) hm,fun b hb h2=>h.2 b hb (k.2 b (Nat.lt_of_lt_of_le hb hs) h2)⟩
def Post (M A:Nat→Prop) (ρ:Env) (w:World) (Q:St→Nat→Prop) (a':Act) (w':World):Prop:=
 ∃st' bA A' ρ',Q st' bA∧Rel M A' ρ' (bt bA) st' a' w'∧df M w w'∧iJ ρ ρ'∧fM M A A' w
theorem Post.trans {A1:Nat→Prop} {ρ1:Env} {w1 w':World} {Q:St→Nat→Prop} {a':Act} (h:Post M A1 ρ1 w1 Q a' w') (dJ:df M w w1) (cF:iJ ρ ρ1) (hg:fM M A A1 w):Post M A ρ w Q a' w':=by
 obtain⟨st',c',A',ρ',h1,h2,h3,h4,h5⟩:=h
 exact⟨st',c',A',ρ',h1,h2,dJ.trans h3,cF.trans h4,hg.trans h5 dJ.size⟩
theorem Post.here {Q:St→Nat→Prop} {ctr:Nat} (h:Rel M A ρ (bt ctr) st a w) (hq:Q st ctr):Post M A ρ w Q a w:=
 ⟨st,ctr,A,ρ,hq,h,df.refl _ _,iJ.refl _,fM.refl _ _ _⟩
def aW (ops:Array Oper) (o:Oper) (tmps:List (Nat×V)):Option Bool:=
 match o.guard with
 |none=>some true
 |some (j,want)=>
  match(ops[j]?).bind (·.dst)with
  |none=>some false
  |some d=>
   match find tmps d with
   |some (.w (.one (.t (.val (.bool b)))))=>some (b==want)
   |some (.dQ [])=>some false
   |_=>none
theorem cW {ops:Array Oper} {o:Oper} {b:Bool} (h:Rel M A ρ F st a w) (hg:aW ops o st.tmps=some b):Region.wanted o (yielded ops a.tmps)=b:=by
 unfold aW at hg
 unfold Region.wanted
 split at hg
 · rename_i jf
   simp only[Option.some.injEq]at hg
   simp[jf, ←hg]
 · rename_i j want jf
   simp only[jf]
   split at hg
   · rename_i hd
     simp only[Option.some.injEq]at hg
     simp[yielded,hd, ←hg]
   · rename_i d hd
     split at hg
     · rename_i c hc
       simp only[Option.some.injEq]at hg
       have hr:=h.tmps d _ hc
       have hv:a.tmps.getD d undef= .bool c:=V.bn (u:= .w (.one (.t (.val (.bool c))))) rfl hr
       have hlt:d < a.tmps.size:=by
        rcases Nat.lt_or_ge d a.tmps.size with hl|hl
        · exact hl
        · rw[Array.getD_eq_getD_getElem?,Array.getElem?_eq_none hl]at hv
          simp[undef]at hv
       have hx:a.tmps[d]? =some (.bool c):=by
        rw[Array.getD_eq_getD_getElem?]at hv
        simp[hlt]at hv⊢
        exact hv
       simp only[yielded,hd,Option.bind_some,hx]
       rw[←hg]
       cases c<;>cases want<;>rfl
     · rename_i hc
       simp only[Option.some.injEq]at hg
       have hr:=h.tmps d _ hc
       obtain⟨vs,h1,h2,_⟩:=hr
       have hne: ∀q,a.tmps[d]? ≠some (.bool q):=by
        intro q hq
        simp[Array.getD_eq_getD_getElem?,hq]at h1
       have hy:yielded ops a.tmps j=none:=by
        simp only[yielded,hd,Option.bind_some]
       rw[hy, ←hg]
       rfl
     · simp at hg
def gj (n:Nat) (dst:Option Tmp):Bool:=
 match dst with
 |some d=>decide (d < n)
 |none=>true
theorem jA {n:Nat} {dst:Option Tmp} (h:gj n dst=true): ∀d,dst=some d→d < n:=by
 intro d hd
 subst hd
 simpa[gj]using h
def ot (get:Operand→V):List Operand→Option (List W)
 | []=>some []
 |x::r=>match get x,ot get r with
  | .w u,some l=>some (u::l)
  |_,_=>none
theorem kV (h:Rel M A ρ F st a w): ∀ {xs:List Operand} {us:List W},ot st.get xs=some us→wY w A ρ us (xs.map a.eval)
 | [],us,hu=>by simp only[ot,Option.some.injEq]at hu;subst hu;exact⟨rfl,by simp⟩
 |x::r,us,hu=>by
  simp only[ot]at hu
  split at hu
  · rename_i u l hx hl
    simp only[Option.some.injEq]at hu
    subst hu
    obtain⟨h1,h2⟩:=kV h hl
    refine⟨by simp[h1],fun k v y hv hy=>?_⟩
    cases k with
    |zero=>
     simp only[List.getElem?_cons_zero,Option.some.injEq]at hv
     simp only[List.map_cons,List.getElem?_cons_zero,Option.some.injEq]at hy
     subst hv
     subst hy
     have:=h.get x
     rw[hx]at this
     exact this
    |succ k=>exact h2 k v y (by simpa using hv) (by simpa using hy)
  · simp at hu
def enters (P:Program) (f:FuncId):Bool:=
 match P.funcs[f]? with
 |some fn=>fn.body.isSome&&fn.name != "runtime.NumGoroutine"
 |none=>false
theorem lp {f:FuncId} (h:enters P f=true) (xs:Array Value):(callFunc f xs).run P w= .ok (.enter f xs) w:=by
 unfold enters at h
 split at h
 · rename_i fn hf
   simp only[Bool.and_eq_true,bne_iff_ne,ne_eq]at h
   obtain⟨h1,h2⟩:=h
   simp only[callFunc,Sem.run_bind,run_program,Result.andThen_ok,hf]
   have h3:fn.body.isNone=false:=by cases hb:fn.body<;>simp_all
   have h4:(fn.name== "runtime.NumGoroutine")=false:=by simpa using h2
   simp only[h3,h4,Bool.false_eq_true,if_false,Sem.run_pure]
 · simp at h
def mD (b:Bool) (ts:List T):Option W:=
 match b,ts with
 |true,ts=>some (.agg (ts.map .t))
 |false,[t]=>some (.one (.t t))
 |_,_=>none
def bK (get:Operand→V) (o:Oper):Option (FuncId×List W):=
 match o.op with
 | .call ⟨.value f,args,_⟩=>
   match get f,ot get args.toList with
   | .w (.one (.t (.val (.func (.func g) first cZ)))),some us=>if first.isEmpty&&cZ.isEmpty then some (g,us)else none
   | .w (.one (.jY g cZ)),some us=>some (g,us++cZ.map fun p=> .one (.ptr p.1 p.2.1 p.2.2.1 p.2.2.2))
   | .w (.one (.kP g b ts)),some us=>(mD b ts).map fun u=>(g,u::us)
   |_,_=>none
 |_=>none
theorem lM {o:Oper} {g:FuncId} {us:List W} (h:Rel M A ρ F st a w) (hc:bK st.get o=some (g,us)) (he:enters P g=true):
 ∃xs:Array Value,(execOp a.eval o).run P w= .ok (.enter g xs) w∧wY w A ρ us xs.toList:=by
 obtain⟨dst,op,ty,pos,after,guard⟩:=o
 unfold bK at hc
 simp only at hc
 split at hc
 · rename_i f args ia
   split at hc
   · rename_i g' first cZ fh hf fR
     split at hc
     · rename_i xO
       simp only[Option.some.injEq,Prod.mk.injEq]at hc
       obtain⟨rfl,rfl⟩:=hc
       simp only[Bool.and_eq_true,Array.isEmpty_iff]at xO
       obtain⟨rfl,rfl⟩:=xO
       have hv:=V.bn (v:= .func (.func g') #[] #[]) (by rw[hf];rfl) (h.get f)
       refine⟨args.map a.eval,?_,by simpa using kV h fR⟩
       simp[execOp,resolve,hv,Deferred.ofValue,invoke,lp he]
     · simp at hc
   · rename_i g' cZ fh hf fR
     simp only[Option.some.injEq,Prod.mk.injEq]at hc
     obtain⟨rfl,rfl⟩:=hc
     have hx:=h.get f
     rw[hf]at hx
     obtain⟨vs,hv,hl,hp⟩:=hx.1
     obtain⟨k1,k2⟩:=kV h fR
     refine⟨args.map a.eval++vs,by simp[execOp,resolve,hv,Deferred.ofValue,invoke,lp he],by simp only[List.length_append,List.length_map,Array.toList_append,Array.length_toList,hl,k1,Array.toList_map],fun k u x hu hx=>?_⟩
     simp only[Array.toList_append,Array.toList_map]at hx
     by_cases hk:k < fh.length
     · rw[List.getElem?_append_left hk]at hu
       rw[List.getElem?_append_left (by rw[←k1];exact hk)]at hx
       exact k2 k u x hu hx
     · rw[List.getElem?_append_right (by omega)]at hu
       rw[List.getElem?_append_right (by rw[←k1];omega), ←k1]at hx
       simp only[List.getElem?_map,Option.map_eq_some_iff]at hu
       obtain⟨⟨id,sz,i,j⟩,hq,rfl⟩:=hu
       have hpx:=hp _ id sz i j x hq (by simpa using hx)
       refine⟨hpx,?_⟩
       obtain⟨b,_,rfl⟩:=hpx
       rfl
   · rename_i g' b ts fh hf fR
     simp only[Option.map_eq_some_iff,Prod.mk.injEq]at hc
     obtain⟨u0,lC,rfl,rfl⟩:=hc
     have hx:=h.get f
     rw[hf]at hx
     obtain⟨x0,hv,hrf⟩:=hx.1
     obtain⟨k1,k2⟩:=kV h fR
     have h0:RW w A ρ u0 x0:=by
      cases b with
      |true=>
       simp only[mD,Option.some.injEq]at lC
       subst lC
       obtain⟨vs,rfl,q1,q2⟩:=hrf
       refine⟨vs,rfl,by simpa using q1,fun k c y hk hy=>?_⟩
       simp only[List.getElem?_map,Option.map_eq_some_iff]at hk
       obtain⟨t,ht,rfl⟩:=hk
       exact q2 k t y ht hy
      |false=>
       obtain⟨t,rfl,q1,q2⟩:=hrf
       simp only[mD,Option.some.injEq]at lC
       subst lC
       exact⟨q1,q2⟩
     refine⟨#[x0]++args.map a.eval,by simp[execOp,resolve,hv,Deferred.ofValue,invoke,lp he],by simp only[List.length_cons,Array.toList_append,List.length_append,Array.length_toList,Array.toList_map,List.length_map,k1];simp[Nat.add_comm],fun k u x hu hx=>?_⟩
     simp only[Array.toList_append,Array.toList_map]at hx
     cases k with
     |zero=>
      simp only[List.getElem?_cons_zero,Option.some.injEq]at hu
      subst hu
      have:x0=x:=by simpa using hx
      subst this
      exact h0
     |succ k=>exact k2 k u x (by simpa using hu) (by simpa using hx)
   · simp at hc
 · simp at hc
def fN (P:Program) (f:FuncId) (us:List W) (hp:List (Nat×bi)) (ctr:Nat) (v:V) (aF:List (Nat×bi)) (bA:Nat):Prop:=
 ∀ (M A:Nat→Prop) (ρ:Env) (a:Act) (w:World) (n:Nat) (L:List (Nat×V)) (xs:Array Value),Rel M A ρ (bt ctr) ⟨n,L,hp⟩ a w→wY w A ρ us xs.toList→
  Calls P f xs w fun e w'=> ∃x A' ρ',e= .returned x∧Rel M A' ρ' (bt bA) ⟨n,L,aF⟩ a w'∧RV w' A' ρ' v x∧df M w w'∧cU ρ ρ'∧bE A A' w
def dK (P:Program) (f:FuncId) (us:List W) (hp:List (Nat×bi)) (ctr:Nat) (v:V) (aF:List (Nat×bi)) (bA:Nat):Prop:=
 ∀ (M A:Nat→Prop) (ρ:Env) (a:Act) (w:World) (n:Nat) (L:List (Nat×V)) (xs:Array Value),Rel M A ρ (bt ctr) ⟨n,L,hp⟩ a w→wY w A ρ us xs.toList→
  Calls P f xs w fun e w'=> ∃x A' ρ',e= .returned x∧Rel M A' ρ' (bt bA) ⟨n,L,aF⟩ a w'∧RV w' A' ρ' v x∧df M w w'∧cU ρ ρ'∧fM M A A' w
theorem fN.m {f:FuncId} {us:List W} {hp aF:List (Nat×bi)} {ctr bA:Nat} {v:V} (h:fN P f us hp ctr v aF bA):dK P f us hp ctr v aF bA:=by
 intro M A ρ a w n L xs hr hx
 refine(h M A ρ a w n L xs hr hx).mono ?_
 rintro e w' ⟨x,A',ρ',h1,r1,r2,r3,r4,r5⟩
 exact⟨x,A',ρ',h1,r1,r2,r3,r4,r5.m⟩
def Ir (P:Program) (o:Oper) (n:Nat) (tm:List (Nat×V)) (hp:List (Nat×bi)) (ctr:Nat) (v:V) (aF:List (Nat×bi)):Prop:=
 ∀ (M A:Nat→Prop) (ρ:Env) (a:Act) (w:World),Rel M A ρ (bt ctr) ⟨n,tm,hp⟩ a w→nO M A ρ (bt (ctr+4)) a w ((execOp a.eval o).run P w) ⟨n,tm,aF⟩ v
def kS (P:Program) (ops:Array Oper) (i:Nat) (K:St→Nat→Prop) (st:St) (ctr:Nat):Prop:=
 match ops[i]? with
 |none=>K st ctr
 |some o=>
  gj st.n o.dst=true∧
  match aW ops o st.tmps with
  |none=>False
  |some false=>K (st.put o.dst (.dQ [])) ctr
  |some true=>
   (∃g us,bK st.get o=some (g,us)∧enters P g=true∧ ∃v heap' c',dK P g us st.heap ctr v heap' c'∧K (St.put {st with heap:=heap'} o.dst v) c')∨
   ∃v heap',Ir P o st.n st.tmps st.heap ctr v heap'∧K (St.put {st with heap:=heap'} o.dst v) (ctr+4)
def ye (P:Program) (ops:Array Oper) (K:St→Nat→Prop):List Nat→St→Nat→Prop
 | [],st,ctr=>K st ctr
 |i::rest,st,ctr=>kS P ops i (ye P ops K rest) st ctr
theorem qt:RV w A ρ (.dQ []) undef:=⟨#[],rfl,rfl,by simp⟩
theorem gv {ctr:Nat}: ∀id,bt (ctr+4) id→Sub (bt ctr) ctr id:=fun id h=>⟨by simp only[bt]at *;omega,by simp only[bt]at *;omega⟩
theorem kS.sound {ops:Array Oper} {i:Nat} {K:St→Nat→Prop} {ctr:Nat} {Q:Exit→Act→World→Prop} {K':Act→World→Prop} (h:kS P ops i K st ctr) (hr:Rel M A ρ (bt ctr) st a w)
 (hk: ∀a' w',Post M A ρ w K a' w'→K' a' w'):wpOp P ops Q i K' a w:=by
 unfold kS at h
 unfold wpOp
 split at h
 · rename_i hi
   simp only[hi]
   exact hk _ _ (Post.here hr h)
 · rename_i o hi
   simp only[hi]
   obtain⟨hd,h⟩:=h
   have zp:=jA hd
   split at h
   · exact h.elim
   · rename_i hg
     have:=cW hr hg
     simp only[this,Bool.false_eq_true,if_false]
     exact hk _ _ (Post.here (hr.put qt zp) h)
   · rename_i hg
     have:=cW hr hg
     simp only[this,if_true]
     refine .inl ?_
     rcases h with h|h
     · obtain⟨g,us,hc,he,v,heap',c',YB,hK⟩:=h
       obtain⟨xs,hx,hxs⟩:=lM (P:=P) hr hc he
       simp only[Oper.wp,hx,Oper.upon]
       refine(YB M A ρ a w st.n st.tmps xs hr hxs).mono ?_
       rintro e w' ⟨x,A',ρ',rfl,r1,r2,r3,r4,r5⟩
       exact hk _ _ ⟨_,c',A',ρ',hK,r1.put r2 zp,r3,r4.K3,r5⟩
     · obtain⟨v,heap',XV,hK⟩:=h
       obtain⟨x,w',A',ρ',hrun,r1,r2,r3,r4,r5⟩:=XV M A ρ a w hr
       rcases hrun with hrun|⟨hrun,rfl⟩
       · simp only[Oper.wp,hrun,Oper.upon]
         exact hk _ _ ⟨_,ctr+4,A',ρ',hK,r1.put r2 zp,r3,r4.K3,r5.m⟩
       · simp only[Oper.wp,hrun,Oper.upon]
         exact hk _ _ ⟨_,ctr+4,A',ρ',hK,r1.put r2 zp,r3,r4.K3,r5.m⟩
theorem lI {o:Oper} {n:Nat} {tm:List (Nat×V)} {hp aF:List (Nat×bi)} {ctr:Nat} {v:V} (h:ai P (St.get ⟨n,tm,hp⟩) hp ctr o=some (v,aF)):Ir P o n tm hp ctr v aF:=by
 intro M A ρ a w hr
 obtain⟨x,w',A',ρ',hrun,r1,r2,r3,r4,r5⟩:=lH (st:=⟨n,tm,hp⟩) h hr (Nat.le_refl ctr)
 exact⟨x,w',A',ρ',hrun,r1.sub gv,r2,r3,r4,r5⟩
theorem nh {f:FuncId} {us:List W} {hp aF:List (Nat×bi)} {ctr:Nat} {v:V} (h:eu P hp ctr f us v aF):fN P f us hp ctr v aF (ctr+4):=by
 intro M A ρ a w n L xs hr hx
 refine(h.sound (st:=⟨n,L,hp⟩) hr (fun k h1 _=>h1) hx).mono ?_
 rintro e w' ⟨x,A',ρ',rfl,r1,r2,r3,r4,r5⟩
 exact⟨x,A',ρ',rfl,r1.sub gv,r2,r3,r4,r5⟩
theorem jC {f:FuncId} {us:List W} {hp aF:List (Nat×bi)} {ctr:Nat} {v:V} (h:eu P hp ctr f us v aF):dK P f us hp ctr v aF (ctr+4):=(nh h).m
theorem ye.sound {ops:Array Oper} {K:St→Nat→Prop} {Q:Exit→Act→World→Prop}: ∀ {l:List Nat} {M A:Nat→Prop} {ρ:Env} {st:St} {a:Act} {w:World} {ctr:Nat},ye P ops K l st ctr→Rel M A ρ (bt ctr) st a w→
 (∀a' w',Post M A ρ w K a' w'→Q .normal a' w')→wpOps P ops Q l a w
 | [],M,A,ρ,st,a,w,ctr,h,hr,hq=>hq _ _ (Post.here hr h)
 |i::rest,M,A,ρ,st,a,w,ctr,h,hr,hq=>by
  rw[wpOps_cons]
  refine kS.sound h hr (fun a' w' hp=>?_)
  obtain⟨st',c',A',ρ',h1,h2,h3,h4,h5⟩:=hp
  exact ye.sound h1 h2 (fun a2 w2 hp2=>hq _ _ (hp2.trans h3 h4 h5))
def Wp (P:Program) (c:Code) (Q:Exit→St→Nat→Prop) (st:St) (ctr:Nat):Prop:=
 ∀ (M A:Nat→Prop) (ρ:Env) (a:Act) (w:World),Rel M A ρ (bt ctr) st a w→c.wp P (fun e a' w'=>Post M A ρ w (Q e) a' w') a w
theorem Wp.mono {c:Code} {Q Q':Exit→St→Nat→Prop} {ctr:Nat} (h:Wp P c Q st ctr) (hq: ∀e st' c',Q e st' c'→Q' e st' c'):Wp P c Q' st ctr:=
 fun M A ρ a w hr=>wp_mono (h M A ρ a w hr) (fun e a' w' ⟨st',c',A',ρ',h1,h2⟩=>⟨st',c',A',ρ',hq _ _ _ h1,h2⟩)
theorem Wp.skip {Q:Exit→St→Nat→Prop} {ctr:Nat} (h:Q .normal st ctr):Wp P .skip Q st ctr:=fun M A ρ a w hr=>wp_skip (Post.here hr h)
theorem Wp.exit {Q:Exit→St→Nat→Prop} {ctr id:Nat} (h:Q (.exit id) st ctr):Wp P (.exit id) Q st ctr:=fun M A ρ a w hr=>wp_exit (Post.here hr h)
theorem Wp.ret {Q:Exit→St→Nat→Prop} {ctr:Nat} (h:Q .ret st ctr):Wp P .ret Q st ctr:=fun M A ρ a w hr=>wp_ret (Post.here hr h)
def F4 (K:St→Nat→Prop) (Q:Exit→St→Nat→Prop):Exit→St→Nat→Prop
 | .normal=>K
 |e=>Q e
theorem Wp.seq {x y:Code} {Q:Exit→St→Nat→Prop} {ctr:Nat} (h:Wp P x (F4 (Wp P y Q) Q) st ctr):Wp P (.seq x y) Q st ctr:=by
 intro M A ρ a w hr
 refine wp_seq (wp_mono (h M A ρ a w hr) ?_)
 rintro e a' w' ⟨st',c',A',ρ',h1,h2,h3,h4,h5⟩
 cases e with
 |normal=>exact wp_mono (h1 M A' ρ' a' w' h2) (fun e a2 w2 hp=>hp.trans h3 h4 h5)
 |_=>exact⟨st',c',A',ρ',h1,h2,h3,h4,h5⟩
theorem Wp.region {id:Nat} {ops:Array Oper} {Q:Exit→St→Nat→Prop} {ctr:Nat} (h:ye P ops (Q .normal) (List.range ops.size) st ctr):Wp P (.region id ops false) Q st ctr:=
 fun _ _ _ _ _ hr=>wp_region (ye.sound h hr (fun _ _ hp=>hp))
theorem Wp.cond {c:Operand} {x y:Code} {b:Bool} {Q:Exit→St→Nat→Prop} {ctr:Nat} (hc:(st.get c).gk =some b) (h:Wp P (if b then x else y) Q st ctr):Wp P (.cond c x y) Q st ctr:=
 fun M A ρ a w hr=>wp_cond (V.lN hc (hr.get c)) (h M A ρ a w hr)
def rj (id:Nat) (Q:Exit→St→Nat→Prop):Exit→St→Nat→Prop
 | .exit id'=>if id'=id then Q .normal else Q (.exit id')
 |e=>Q e
theorem Wp.block {id:Nat} {c:Code} {Q:Exit→St→Nat→Prop} {ctr:Nat} (h:Wp P c (rj id Q) st ctr):Wp P (.block id c) Q st ctr:=by
 intro M A ρ a w hr
 refine wp_block (wp_mono (h M A ρ a w hr) ?_)
 rintro e a' w' ⟨st',c',A',ρ',h1,h2⟩
 cases e with
 |exit id'=>
  simp only[Exit.inBlock]
  simp only[rj]at h1
  split
  · rename_i e;rw[if_pos e]at h1;exact⟨st',c',A',ρ',h1,h2⟩
  · rename_i e;rw[if_neg e]at h1;exact⟨st',c',A',ρ',h1,h2⟩
 |_=>exact⟨st',c',A',ρ',h1,h2⟩
theorem Wp.loop {c:Code} {Q:Exit→St→Nat→Prop} (I:Nat→St→Nat→Prop)
 (round: ∀n st ctr,I n st ctr→Wp P c (F4 (fun st' c'=> ∃m,m < n∧I m st' c') Q) st ctr):
 ∀ (n:Nat) (st:St) (ctr:Nat),I n st ctr→Wp P (.loop c) Q st ctr:=by
 intro n st ctr h0 M A ρ a w hr b k cs
 have key: ∀n st ctr A ρ a w,I n st ctr→Rel M A ρ (bt ctr) st a w→
  ∃e a' w',Post M A ρ w (Q e) a' w'∧Arrives P (lone (b.at a (.code c:: .inLoop c::k)) cs w) b k cs e a' w':=by
  intro n
  induction n using Nat.strongRecOn with
  |_ n ih=>
   intro st ctr A ρ a w hI hr
   obtain⟨e,a1,w1,hq,jG⟩:=round n st ctr hI M A ρ a w hr b (.inLoop c::k) cs
   obtain⟨st',c',A',ρ',h1,h2,h3,h4,h5⟩:=hq
   cases e with
   |normal=>
    obtain⟨m,hm,Ty⟩:=h1
    obtain⟨e2,a2,w2,hp2,A8⟩:=ih m hm st' c' A' ρ' a1 w1 Ty h2
    exact⟨e2,a2,w2,hp2.trans h3 h4 h5, .of_steps (Steps.trans jG (.one step_inLoop)) A8⟩
   |exit id=>exact⟨_,a1,w1,⟨st',c',A',ρ',h1,h2,h3,h4,h5⟩, .pass (x:= .inLoop c) rfl (fun _ _=> .inl (by simp)) jG⟩
   |goto l=>exact⟨_,a1,w1,⟨st',c',A',ρ',h1,h2,h3,h4,h5⟩, .pass (x:= .inLoop c) rfl (fun _ _=> .inl (by simp)) jG⟩
   |ret=>exact⟨_,a1,w1,⟨st',c',A',ρ',h1,h2,h3,h4,h5⟩, .pass (x:= .inLoop c) rfl (fun _ _=> .inl (by simp)) jG⟩
   |panic ch=>exact⟨_,a1,w1,⟨st',c',A',ρ',h1,h2,h3,h4,h5⟩, .pass (x:= .inLoop c) rfl (fun _ _=> .inl (by simp)) jG⟩
   |outgrown=>exact⟨_,a1,w1,⟨st',c',A',ρ',h1,h2,h3,h4,h5⟩, .pass (x:= .inLoop c) rfl (fun _ _=> .inl (by simp)) jG⟩
 obtain⟨e,a',w',hq,jG⟩:=key n st ctr A ρ a w h0 hr
 exact⟨e,a',w',hq, .of_steps (.one step_loop) jG⟩
theorem Wp.forget {c:Code} {Q:Exit→St→Nat→Prop} {ctr bA:Nat} {st':St} (h:Wp P c Q st' bA) (hc:ctr≤bA) (hn:st'.n=st.n)
 (ht: ∀t v,find st'.tmps t=some v→find st.tmps t=some v) (hh: ∀id b,find st'.heap id=some b→find st.heap id=some b):Wp P c Q st ctr:=
 fun M A ρ a w hr=>h M A ρ a w ((hr.forget hn ht hh).sub (fun id hi=>Nat.le_trans hc hi))
def cg (P:Program) (heap:List (Nat×bi)) (tmps:List (Nat×V)):ResultVar→Option W
 | .tmp t=>match find tmps t with
   |some (.w u)=>some u
   |_=>none
 | .cell t ty=>match find tmps t with
   |some v=>match dY P ty v heap with
    |some (.w u)=>some u
    |_=>none
   |none=>none
def aM (P:Program) (heap:List (Nat×bi)) (tmps:List (Nat×V)):List ResultVar→Option (List W)
 | []=>some []
 |r::rs=>match cg P heap tmps r,aM P heap tmps rs with
  |some u,some us=>some (u::us)
  |_,_=>none
def aQ:List W→V
 | [u]=> .w u
 |us=> .dQ us
theorem ey (h:Rel M A ρ F st a w): ∀ {rs:List ResultVar} {us:List W},aM P st.heap st.tmps rs=some us→
 ∃vs:List Value,(rs.mapM fun(r:ResultVar)=>match r with
  | .tmp t=>pure (a.tmps.getD t undef)
  | .cell b t=>do loadVar t (←asAddr (a.tmps.getD b undef))).run P w= .ok vs w∧wY w A ρ us vs
 | [],us,hu=>by
   simp only[aM,Option.some.injEq]at hu
   subst hu
   exact⟨[],by simp,rfl,by simp⟩
 |r::rs,us,hu=>by
  simp only[aM]at hu
  split at hu
  · rename_i u fh hr eA
    simp only[Option.some.injEq]at hu
    subst hu
    obtain⟨vs,h1,h2,h3⟩:=ey h eA
    have one: ∃v,(match r with
     | .tmp t=>(pure (a.tmps.getD t undef):Sem Value)
     | .cell b t=>do loadVar t (←asAddr (a.tmps.getD b undef))).run P w= .ok v w∧RW w A ρ u v:=by
     cases r with
     |tmp t=>
      simp only[cg]at hr
      split at hr
      · rename_i u' hf
        simp only[Option.some.injEq]at hr
        subst hr
        exact⟨_,rfl,h.tmps t _ hf⟩
      · simp at hr
     |cell b t=>
      simp only[cg]at hr
      split at hr
      · rename_i v hf
        split at hr
        · rename_i u' hl
          simp only[Option.some.injEq]at hr
          subst hr
          have hv:=h.tmps b v hf
          obtain⟨y,hy,XS⟩:=mX h hl hv
          refine⟨y,?_,XS⟩
          unfold dY at hl
          split at hl
          · rename_i c
            split at hl
            · rename_i cs j hd
              obtain⟨b',o,hx,_⟩:=sw h hd hv.1
              simp only[Instr.loadAt,Instr.sureAddr,hx,Sem.run_bind,Sem.run_pure,Result.andThen_ok]at hy
              simp only[asAddr,hx,Sem.run_bind,Sem.run_pure,Result.andThen_ok]
              exact hy
            · simp at hl
          · simp at hl
        · simp at hr
      · simp at hr
    obtain⟨v,hv,IG⟩:=one
    refine⟨v::vs,?_,by simp[h2],fun k u x hu hx=>?_⟩
    · rw[List.mapM_cons,Sem.run_bind,hv,Result.andThen_ok,Sem.run_bind,h1]
      rfl
    · cases k with
      |zero=>
       simp only[List.getElem?_cons_zero,Option.some.injEq]at hu hx
       subst hu
       subst hx
       exact IG
      |succ k=>exact h3 k u x (by simpa using hu) (by simpa using hx)
  · simp at hu
def dc (n:Nat):List W→List (Nat×V)
 | []=>[]
 |u::r=>(n, .w u)::dc (n+1) r
theorem eG: ∀ (us:List W) (n t:Nat) (v:V),find (dc n us) t=some v→n≤t∧ ∃u,us[t - n]? =some u∧v= .w u
 | [],n,t,v,h=>by simp[dc,find]at h
 |u::r,n,t,v,h=>by
  simp only[dc,aq]at h
  split at h
  · rename_i e
    subst e
    simp only[Option.some.injEq]at h
    exact⟨Nat.le_refl _,u,by simp,h.symm⟩
  · rename_i e
    obtain⟨h1,u',h2,h3⟩:=eG r (n+1) t v h
    refine⟨by omega,u',?_,h3⟩
    rw[show t - n=(t - (n+1))+1 by omega]
    simpa using h2
theorem xP {ρ:Env} {A A':Nat→Prop} {w:World} (hb: ∀b,A b→b < w.heap.size) (h:fM (fun b=>o7 ρ [] b∨w.heap.size≤b) A A' w):bE A A' w:=by
 refine⟨fun b hA=>h.1 b hA ?_,h.2⟩
 rintro(⟨id,blk,hf,_⟩|hs)
 · simp[find]at hf
 · have:=hb b hA
   omega
end Go.aS
end
section
namespace Go.aS
open Go
variable {P:Program}
theorem qC (d:Nat) (t:TypeId) (xs ys:Array Value) {fs:Array Field} (ht:P.underlying t=some (.struct fs)) (hp:P.stoodInHeld t=false):
 aH P (Op.equalIn (d+1) t (.agg xs) (.agg ys))=aH P (Op.eqFields d xs ys fs.toList):=by
 have Hg:aH P program=some P:=rfl
 simp only[Op.equalIn,aJ,aN ht,Option.bind_some,Hg,hp,Bool.false_eq_true,if_false]
 rw[←Array.forIn_toList]
 generalize fs.toList=l
 clear ht
 induction l with
 |nil=>simp[Op.eqFields,aD]
 |cons f l ih=>
  simp only[List.forIn_cons,Op.eqFields,aJ]
  split
  · simp only[aJ]
    cases h1:aH P (part f.type xs f.offset)with
    |none=>simp
    |some a=>
     simp only[Option.bind_some]
     cases h2:aH P (part f.type ys f.offset)with
     |none=>simp
     |some b=>
      simp only[Option.bind_some]
      cases h3:aH P (Op.equalIn d f.type a b)with
      |none=>simp
      |some r=>
       cases r
       · simp[aD]
       · simp only[Option.bind_some,Bool.not_true,Bool.false_eq_true,if_false,aD]
         rw[←ih]
  · simp only[aD,Option.bind_some]
    rw[←ih]
def rP (P:Program) (t:TypeId):Option Nat:=
 match aH P (isAgg t)with
 |some false=>match P.underlying t with
  |some (.int _)=>some 0
  |some .bool=>some 1
  |some .string=>some 2
  |_=>none
 |_=>none
def kj (P:Program):Nat→List Field→Option (List Nat)
 |_,[]=>some []
 |off,f::r=>if f.name≠ "_" ∧f.offset=off then
   match rP P f.type,kj P (off+1) r with
   |some k,some ks=>some (k::ks)
   |_,_=>none
  else none
def pW:List Nat→List C→List C→Option Bool
 | [],[],[]=>some true
 |0::ks, .t (.val (.int k a))::r, .t (.val (.int k' b))::s=>if k=k' then(pW ks r s).map fun e=>(a==b)&&e else none
 |1::ks, .t (.val (.bool a))::r, .t (.val (.bool b))::s=>(pW ks r s).map fun e=>(a==b)&&e
 |2::ks, .t (.val (.string a))::r, .t (.val (.string b))::s=>(pW ks r s).map fun e=>(a==b)&&e
 |_,_,_=>none
theorem xC {t:TypeId} {k off:Nat} {xs:Array Value} {v:Value} (hk:rP P t=some k) (hv:xs[off]? =some v):aH P (part t xs off)=some v:=by
 unfold rP at hk
 split at hk
 · rename_i ha
   simp only[part,aJ,ha,Option.bind_some,Bool.false_eq_true,if_false,hv]
   rfl
 · simp at hk
theorem GQ {t:TypeId} {k:Nat} (hk:rP P t=some k):(k=0∧ ∃q,P.underlying t=some (.int q))∨(k=1∧P.underlying t=some .bool)∨(k=2∧P.underlying t=some .string):=by
 unfold rP at hk
 split at hk
 · split at hk
   · rename_i q hq;simp only[Option.some.injEq]at hk;exact .inl ⟨hk.symm,q,hq⟩
   · rename_i hq;simp only[Option.some.injEq]at hk;exact .inr (.inl ⟨hk.symm,hq⟩)
   · rename_i hq;simp only[Option.some.injEq]at hk;exact .inr (.inr ⟨hk.symm,hq⟩)
   · simp at hk
 · simp at hk
theorem od {d:Nat} {xs ys:Array Value}: ∀ {fs:List Field} {ks:List Nat} {off:Nat} {cs ds:List C} {b:Bool},kj P off fs=some ks→pW ks cs ds=some b→
 (∀ (i:Nat) (c:C),cs[i]? =some c→ ∃v,c= .t (.val v)∧xs[off+i]? =some v)→(∀ (i:Nat) (c:C),ds[i]? =some c→ ∃v,c= .t (.val v)∧ys[off+i]? =some v)→
 aH P (Op.eqFields (d+1) xs ys fs)=some b
 | [],ks,off,cs,ds,b,hf,he,hx,hy=>by
   simp only[kj,Option.some.injEq]at hf
   subst hf
   unfold pW at he
   split at he<;>simp_all[Op.eqFields,aD]
 |f::fs,ks,off,cs,ds,b,hf,he,hx,hy=>by
  simp only[kj]at hf
  split at hf
  · rename_i hc
    split at hf
    · rename_i k ks' hk hks
      simp only[Option.some.injEq]at hf
      subst hf
      have step: ∀ {v u:Value} {r s:List C} {q e:Bool},cs= .t (.val v)::r→ds= .t (.val u)::s→aH P (Op.equalIn (d+1) f.type v u)=some q→pW ks' r s=some e→b=(q&&e)→
       aH P (Op.eqFields (d+1) xs ys (f::fs))=some b:=by
       intro v u r s q e h1 h2 h3 h4 h5
       subst h1
       subst h2
       obtain⟨v',e1,hv⟩:=hx 0 _ rfl
       obtain⟨u',e2,hu⟩:=hy 0 _ rfl
       cases e1
       cases e2
       have ih:=od (d:=d) (xs:=xs) (ys:=ys) hks h4 (fun i c hi=>by
        obtain⟨z,z1,z2⟩:=hx (i+1) c (by simpa using hi)
        exact⟨z,z1,by rw[show off+1+i=off+(i+1) by omega];exact z2⟩) (fun i c hi=>by
        obtain⟨z,z1,z2⟩:=hy (i+1) c (by simpa using hi)
        exact⟨z,z1,by rw[show off+1+i=off+(i+1) by omega];exact z2⟩)
       simp only[Op.eqFields,if_pos hc.1,aJ,hc.2]
       rw[xC hk (by simpa using hv),xC hk (by simpa using hu)]
       simp only[Option.bind_some,h3]
       cases q
       · simp[aD,h5]
       · simp only[Bool.not_true,Bool.false_eq_true,if_false,ih,h5,Bool.true_and]
      rcases GQ hk with⟨rfl,q,hu⟩|⟨rfl,hu⟩|⟨rfl,hu⟩
      · unfold pW at he
        split at he
        · simp_all
        · rename_i ks2 kk a r kk' b' s e0
          simp only[List.cons.injEq,true_and]at e0
          subst e0
          split at he
          · rename_i hkk
            subst hkk
            simp only[Option.map_eq_some_iff]at he
            obtain⟨e,h4,h5⟩:=he
            exact step rfl rfl (by simp[Op.equalIn,aJ,aN hu,aD]) h4 h5.symm
          · simp at he
        · simp_all
        · simp_all
        · simp at he
      · unfold pW at he
        split at he
        · simp_all
        · simp_all
        · rename_i ks2 a r b' s e0
          simp only[List.cons.injEq,true_and]at e0
          subst e0
          simp only[Option.map_eq_some_iff]at he
          obtain⟨e,h4,h5⟩:=he
          exact step rfl rfl (by simp[Op.equalIn,aJ,aN hu,aD]) h4 h5.symm
        · simp_all
        · simp at he
      · unfold pW at he
        split at he
        · simp_all
        · simp_all
        · simp_all
        · rename_i ks2 a r b' s e0
          simp only[List.cons.injEq,true_and]at e0
          subst e0
          simp only[Option.map_eq_some_iff]at he
          obtain⟨e,h4,h5⟩:=he
          exact step rfl rfl (by simp[Op.equalIn,aJ,aN hu,aD]) h4 h5.symm
        · simp at he
    · simp at hf
  · simp at hf
def o3 (P:Program) (t:TypeId):Option (List Nat):=
 match P.underlying t with
 |some (.struct fs)=>if P.stoodInHeld t=false∧P.eqGuardType P.depth t=false then kj P 0 fs.toList else none
 |_=>none
theorem tO: ∀ {cs:List C} {vs:List Value},fU cs=some vs→ ∀ (i:Nat) (c:C),cs[i]? =some c→ ∃v,c= .t (.val v)∧vs[i]? =some v
 | [],vs,h,i,c,hc=>by simp at hc
 |x::cs,vs,h,i,c,hc=>by
  simp only[fU]at h
  split at h
  · rename_i v us hv fR
    simp only[Option.some.injEq]at h
    subst h
    cases i with
    |zero=>
     simp only[List.getElem?_cons_zero,Option.some.injEq]at hc
     subst hc
     refine⟨v,?_,rfl⟩
     unfold C.val? at hv
     split at hv
     · simp only[Option.some.injEq]at hv;subst hv;rfl
     · simp at hv
    |succ i=>simpa using tO fR i c (by simpa using hc)
  · simp at h
theorem nD: ∀ {ks:List Nat} {cs ds:List C} {b:Bool},pW ks cs ds=some b→(∃vs,fU cs=some vs)∧ ∃us,fU ds=some us
 |ks,cs,ds,b,h=>by
  unfold pW at h
  split at h
  · exact⟨⟨[],rfl⟩,⟨[],rfl⟩⟩
  · split at h
    · simp only[Option.map_eq_some_iff]at h
      obtain⟨e,he,_⟩:=h
      obtain⟨⟨vs,h1⟩,⟨us,h2⟩⟩:=nD he
      exact⟨⟨_,by simp only[fU,C.val?,h1];rfl⟩,⟨_,by simp only[fU,C.val?,h2];rfl⟩⟩
    · simp at h
  · simp only[Option.map_eq_some_iff]at h
    obtain⟨e,he,_⟩:=h
    obtain⟨⟨vs,h1⟩,⟨us,h2⟩⟩:=nD he
    exact⟨⟨_,by simp only[fU,C.val?,h1];rfl⟩,⟨_,by simp only[fU,C.val?,h2];rfl⟩⟩
  · simp only[Option.map_eq_some_iff]at h
    obtain⟨e,he,_⟩:=h
    obtain⟨⟨vs,h1⟩,⟨us,h2⟩⟩:=nD he
    exact⟨⟨_,by simp only[fU,C.val?,h1];rfl⟩,⟨_,by simp only[fU,C.val?,h2];rfl⟩⟩
  · simp at h
theorem jp {t:TypeId} {ks:List Nat} {cs ds:List C} {vs us:List Value} {b:Bool} (hi:o3 P t=some ks) (he:pW ks cs ds=some b) (h1:fU cs=some vs) (h2:fU ds=some us):
 aH P (Op.equal t (.agg vs.toArray) (.agg us.toArray))=some b∧P.eqGuardType P.depth t=false:=by
 unfold o3 at hi
 split at hi
 · rename_i fs hu
   split at hi
   · rename_i hc
     refine⟨?_,hc.2⟩
     show aH P (Op.equalIn (9998+1+1) t _ _)=_
     rw[qC _ t _ _ hu hc.1]
     exact od hi he (fun i c hc=>by simpa using tO h1 i c hc) (fun i c hc=>by simpa using tO h2 i c hc)
   · simp at hi
 · simp at hi
end Go.aS
end
section
namespace Go.aS
open Go
inductive dO where
 |t (n:Nat)
 |c (v:V)
inductive Ro where
 |Sk (x:dO)
 |pick (c x y:dO)
 |alloc (z:List C)
 |box (x:dO)
 |build (z:List C) (ps:List (Nat×Nat×dO))
 |vN (z:List C) (len:Nat) (ps:List (Nat×dO))
 |load (n:Option Nat) (x:dO)
 |store (n:Nat) (x y:dO)
 |Bh (off:Nat) (x:dO)
 |field (off:Nat) (n:Option Nat) (x:dO)
 |AS (size:Nat) (x i:dO)
 |uT (len size:Nat) (x i:dO)
 |slice (size:Nat) (x:dO) (lo hi:Option dO)
 |make (z:List C) (bytes:Nat) (l c:dO)
 |extract (x:dO) (k:Nat)
 |jY (f:FuncId) (cZ:List dO)
 |len (x:dO)
 |append (size bytes:Nat) (s x:dO)
 |bin (op:BinOp) (x y:dO)
 |Ic (op:BinOp) (x y:dO)
 |not (x:dO)
 |neg (x:dO)
 |conv (k:IntKind) (x:dO)
 |Ia (x:dO)
 |NS (neg:Bool) (ks:List Nat) (x y:dO)
 |En (x y:dO)
 |Eo (x y:dO)
 |Ep (x:dO)
 |Gb (x i:dO)
 |call (f:FuncId) (args:List dO)
 |jZ (x:dO) (args:List dO)
 |raw (op:Op) (ty:TypeId)
structure kr where
 dst:Option Nat
 guard:Option (Nat×Bool)
 op:Ro
def dm:Operand→dO
 | .tmp t=> .t t
 | .const v=> .c (V.ofValue v)
 | .global g=> .c (Hw g)
 | .func f=> .c (V.ofValue (.func (.func f) #[] #[]))
def dO.get (tm:List (Nat×V)):dO→V
 | .t n=>(find tm n).getD .undef
 | .c v=>v
theorem bh (st:St) (x:Operand):(dm x).get st.tmps=st.get x:=by cases x<;>rfl
def B4 (P:Program) (t:TypeId):Option (Option Nat):=
 match iQ P t with
 |some true=>match cG P t with
  |some n=>some (some n)
  |none=>none
 |some false=>some none
 |none=>none
def mH (place:Nat→Option (Nat×Nat)):List (Nat×Operand)→Option (List (Nat×Nat×dO))
 | []=>some []
 |(i,x)::r=>match place i,mH place r with
  |some (off,size),some l=>some ((off,size,dm x)::l)
  |_,_=>none
def Cg (P:Program) (t:TypeId):Bool:=
 match P.underlying t with
 |some (.int _)|some .string=>true
 |_=>false
def aI (P:Program) (o:Oper):Option Ro:=
 match o.op with
 | .move x| .assign x=>some (.Sk (dm x))
 | .pick c x y=>some (.pick (dm c) (dm x) (dm y))
 | .alloc e=>(iR P e).map .alloc
 | .box _ x=>some (.box (dm x))
 | .build t ps=>
   match iR P t,P.underlying t with
   |some z,some (.struct fields)=>
    match placesOf P fields.toList with
    |some l=>(mH (fun i=>l[i]?) ps.toList).map (.build z)
    |none=>none
   |some z,some (.array _ e)=>
    match cG P e with
    |some size=>(mH (fun i=>some (i * size,size)) ps.toList).map (.build z)
    |none=>none
   |_,_=>none
 | .buildSlice t len ps=>
   match P.underlying t with
   |some (.slice e)=>
    match iR P e with
    |some z=>if len * z.length≤16777216∧0 < z.length then some (.vN z len (ps.toList.map fun p=>(p.1,dm p.2)))else none
    |none=>none
   |_=>none
 | .load t x=>(B4 P t).map fun n=> .load n (dm x)
 | .store t x y=>(cG P t).map fun n=> .store n (dm x) (dm y)
 | .fieldAddr s x f=>
   match P.underlying s with
   |some (.struct fields)=>
    match fields[f]? with
    |some fd=>
     match cG P fd.type with
     |some (_+1)=>some (.Bh fd.offset (dm x))
     |_=>none
    |none=>none
   |_=>none
 | .field t x f=>
   match P.underlying t with
   |some (.struct fields)=>
    match fields[f]? with
    |some fd=>(B4 P fd.type).map fun n=> .field fd.offset n (dm x)
    |none=>none
   |_=>none
 | .indexAddr t x i=>
   match P.underlying t with
   |some (.slice elem)=>(cG P elem).map fun size=> .AS size (dm x) (dm i)
   |some (.array len elem)=>(cG P elem).map fun size=> .uT len size (dm x) (dm i)
   |_=>none
 | .slice t x lo hi none=>
   match P.underlying t with
   |some (.slice elem)=>(cG P elem).map fun size=> .slice size (dm x) (lo.map dm) (hi.map dm)
   |_=>none
 | .makeSlice t l c=>
   match P.underlying t with
   |some (.slice e)=>
    match iR P e,mZ P e with
    |some z,some (_,bytes)=>some (.make z bytes (dm l) (dm c))
    |_,_=>none
   |_=>none
 | .extract x k=>some (.extract (dm x) k)
 | .makeFunc (.func f) first captured=>if first.isEmpty&& !captured.isEmpty then some (.jY f (captured.toList.map dm))else none
 | .call c=>
   match c.callee with
   | .builtin .len=>
     match c.args.toList,c.argTypes.toList with
     | [x],[t]=>
       match P.underlying t with
       |some (.slice _)=>some (.len (dm x))
       |some .string=>some (.Ep (dm x))
       |_=>none
     |_,_=>none
   | .builtin .min=>
     match c.args.toList with
     | [x,y]=>some (.En (dm x) (dm y))
     |_=>none
   | .builtin .max=>
     match c.args.toList with
     | [x,y]=>some (.Eo (dm x) (dm y))
     |_=>none
   | .builtin .append=>
     match c.args.toList,c.argTypes.toList with
     | [s,x],[t,t']=>
       if t=t' then
        match P.underlying t with
        |some (.slice e)=>match mZ P e with
         |some (size,bytes)=>some (.append size bytes (dm s) (dm x))
         |none=>none
        |_=>none
       else none
     |_,_=>none
   | .value (.func f)=>if enters P f then some (.call f (c.args.toList.map dm))else none
   |_=>none
 | .binOp op t x y _=>
   if Cg P t then some (.bin op (dm x) (dm y))else
   match P.underlying t with
   |some .bool=>some (.Ic op (dm x) (dm y))
   |some (.struct _)=>match op,o3 P t with
    | .eql,some ks=>some (.NS false ks (dm x) (dm y))
    | .neq,some ks=>some (.NS true ks (dm x) (dm y))
    |_,_=>none
   |_=>none
 | .index t x i=>
   match P.underlying t with
   |some .string=>some (.Gb (dm x) (dm i))
   |_=>none
 | .unOp .not _ x=>some (.not (dm x))
 | .unOp .neg _ x=>some (.neg (dm x))
 | .convert src dst x=>
   match P.underlying src,P.underlying dst with
   |some (.int _),some (.int k)=>some (.conv k (dm x))
   |some (.slice e),some .string=>match P.underlying e with
    |some (.int .u8)=>some (.Ia (dm x))
    |_=>none
   |_,_=>none
 |_=>none
def Ar (o:Oper):Ro:=
 match o.op with
 | .call ⟨.value (.tmp t),args,_⟩=> .jZ (.t t) (args.toList.map dm)
 |op=> .raw op o.type
def JD (op:Op):Bool:=
 match op with
 | .buildSlice t len _=>RN t len
 | .slice t (.tmp x) none (some (.tmp h)) none=>RL t x h
 |_=>false
def lu (P:Program) (o:Oper):Option Ro:=
 match JD o.op with
 |true=>none
 |false=>aI P o
theorem dG {P:Program} {o:Oper} {r:Ro} (h:lu P o=some r):aI P o=some r:=by
 unfold lu at h
 split at h
 · simp at h
 · exact h
def aY (P:Program) (o:Oper):Option Ro:=
 match lu P o with
 |some r=>some r
 |none=>some (Ar o)
theorem kz (o:Oper):(∃t args ia,o.op= .call ⟨.value (.tmp t),args,ia⟩∧Ar o= .jZ (.t t) (args.toList.map dm))∨Ar o= .raw o.op o.type:=by
 unfold Ar
 split
 · rename_i t args ia h
   exact .inl ⟨t,args,ia,h,rfl⟩
 · exact .inr rfl
def N4 (op:BinOp) (k:IntKind) (x y:Int):Option Value:=
 match op with
 | .add=>some (.int k (k.wrap (x+y)))
 | .sub=>some (.int k (k.wrap (x - y)))
 | .mul=>some (.int k (k.wrap (x * y)))
 | .eql=>some (.bool (x==y))
 | .neq=>some (.bool (x !=y))
 | .lss=>some (.bool (decide (x < y)))
 | .leq=>some (.bool (decide (x≤y)))
 | .gtr=>some (.bool (decide (x > y)))
 | .geq=>some (.bool (decide (x≥y)))
 |_=>none
abbrev iV (k:IntKind) (n:Int):V:= .w (.one (.t (.val (.int k n))))
abbrev bV (b:Bool):V:= .w (.one (.t (.val (.bool b))))
def wL {α:Sort _} (c:C) (k:C→α):α:=
 match c with
 | .t (.val (.int j n))=>k (.t (.val (.int j n)))
 | .t (.val (.bool b))=>k (.t (.val (.bool b)))
 | .t (.val (.string s))=>k (.t (.val (.string s)))
 | .t (.val v)=>k (.t (.val v))
 | .t (.av sz xs)=>k (.t (.av sz xs))
 | .own id sz i len=>k (.own id sz i len)
 | .ptr id sz i j=>k (.ptr id sz i j)
 | .rG e j=>k (.rG e j)
 | .jY f cZ=>k (.jY f cZ)
 | .map id=>k (.map id)
 | .it id=>k (.it id)
 | .kP f g ts=>k (.kP f g ts)
 | .pk ts=>k (.pk ts)
 | .any=>k .any
theorem jV {α:Sort _} (c:C) (k:C→α):wL c k=k c:=by
 unfold wL
 split<;>rfl
def rY {α:Sort _} (v:V) (k:V→α):α:=
 match v with
 | .w (.one c)=>wL c fun c=>k (.w (.one c))
 | .w (.agg cs)=>k (.w (.agg cs))
 | .dQ ws=>k (.dQ ws)
 | .undef=>k .undef
theorem dN {α:Sort _} (v:V) (k:V→α):rY v k=k v:=by
 unfold rY
 split
 · rw[jV]
 all_goals rfl
abbrev TS:=List (Nat×V)
abbrev HS:=List (Nat×bi)
def eL (tm:TS) (dst:Option Nat) (v:V):TS:=
 match dst with
 |some d=>(d,v)::tm
 |none=>tm
theorem tw (st:St) (dst:Option Tmp) (v:V) (hp:HS):St.put {st with heap:=hp} dst v=⟨st.n,eL st.tmps dst v,hp⟩:=by cases dst<;>rfl
theorem kA (st:St) (dst:Option Tmp) (v:V):St.put st dst v=⟨st.n,eL st.tmps dst v,st.heap⟩:=by cases dst<;>rfl
end Go.aS
end
section
namespace Go.aS
open Go
def gm {α:Type} {β:Sort _}:List α→(List α→β)→β
 | [],k=>k []
 |x::r,k=>gm r fun r=>k (x::r)
theorem cu {α:Type} {β:Sort _}: ∀ (l:List α) (k:List α→β),gm l k=k l
 | [],_=>rfl
 |x::r,k=>by simp only[gm];rw[cu r]
def br (b:Bool) (x y:Prop):Prop:=match b with|true=>x|false=>y
theorem aG {b:Bool} {x y:Prop} (hx:b=true→x) (hy:b=false→y):br b x y:=by
 cases b
 · exact hy rfl
 · exact hx rfl
theorem jd {b:Bool} {x y:Prop} (h:br b x y):(b=true∧x)∨(b=false∧y):=by
 cases b
 · exact .inr ⟨rfl,h⟩
 · exact .inl ⟨rfl,h⟩
def Fw (v:Option V) (d:Nat) (K:Nat→Prop):Prop:=
 match v with
 |none=>K d
 |some v=>match v.fm with
  |some (_,n)=>0≤n∧K n.toNat
  |none=>False
theorem BE {v:Option V} {d:Nat} {K:Nat→Prop} (h:Fw v d K): ∃l,fA v d=some l∧K l:=by
 unfold Fw at h
 split at h
 · exact⟨d,rfl,h⟩
 · split at h
   · rename_i k n hn
     exact⟨n.toNat,by simp only[fA,hn,if_pos h.1],h.2⟩
   · exact h.elim
theorem D1 {v:Option V} {d l:Nat} {K:Nat→Prop} (h:fA v d=some l) (hk:K l):Fw v d K:=by
 unfold fA at h
 unfold Fw
 split at h
 · simp only[Option.some.injEq]at h;subst h;exact hk
 · split at h
   · rename_i k n hn
     split at h
     · rename_i h0
       simp only[Option.some.injEq]at h
       subst h
       try simp only[hn]
       exact⟨h0,hk⟩
     · simp at h
   · simp at h
def qG (tm:List (Nat×V)):List (Nat×dO)→Option (List (Nat×W))
 | []=>some []
 |(i,x)::r=>match x.get tm,qG tm r with
  | .w u,some l=>some ((i,u)::l)
  |_,_=>none
def vw (tm:List (Nat×V)) (cells:List C):List (Nat×Nat×dO)→Option (List C)
 | []=>some cells
 |(off,size,x)::rest=>
  match x.get tm with
  | .w u=>if(cellsOf u).length=size∧off+size≤cells.length then vw tm (aX cells off (cellsOf u)) rest else none
  |_=>none
def xZ (tm:List (Nat×V)):List dO→Option (List (Nat×Nat×Nat×Nat))
 | []=>some []
 |x::r=>match x.get tm,xZ tm r with
  | .w (.one (.ptr id sz i j)),some l=>some ((id,sz,i,j)::l)
  |_,_=>none
def rK (n:Option Nat) (cs:List C) (j:Nat) (K:V→Prop):Prop:=
 match n with
 |some n=>if j+n≤cs.length then gm ((cs.drop j).take n) fun l=>K (.w (.agg l))else False
 |none=>match cs[j]? with
  |some c=>wL c fun c=>K (.w (.one c))
  |none=>False
def q9 (hp:List (Nat×bi)) (x:C):Option (Nat×List (List C)):=
 match x with
 | .t (.val (.slice none 0 0))=>some (0,[])
 |x=>elems hp x
theorem Ft (hp:List (Nat×bi)) (x:C):q9 hp x=if isNil x then some (0,[])else elems hp x:=by
 unfold q9
 split
 · rfl
 · rename_i hne
   have:isNil x=false:=by
    unfold isNil
    split
    · exact absurd rfl hne
    · rfl
   rw[this];rfl
def sK (xs:List (List C)) (i:Nat) (K:List C→Prop):Prop:=
 match xs[i]? with
 |some el=>K el
 |none=>False
def rf (c:C) (l h:Nat) (K:C→Prop):Prop:=
 match wT c l h with
 |some d=>K d
 |none=>False
def XR (r:Ro) (tm:List (Nat×V)) (hp:List (Nat×bi)) (nid:Nat) (K:V→List (Nat×bi)→Prop):Prop:=
 match r with
 | .Sk x=>rY (x.get tm) fun v=>K v hp
 | .pick c x y=>match(c.get tm).gk with
   |some b=>br b (rY (x.get tm) fun v=>K v hp) (rY (y.get tm) fun v=>K v hp)
   |none=>False
 | .alloc z=>K (.w (.one (.ptr nid z.length 0 0))) ((nid, .row z.length [z])::hp)
 | .box x=>match x.get tm with
   | .w u=>gm (cellsOf u) fun cs=>K (.w (.one (.ptr nid cs.length 0 0))) ((nid, .row cs.length [cs])::hp)
   |_=>False
 | .build z ps=>match vw tm z ps with
   |some cs=>gm cs fun cs=>K (.w (.agg cs)) hp
   |none=>False
 | .vN z len ps=>match qG tm ps with
   |some l=>match oc z.length (List.replicate len z) l with
    |some xs=>gm xs fun xs=>K (.w (.one (.own nid z.length 0 len))) ((nid, .row z.length xs)::hp)
    |none=>False
   |none=>False
 | .load n x=>match x.get tm with
   | .w (.one (.ptr id sz i j))=>match find hp id with
     |some (.row sz' xs)=>if sz'=sz then sK xs i fun cs=>rK n cs j fun v=>K v hp else False
     |_=>False
   | .w (.one c)=>match deref hp c with
     |some (cs,j)=>rK n cs j fun v=>K v hp
     |none=>False
   |_=>False
 | .store n x y=>match x.get tm,y.get tm with
   | .w (.one (.ptr id sz i j)), .w u=>match find hp id with
     |some (.row sz' xs)=>sK xs i fun el=>if sz'=sz∧(cellsOf u).length=n∧j+n≤el.length then
       gm (aX el j (cellsOf u)) fun BX=>gm (jJ hp id (.row sz (xs.set i BX))) fun h=>K .undef h
       else False
     |_=>False
   |_,_=>False
 | .Bh off x=>match x.get tm with
   | .w (.one (.ptr id sz i j))=>K (.w (.one (.ptr id sz i (j+off)))) hp
   | .w (.one (.rG e j))=>K (.w (.one (.rG e (j+off)))) hp
   |_=>False
 | .field off n x=>match x.get tm with
   | .w (.agg cs)=>rK n cs off fun v=>K v hp
   |_=>False
 | .AS size x i=>match x.get tm,(i.get tm).fm with
   | .w (.one (.own id sz i0 len)),some (_,n)=>if sz=size then(0≤n∧n < len)∧K (.w (.one (.ptr id sz (i0+n.toNat) 0))) hp else False
   | .w (.one (.t (.av sz xs))),some (_,n)=>if sz=size then 0≤n∧ ∃e,xs[n.toNat]? =some e∧K (.w (.one (.rG e 0))) hp else False
   |_,_=>False
 | .uT len size x i=>match x.get tm,(i.get tm).fm with
   | .w (.one c),some (_,n)=>match c.shift (n.toNat * size)with
     |some d=>(0≤n∧n < len)∧K (.w (.one d)) hp
     |none=>False
   |_,_=>False
 | .slice size x lo hi=>match x.get tm with
   | .w (.one c)=>match c.uO,c.Ml with
     |some len,some sz=>if sz=size then Fw (lo.map (·.get tm)) 0 fun l=>Fw (hi.map (·.get tm)) len fun h=>(l≤h∧h≤len)∧rf c l h fun d=>K (.w (.one d)) hp
      else False
     |_,_=>False
   |_=>False
 | .make z bytes l c=>match(l.get tm).fm,(c.get tm).fm with
   |some (_,l),some (_,c)=>(0≤l∧l≤c∧c≤4611686018427387904∧c * bytes≤281474976710656)∧
     K (.w (.one (.own nid z.length 0 l.toNat))) ((nid, .row z.length (List.replicate l.toNat z))::hp)
   |_,_=>False
 | .extract x k=>match x.get tm with
   | .dQ ws=>match ws[k]? with
     |some u=>rY (.w u) fun v=>K v hp
     |none=>False
   |_=>False
 | .jY f cZ=>match xZ tm cZ with
   |some l=>K (.w (.one (.jY f l))) hp
   |none=>False
 | .len x=>match x.get tm with
   | .w (.one c)=>match c.uO with
     |some n=>K (iV .i64 (n:Int)) hp
     |none=>False
   |_=>False
 | .append size bytes s x=>match s.get tm,x.get tm with
   | .w (.one s), .w (.one x)=>match q9 hp x with
     |some (_,[])=>match s.uO with
      |some _=>wL s fun s=>K (.w (.one s)) hp
      |none=>False
     |some (sz,y::ys)=>match s with
      | .own id sz' 0 len=>match find hp id with
        |some (.row cV xs)=>
         if sz=size∧sz'=size∧cV=size then(len=xs.length∧(xs.length+(ys.length+1)) * bytes≤aU∧xs.length+(ys.length+1)≤maxLen)∧
          gm (del hp id) fun hp=>K (.w (.one (.own nid size 0 (xs.length+(ys.length+1))))) ((nid, .row size (xs++y::ys))::hp)
         else False
        |_=>False
      | .t (.val (.slice none 0 0))=>if sz=size then((ys.length+1) * bytes≤aU∧ys.length+1≤maxLen)∧
         K (.w (.one (.own nid size 0 (ys.length+1)))) ((nid, .row size (y::ys))::hp)else False
      |_=>False
     |none=>False
   |_,_=>False
 | .bin op x y=>match x.get tm,y.get tm with
   | .w (.one (.t (.val (.int k a)))), .w (.one (.t (.val (.int k' b))))=>
     if k=k' then match op with
      | .quo=>b≠0∧K (iV k (k.wrap (a.tdiv b))) hp
      | .rem=>b≠0∧K (iV k (a.tmod b)) hp
      | .shl=>0≤b∧K (iV k (k.wrap (a * 2 ^ (min b.toNat k.bits)))) hp
      | .shr=>0≤b∧K (iV k (a.fdiv (2 ^ (min b.toNat k.bits)))) hp
      | .and=>K (iV k (k.wrap (BitVec.ofInt k.bits a&&& BitVec.ofInt k.bits b).toNat)) hp
      | .or=>K (iV k (k.wrap (BitVec.ofInt k.bits a|||BitVec.ofInt k.bits b).toNat)) hp
      |op=>match N4 op k a b with
       |some (.int j n)=>K (iV j n) hp
       |some (.bool c)=>K (bV c) hp
       |_=>False
     else match op with
      | .shl=>0≤b∧K (iV k (k.wrap (a * 2 ^ (min b.toNat k.bits)))) hp
      | .shr=>0≤b∧K (iV k (a.fdiv (2 ^ (min b.toNat k.bits)))) hp
      |_=>False
   | .w (.one (.t (.val (.string a)))), .w (.one (.t (.val (.string b))))=>match op with
     | .add=>a.size+b.size≤9223372036854775807∧K (.w (.one (.t (.val (.string (a++b)))))) hp
     | .eql=>K (bV (a.toList==b.toList)) hp
     | .neq=>K (bV (!(a.toList==b.toList))) hp
     |_=>False
   |_,_=>False
 | .Ic op x y=>match(x.get tm).gk,(y.get tm).gk with
   |some a,some b=>match op with
    | .eql=>K (bV (a==b)) hp
    | .neq=>K (bV (!(a==b))) hp
    |_=>False
   |_,_=>False
 | .NS neg ks x y=>match x.get tm,y.get tm with
   | .w (.agg cs), .w (.agg ds)=>match pW ks cs ds with
     |some b=>match neg with
      |true=>K (bV (!b)) hp
      |false=>K (bV b) hp
     |none=>False
   |_,_=>False
 | .En x y=>match(x.get tm).fm,(y.get tm).fm with
   |some (k,a),some (_,b)=>K (iV k (if b < a then b else a)) hp
   |_,_=>False
 | .Eo x y=>match(x.get tm).fm,(y.get tm).fm with
   |some (k,a),some (_,b)=>K (iV k (if b > a then b else a)) hp
   |_,_=>False
 | .Ep x=>match x.get tm with
   | .w (.one (.t (.val (.string s))))=>K (iV .i64 (s.size:Int)) hp
   |_=>False
 | .Gb x i=>match x.get tm,(i.get tm).fm with
   | .w (.one (.t (.val (.string s)))),some (_,n)=>0≤n∧ ∃b,s[n.toNat]? =some b∧K (iV .u8 (b.toNat:Int)) hp
   |_,_=>False
 | .not x=>match(x.get tm).gk with
   |some b=>K (bV (!b)) hp
   |none=>False
 | .neg x=>match(x.get tm).fm with
   |some (k,n)=>K (iV k (k.wrap (0 - n))) hp
   |none=>False
 | .conv k x=>match(x.get tm).fm with
   |some (_,n)=>K (iV k (k.wrap n)) hp
   |none=>False
 | .Ia x=>match x.get tm with
   | .w (.one (.own id sz i len))=>match elems hp (.own id sz i len)with
     |some (1,y::ys)=>match yb (y::ys)with
      |some ns=>K (.w (.one (.t (.val (.string (strOfNums ns)))))) hp
      |none=>False
     |_=>False
   |_=>False
 |_=>False
variable {P:Program} {st:St}
theorem xA (st:St): ∀ (ps:List (Nat×Operand)),qG st.tmps (ps.map fun p=>(p.1,dm p.2))=fQ st.get ps
 | []=>rfl
 |(i,x)::r=>by simp only[List.map_cons,qG,fQ,bh,xA st r]<;>rfl
theorem mU {place:Nat→Option (Nat×Nat)}: ∀ {ps:List (Nat×Operand)} {l:List (Nat×Nat×dO)} {z cs:List C},mH place ps=some l→vw st.tmps z l=some cs→
 ∃us,fQ st.get ps=some us∧sj place z us=some cs
 | [],l,z,cs,h,hf=>by
   simp only[mH,Option.some.injEq]at h
   subst h
   simp only[vw,Option.some.injEq]at hf
   subst hf
   exact⟨[],rfl,rfl⟩
 |(i,x)::r,l,z,cs,h,hf=>by
  simp only[mH]at h
  split at h
  · rename_i off size l' hp hl
    simp only[Option.some.injEq]at h
    subst h
    simp only[vw,bh]at hf
    split at hf
    · rename_i u hu
      split at hf
      · rename_i hc
        obtain⟨us,h1,h2⟩:=mU hl hf
        exact⟨(i,u)::us,by simp only[fQ,hu,h1],by simp only[sj,hp,if_pos hc,h2]⟩
      · simp at hf
    · simp at hf
  · simp at h
theorem BC (st:St): ∀ (xs:List Operand),xZ st.tmps (xs.map dm)=wv st.get xs
 | []=>rfl
 |x::r=>by simp only[List.map_cons,xZ,wv,bh,BC st r]<;>rfl
theorem jO {t:TypeId} {n:Option Nat} {cs:List C} {j:Nat} {K:V→Prop} (hn:B4 P t=some n) (h:rK n cs j K): ∃u,js P t cs j=some u∧K (.w u):=by
 unfold B4 at hn
 split at hn
 · rename_i hagg
   split at hn
   · rename_i m hm
     simp only[Option.some.injEq]at hn
     subst hn
     simp only[rK]at h
     split at h
     · rename_i hle
       rw[cu]at h
       exact⟨_,by simp only[js,hagg,hm,if_pos hle],h⟩
     · exact h.elim
   · simp at hn
 · rename_i hagg
   simp only[Option.some.injEq]at hn
   subst hn
   simp only[rK]at h
   split at h
   · rename_i c hc
     rw[jV]at h
     exact⟨.one c,by simp only[js,hagg,hc,Option.map_some],h⟩
   · exact h.elim
 · simp at hn
theorem kH {v:V} {k:IntKind} {n:Int} (hb:v.fm =some (k,n)):v=iV k n:=by
 unfold V.fm at hb
 split at hb
 · simp only[Option.some.injEq,Prod.mk.injEq]at hb
   obtain⟨rfl,rfl⟩:=hb
   rfl
 · simp at hb
theorem yc {v:V} {b:Bool} (hb:v.gk =some b):v=bV b:=by
 unfold V.gk at hb
 split at hb
 · simp only[Option.some.injEq]at hb
   subst hb
   rfl
 · simp at hb
theorem mE {P:Program} {get:Operand→V} {o:Oper} {op:BinOp} {t t':TypeId} {x y:Operand} {a b v:Value} (ho:o.op= .binOp op t x y t') (hx:(get x).val? =some a) (hy:(get y).val? =some b)
 (h:aH P (execOp (fun x=>((get x).val?).getD undef) o)=some (.value v)):bg P get o=some (V.ofValue v):=by
 have hall:(fG o.op&&o.op.operands.toList.all fun x=>(get x).val?.isSome)=true:=by simp[ho,fG,Op.operands,hx,hy]
 simp only[bg,hall,if_true,h]
theorem Fy {o:Oper} {r:Ro} {nid:Nat} {K:V→List (Nat×bi)→Prop} (hr:aI P o=some r) (h:XR r st.tmps st.heap nid K):
 bK st.get o=none∧ ∃v heap',ai P st.get st.heap nid o=some (v,heap')∧K v heap':=by
 obtain⟨dst,op,ty,pos,after,guard⟩:=o
 cases op with
 |move x=>
  simp only[aI,Option.some.injEq]at hr
  subst hr
  simp only[XR,dN,bh]at h
  exact⟨rfl,_,_,rfl,h⟩
 |assign x=>
  simp only[aI,Option.some.injEq]at hr
  subst hr
  simp only[XR,dN,bh]at h
  exact⟨rfl,_,_,rfl,h⟩
 |pick c x y=>
  simp only[aI,Option.some.injEq]at hr
  subst hr
  simp only[XR,dN,bh]at h
  split at h
  · rename_i b hb
    refine⟨rfl,if b then st.get x else st.get y,st.heap,by simp only[ai,hb],?_⟩
    rcases jd h with⟨rfl,h⟩|⟨rfl,h⟩
    · exact h
    · exact h
  · exact h.elim
 |alloc e=>
  simp only[aI,Option.map_eq_some_iff]at hr
  obtain⟨z,hz,rfl⟩:=hr
  simp only[XR]at h
  exact⟨rfl,_,_,by simp only[ai,kO,hz,Option.map_some],h⟩
 |box e x=>
  simp only[aI,Option.some.injEq]at hr
  subst hr
  simp only[XR,cu,bh]at h
  split at h
  · rename_i u hu
    exact⟨rfl,_,_,by simp only[ai,pV,hu,Option.map_some],h⟩
  · exact h.elim
 |build t ps=>
  simp only[aI]at hr
  split at hr
  · rename_i z fields hz hu
    split at hr
    · rename_i l hl
      simp only[Option.map_eq_some_iff]at hr
      obtain⟨qs,hq,rfl⟩:=hr
      simp only[XR,cu]at h
      split at h
      · rename_i cs hcs
        obtain⟨us,h1,h2⟩:=mU hq hcs
        exact⟨rfl,_,_,by simp only[ai,kN,h1,hz,hu,hl,h2,Option.map_some],h⟩
      · exact h.elim
    · simp at hr
  · rename_i z n e hz hu
    split at hr
    · rename_i size hs
      simp only[Option.map_eq_some_iff]at hr
      obtain⟨qs,hq,rfl⟩:=hr
      simp only[XR,cu]at h
      split at h
      · rename_i cs hcs
        obtain⟨us,h1,h2⟩:=mU hq hcs
        exact⟨rfl,_,_,by simp only[ai,kN,h1,hz,hu,hs,h2,Option.map_some],h⟩
      · exact h.elim
    · simp at hr
  · simp at hr
 |buildSlice t len ps=>
  simp only[aI]at hr
  split at hr
  · rename_i e hu
    split at hr
    · rename_i z hz
      split at hr
      · rename_i hc
        simp only[Option.some.injEq]at hr
        subst hr
        simp only[XR,cu,xA]at h
        split at h
        · rename_i l hl
          split at h
          · rename_i xs hxs
            exact⟨rfl,_,_,by simp only[ai,dw,hl,hu,hz,if_pos hc,hxs,Option.map_some],h⟩
          · exact h.elim
        · exact h.elim
      · simp at hr
    · simp at hr
  · simp at hr
 |load t x=>
  simp only[aI,Option.map_eq_some_iff]at hr
  obtain⟨n,hn,rfl⟩:=hr
  simp only[XR,bh]at h
  split at h
  · rename_i id sz i j hc
    split at h
    · rename_i sz' xs hf
      split at h
      · rename_i hs
        unfold sK at h
        split at h
        · rename_i el hel
          have hd:deref st.heap (.ptr id sz i j)=some (el,j):=by simp only[deref,hf,if_pos hs,hel,Option.map_some]
          obtain⟨u,hu,hK⟩:=jO hn h
          exact⟨rfl,_,_,by simp only[ai,dY,hc,hd,hu,Option.map_some],hK⟩
        · exact h.elim
      · exact h.elim
    · exact h.elim
  · rename_i c _ hc
    split at h
    · rename_i cs j hd
      obtain⟨u,hu,hK⟩:=jO hn h
      exact⟨rfl,_,_,by simp only[ai,dY,hc,hd,hu,Option.map_some],hK⟩
    · exact h.elim
  · exact h.elim
 |store t x y=>
  simp only[aI,Option.map_eq_some_iff]at hr
  obtain⟨n,hn,rfl⟩:=hr
  simp only[XR,bh,cu]at h
  split at h
  · rename_i id sz i j u hx hy
    split at h
    · rename_i sz' xs hf
      unfold sK at h
      split at h
      · rename_i el hel
        split at h
        · rename_i hc
          exact⟨rfl,_,_,by simp only[ai,jh,hx,hy,hf,hn,hel,if_pos hc,Option.map_some],h⟩
        · exact h.elim
      · exact h.elim
    · exact h.elim
  · exact h.elim
 |fieldAddr s x f=>
  simp only[aI]at hr
  split at hr
  · rename_i fields hu
    split at hr
    · rename_i fd IJ
      split at hr
      · rename_i m hm
        simp only[Option.some.injEq]at hr
        subst hr
        simp only[XR,bh]at h
        split at h
        · rename_i id sz i j hx
          exact⟨rfl,_,_,by simp only[ai,fK,hx,hu,IJ,hm,C.shift,Option.map_some],h⟩
        · rename_i e j hx
          exact⟨rfl,_,_,by simp only[ai,fK,hx,hu,IJ,hm,C.shift,Option.map_some],h⟩
        · exact h.elim
      · simp at hr
    · simp at hr
  · simp at hr
 |field t x f=>
  simp only[aI]at hr
  split at hr
  · rename_i fields hu
    split at hr
    · rename_i fd IJ
      simp only[Option.map_eq_some_iff]at hr
      obtain⟨n,hn,rfl⟩:=hr
      simp only[XR,bh]at h
      split at h
      · rename_i cs hx
        obtain⟨u,hp,hK⟩:=jO hn h
        exact⟨rfl,_,_,by simp only[ai,nC,hx,hu,IJ,hp,Option.map_some],hK⟩
      · exact h.elim
    · simp at hr
  · simp at hr
 |indexAddr t x i=>
  simp only[aI]at hr
  split at hr
  · rename_i elem hu
    simp only[Option.map_eq_some_iff]at hr
    obtain⟨size,hs,rfl⟩:=hr
    simp only[XR,bh]at h
    split at h
    · rename_i id sz i0 len k n hx hi
      split at h
      · rename_i hsz
        obtain⟨hb,hK⟩:=h
        refine⟨rfl,_,_,?_,hK⟩
        simp only[ai,eI,hx,hi,hu,hs,elemAt,if_pos (⟨hsz,hb⟩:sz=size∧0≤n∧n < (len:Int)),Option.map_some]
      · exact h.elim
    · rename_i sz xs k n hx hi
      split at h
      · rename_i hsz
        obtain⟨h0,e,he,hK⟩:=h
        have hlt:n < (xs.length:Int):=by
         have:=(List.getElem?_eq_some_iff.1 he).1
         omega
        refine⟨rfl,_,_,?_,hK⟩
        simp only[ai,eI,hx,hi,hu,hs,elemAt,if_pos (⟨hsz,h0,hlt⟩:sz=size∧0≤n∧n < (xs.length:Int)),he,Option.map_some]
      · exact h.elim
    · exact h.elim
  · rename_i len elem hu
    simp only[Option.map_eq_some_iff]at hr
    obtain⟨size,hs,rfl⟩:=hr
    simp only[XR,bh]at h
    split at h
    · rename_i c k n hx hi
      split at h
      · rename_i d hd
        obtain⟨hb,hK⟩:=h
        refine⟨rfl,_,_,?_,hK⟩
        simp only[ai,eI,hx,hi,hu,hs,if_pos hb,hd,Option.map_some]
      · exact h.elim
    · exact h.elim
  · simp at hr
 |slice t x lo hi mx=>
  cases mx with
  |some m=>simp[aI]at hr
  |none=>
   simp only[aI]at hr
   split at hr
   · rename_i elem hu
     simp only[Option.map_eq_some_iff]at hr
     obtain⟨size,hs,rfl⟩:=hr
     have e1: ∀ (q:Option Operand),(q.map dm).map (·.get st.tmps)=q.map st.get:=by intro q;cases q<;>simp[bh]
     simp only[XR,bh,e1]at h
     split at h
     · rename_i c hx
       split at h
       · rename_i len sz hlen hsz
         split at h
         · rename_i hss
           obtain⟨l,hl,h⟩:=BE h
           obtain⟨hh,hhh,h⟩:=BE h
           obtain⟨⟨c1,c2⟩,h⟩:=h
           unfold rf at h
           split at h
           · rename_i d hd
             refine⟨rfl,_,_,?_,h⟩
             simp only[ai,nA,hx,hu,hlen,hl,hhh,hs,if_pos (⟨c1,c2,by rw[hsz,hss]⟩:l≤hh∧hh≤len∧c.Ml =some size),hd,Option.map_some]
           · exact h.elim
         · exact h.elim
       · exact h.elim
     · exact h.elim
   · simp at hr
 |makeSlice t l c=>
  simp only[aI]at hr
  split at hr
  · rename_i e hu
    split at hr
    · rename_i z size bytes hz hT
      simp only[Option.some.injEq]at hr
      subst hr
      simp only[XR,bh]at h
      split at h
      · rename_i k1 l' k2 c' hl hc
        obtain⟨xO,hK⟩:=h
        refine⟨rfl,_,_,?_,hK⟩
        simp only[ai,fJ,hu,hl,hc,hz,hT,if_pos xO,Option.map_some]
      · exact h.elim
    · simp at hr
  · simp at hr
 |extract x k=>
  simp only[aI,Option.some.injEq]at hr
  subst hr
  simp only[XR,bh,dN]at h
  split at h
  · rename_i ws hx
    split at h
    · rename_i u hu
      exact⟨rfl,_,_,by simp only[ai,hx,hu,Option.map_some],h⟩
    · exact h.elim
  · exact h.elim
 |makeFunc fn first captured=>
  cases fn with
  |func f=>
   simp only[aI]at hr
   split at hr
   · rename_i hc
     simp only[Option.some.injEq]at hr
     subst hr
     simp only[XR,BC]at h
     split at h
     · rename_i l hl
       exact⟨rfl,_,_,by simp only[ai,if_pos hc,hl],h⟩
     · exact h.elim
   · simp at hr
  |_=>simp[aI]at hr
 |unOp op t x=>
  cases op with
  |not=>
   simp only[aI,Option.some.injEq]at hr
   subst hr
   simp only[XR,bh]at h
   split at h
   · rename_i b hb
     have hv:(st.get x).val? =some (.bool b):=by
      unfold V.gk at hb
      split at hb
      · rename_i c heq
        simp only[Option.some.injEq]at hb
        subst hb
        rw[heq];rfl
      · simp at hb
     refine⟨rfl,_,_,?_,h⟩
     simp[ai,bg,fG,Op.operands,hv,execOp,Op.unary,aH,bind,Sem.bind,pure,V.ofValue]
   · exact h.elim
  |neg=>
   simp only[aI,Option.some.injEq]at hr
   subst hr
   simp only[XR,bh]at h
   split at h
   · rename_i k n hb
     have hv:(st.get x).val? =some (.int k n):=by
      unfold V.fm at hb
      split at hb
      · rename_i k' n' heq
        simp only[Option.some.injEq,Prod.mk.injEq]at hb
        obtain⟨rfl,rfl⟩:=hb
        rw[heq];rfl
      · simp at hb
     refine⟨rfl,_,_,?_,h⟩
     simp[ai,bg,fG,Op.operands,hv,execOp,Op.unary,Op.intArith,aH,bind,Sem.bind,pure,V.ofValue]
   · exact h.elim
  |_=>simp[aI]at hr
 |convert src dst' x=>
  simp only[aI]at hr
  split at hr
  · rename_i j k hs hu
    simp only[Option.some.injEq]at hr
    subst hr
    simp only[XR,bh]at h
    split at h
    · rename_i k' n hb
      have hv:=kH hb
      refine⟨rfl,_,_,?_,h⟩
      simp[ai,gi,bg,fG,Op.operands,hv,V.val?,W.val?,C.val?,execOp,convert,aJ,aN hs,aN hu,Conv.intToInt,aD,V.ofValue]
    · exact h.elim
  · rename_i e hs hu
    split at hr
    · rename_i he
      simp only[Option.some.injEq]at hr
      subst hr
      simp only[XR,bh]at h
      split at h
      · rename_i id sz i len hx
        split at h
        · rename_i y ys hel
          split at h
          · rename_i ns X8
            exact⟨rfl,_,_,by simp only[ai,gi,hx,hs,hu,he,hel,X8,Option.map_some],h⟩
          · exact h.elim
        · exact h.elim
      · exact h.elim
    · simp at hr
  · simp at hr
 |binOp op t x y t'=>
  simp only[aI]at hr
  split at hr
  · simp only[Option.some.injEq]at hr
    subst hr
    simp only[XR,bh]at h
    split at h
    · rename_i k a k' b hx hy
      split at h
      · rename_i hk
        subst hk
        have key: ∀ {v:Value},aH P (binOp op t (.int k a) (.int k b))=some v→cD v=true→ai P st.get st.heap nid ⟨dst, .binOp op t x y t',ty,pos,after,guard⟩=some (.w (.one (.t (.val v))),st.heap):=by
         intro v hv hc
         have hg:aH P (eqGuard op t x y (.int k a) (.int k b))=some ():=by
          unfold eqGuard
          cases op<;>rfl
         have h1:aH P (execOp (fun x=>((st.get x).val?).getD undef) ⟨dst, .binOp op t x y t',ty,pos,after,guard⟩)=some (.value v):=by
          simp only[execOp,hx,hy,V.val?,W.val?,C.val?,Option.getD_some,aJ,hg,Option.bind_some,hv,aD]
         have h2:=mE (P:=P) (get:=st.get) (o:=⟨dst, .binOp op t x y t',ty,pos,after,guard⟩) rfl (a:= .int k a) (b:= .int k b) (by rw[hx];rfl) (by rw[hy];rfl) h1
         have h3:V.ofValue v= .w (.one (.t (.val v))):=by cases v<;>first|rfl|(simp[Value.oneCell']at hc)
         simp only[ai,h2,Option.map_some,h3]
        split at h
        · obtain⟨h0,hK⟩:=h
          exact⟨rfl,_,_,key (v:= .int k (k.wrap (a.tdiv b))) (by simp[binOp,Op.intDiv,h0,aD]) rfl,hK⟩
        · obtain⟨h0,hK⟩:=h
          exact⟨rfl,_,_,key (v:= .int k (a.tmod b)) (by simp[binOp,Op.intDiv,h0,aD]) rfl,hK⟩
        · obtain⟨h0,hK⟩:=h
          have hn:¬b < 0:=by omega
          exact⟨rfl,_,_,key (v:= .int k (k.wrap (a * 2 ^ (min b.toNat k.bits)))) (by simp[binOp,Op.shift,hn,aD]) rfl,hK⟩
        · obtain⟨h0,hK⟩:=h
          have hn:¬b < 0:=by omega
          exact⟨rfl,_,_,key (v:= .int k (a.fdiv (2 ^ (min b.toNat k.bits)))) (by simp[binOp,Op.shift,hn,aD]) rfl,hK⟩
        · exact⟨rfl,_,_,key (v:= .int k (k.wrap (BitVec.ofInt k.bits a&&& BitVec.ofInt k.bits b).toNat)) (by simp[binOp,Op.intBits,aD]) rfl,h⟩
        · exact⟨rfl,_,_,key (v:= .int k (k.wrap (BitVec.ofInt k.bits a|||BitVec.ofInt k.bits b).toNat)) (by simp[binOp,Op.intBits,aD]) rfl,h⟩
        · have Tu: ∀v,N4 op k a b=some v→aH P (binOp op t (.int k a) (.int k b))=some v:=by
           intro v hv
           cases op<;>simp[N4]at hv<;>subst hv<;>simp[binOp,Op.intArith,Op.intCmp,aD]
          split at h
          · rename_i j n hb
            exact⟨rfl,_,_,key (Tu _ hb) rfl,h⟩
          · rename_i c hb
            exact⟨rfl,_,_,key (Tu _ hb) rfl,h⟩
          · exact h.elim
      · have key: ∀ {v:Value},aH P (binOp op t (.int k a) (.int k' b))=some v→cD v=true→(op= .shl∨op= .shr)→ai P st.get st.heap nid ⟨dst, .binOp op t x y t',ty,pos,after,guard⟩=some (.w (.one (.t (.val v))),st.heap):=by
         intro v hv hc hop
         have hg:aH P (eqGuard op t x y (.int k a) (.int k' b))=some ():=by
          unfold eqGuard
          rcases hop with rfl|rfl<;>rfl
         have h1:aH P (execOp (fun x=>((st.get x).val?).getD undef) ⟨dst, .binOp op t x y t',ty,pos,after,guard⟩)=some (.value v):=by
          simp only[execOp,hx,hy,V.val?,W.val?,C.val?,Option.getD_some,aJ,hg,Option.bind_some,hv,aD]
         have h2:=mE (P:=P) (get:=st.get) (o:=⟨dst, .binOp op t x y t',ty,pos,after,guard⟩) rfl (a:= .int k a) (b:= .int k' b) (by rw[hx];rfl) (by rw[hy];rfl) h1
         have h3:V.ofValue v= .w (.one (.t (.val v))):=by cases v<;>first|rfl|(simp[Value.oneCell']at hc)
         simp only[ai,h2,Option.map_some,h3]
        split at h
        · obtain⟨h0,hK⟩:=h
          have hn:¬b < 0:=by omega
          exact⟨rfl,_,_,key (v:= .int k (k.wrap (a * 2 ^ (min b.toNat k.bits)))) (by simp[binOp,Op.shift,hn,aD]) rfl (.inl rfl),hK⟩
        · obtain⟨h0,hK⟩:=h
          have hn:¬b < 0:=by omega
          exact⟨rfl,_,_,key (v:= .int k (a.fdiv (2 ^ (min b.toNat k.bits)))) (by simp[binOp,Op.shift,hn,aD]) rfl (.inr rfl),hK⟩
        · exact h.elim
    · rename_i a b hx hy
      have key: ∀ {v:Value},aH P (binOp op t (.string a) (.string b))=some v→cD v=true→ai P st.get st.heap nid ⟨dst, .binOp op t x y t',ty,pos,after,guard⟩=some (.w (.one (.t (.val v))),st.heap):=by
       intro v hv hc
       have hg:aH P (eqGuard op t x y (.string a) (.string b))=some ():=by
        unfold eqGuard
        cases op<;>rfl
       have h1:aH P (execOp (fun x=>((st.get x).val?).getD undef) ⟨dst, .binOp op t x y t',ty,pos,after,guard⟩)=some (.value v):=by
        simp only[execOp,hx,hy,V.val?,W.val?,C.val?,Option.getD_some,aJ,hg,Option.bind_some,hv,aD]
       have h2:=mE (P:=P) (get:=st.get) (o:=⟨dst, .binOp op t x y t',ty,pos,after,guard⟩) rfl (a:= .string a) (b:= .string b) (by rw[hx];rfl) (by rw[hy];rfl) h1
       have h3:V.ofValue v= .w (.one (.t (.val v))):=by cases v<;>first|rfl|(simp[Value.oneCell']at hc)
       simp only[ai,h2,Option.map_some,h3]
      split at h
      · obtain⟨h0,hK⟩:=h
        have hn:¬ ((a.size+b.size:Nat):Int) > IntKind.i64.max:=by simp[IntKind.max,IntKind.bits,IntKind.signed];omega
        exact⟨rfl,_,_,key (v:= .string (a++b)) (by simp only[binOp,Op.stringOp,if_neg hn,aD]) rfl,hK⟩
      · exact⟨rfl,_,_,key (v:= .bool (a.toList==b.toList)) (by simp[binOp,Op.stringOp,aD]) rfl,h⟩
      · exact⟨rfl,_,_,key (v:= .bool (!(a.toList==b.toList))) (by simp[binOp,Op.stringOp,aD]) rfl,h⟩
      · exact h.elim
    · exact h.elim
  · split at hr
    · rename_i hu
      simp only[Option.some.injEq]at hr
      subst hr
      simp only[XR,bh]at h
      split at h
      · rename_i a b hx hy
        have hx:=yc hx
        have hy:=yc hy
        have key: ∀ {v:Value},aH P (binOp op t (.bool a) (.bool b))=some v→cD v=true→ai P st.get st.heap nid ⟨dst, .binOp op t x y t',ty,pos,after,guard⟩=some (.w (.one (.t (.val v))),st.heap):=by
         intro v hv hc
         have hg:aH P (eqGuard op t x y (.bool a) (.bool b))=some ():=by
          unfold eqGuard
          cases op<;>rfl
         have h1:aH P (execOp (fun x=>((st.get x).val?).getD undef) ⟨dst, .binOp op t x y t',ty,pos,after,guard⟩)=some (.value v):=by
          simp only[execOp,hx,hy,V.val?,W.val?,C.val?,Option.getD_some,aJ,hg,Option.bind_some,hv,aD]
         have h2:=mE (P:=P) (get:=st.get) (o:=⟨dst, .binOp op t x y t',ty,pos,after,guard⟩) rfl (a:= .bool a) (b:= .bool b) (by rw[hx];rfl) (by rw[hy];rfl) h1
         have h3:V.ofValue v= .w (.one (.t (.val v))):=by cases v<;>first|rfl|(simp[Value.oneCell']at hc)
         simp only[ai,h2,Option.map_some,h3]
        have heq:aH P (Op.equal t (.bool a) (.bool b))=some (a==b):=by
         show aH P (Op.equalIn 10000 t (.bool a) (.bool b))=_
         unfold Op.equalIn
         rw[aJ,aN hu]
         rfl
        split at h
        · exact⟨rfl,_,_,key (v:= .bool (a==b)) (by simp[binOp,dh,heq]) rfl,h⟩
        · exact⟨rfl,_,_,key (v:= .bool (!(a==b))) (by simp[binOp,dh,heq]) rfl,h⟩
        · exact h.elim
      · exact h.elim
    · rename_i fs hu
      have both: ∀ {neg:Bool} {ks:List Nat},o3 P t=some ks→XR (.NS neg ks (dm x) (dm y)) st.tmps st.heap nid K→(op=if neg then .neq else .eql)→
       bK st.get ⟨dst, .binOp op t x y t',ty,pos,after,guard⟩=none∧ ∃v heap',ai P st.get st.heap nid ⟨dst, .binOp op t x y t',ty,pos,after,guard⟩=some (v,heap')∧K v heap':=by
       intro neg ks hks h hop
       simp only[XR,bh]at h
       split at h
       · rename_i cs ds hx hy
         split at h
         · rename_i b hb
           obtain⟨⟨vs,hvs⟩,⟨us,fR⟩⟩:=nD hb
           obtain⟨heq,hgt⟩:=jp hks hb hvs fR
           have hxv:(st.get x).val? =some (.agg vs.toArray):=by rw[hx];simp only[V.val?,W.val?,hvs,Option.map_some]
           have UJ:(st.get y).val? =some (.agg us.toArray):=by rw[hy];simp only[V.val?,W.val?,fR,Option.map_some]
           have key: ∀ {c:Bool},aH P (binOp op t (.agg vs.toArray) (.agg us.toArray))=some (.bool c)→ai P st.get st.heap nid ⟨dst, .binOp op t x y t',ty,pos,after,guard⟩=some (bV c,st.heap):=by
            intro c hv
            have Hg:aH P program=some P:=rfl
            have hg:aH P (eqGuard op t x y (.agg vs.toArray) (.agg us.toArray))=some ():=by
             unfold eqGuard
             cases neg<;>simp only[hop]<;>simp[aJ,Hg,hgt,aD]
            have h1:aH P (execOp (fun x=>((st.get x).val?).getD undef) ⟨dst, .binOp op t x y t',ty,pos,after,guard⟩)=some (.value (.bool c)):=by
             simp only[execOp,hxv,UJ,Option.getD_some,aJ,hg,Option.bind_some,hv,aD]
            have h2:=mE (P:=P) (get:=st.get) (o:=⟨dst, .binOp op t x y t',ty,pos,after,guard⟩) rfl hxv UJ h1
            simp only[ai,h2,Option.map_some]
            rfl
           cases neg with
           |true=>
            simp only[if_true]at hop
            subst hop
            exact⟨rfl,_,_,key (c:= !b) (by simp[binOp,dh,heq]),h⟩
           |false=>
            simp only[Bool.false_eq_true,if_false]at hop
            subst hop
            exact⟨rfl,_,_,key (c:=b) (by simp[binOp,dh,heq]),h⟩
         · exact h.elim
       · exact h.elim
      split at hr
      · rename_i ks hks
        simp only[Option.some.injEq]at hr
        subst hr
        exact both hks h rfl
      · rename_i ks hks
        simp only[Option.some.injEq]at hr
        subst hr
        exact both hks h rfl
      · simp at hr
    · simp at hr
 |index t x i=>
  simp only[aI]at hr
  split at hr
  · rename_i hu
    simp only[Option.some.injEq]at hr
    subst hr
    simp only[XR,bh]at h
    split at h
    · rename_i s k n hx hi
      have hi:=kH hi
      obtain⟨h0,b,hb,hK⟩:=h
      refine⟨rfl,_,_,?_,hK⟩
      have hall:(fG (Op.index t x i)&& (Op.index t x i).operands.toList.all fun x=>(st.get x).val?.isSome)=true:=by
       simp[fG,Op.operands,hx,hi,V.val?,W.val?,C.val?]
      have Hf:bg P st.get ⟨dst, .index t x i,ty,pos,after,guard⟩=some (iV .u8 (b.toNat:Int)):=by
       simp only[bg,hall,if_true]
       simp[execOp,hx,hi,V.val?,W.val?,C.val?,Instr.index,asIntOf,aJ,aD,dh,aN hu,h0,hb,V.ofValue]
      simp only[ai,Hf,Option.map_some]
    · exact h.elim
  · simp at hr
 |call c=>
  obtain⟨callee,args,argTypes⟩:=c
  simp only[aI]at hr
  split at hr
  · split at hr
    · rename_i x t hargs iF
      split at hr
      · rename_i e hu
        simp only[Option.some.injEq]at hr
        subst hr
        simp only[XR,bh]at h
        split at h
        · rename_i c hc
          split at h
          · rename_i n hn
            refine⟨rfl,_,_,?_,h⟩
            simp only[ai,hargs,iF,hu,MX,hc,hn,Option.map_some]
            rfl
          · exact h.elim
        · exact h.elim
      · rename_i hu
        simp only[Option.some.injEq]at hr
        subst hr
        simp only[XR,bh]at h
        split at h
        · rename_i s hs
          refine⟨rfl,_,_,?_,h⟩
          have hall:(fG (Op.call ⟨.builtin .len,args,argTypes⟩)&& (Op.call ⟨.builtin .len,args,argTypes⟩).operands.toList.all fun x=>(st.get x).val?.isSome)=true:=by
           simp[fG,Op.operands,Call.operands,hargs,hs,V.val?,W.val?,C.val?]
          have ea:args= #[x]:=by rw[←Array.toArray_toList (xs:=args),hargs]
          have et:argTypes= #[t]:=by rw[←Array.toArray_toList (xs:=argTypes),iF]
          have Hf:bg P st.get ⟨dst, .call ⟨.builtin .len,args,argTypes⟩,ty,pos,after,guard⟩=some (iV .i64 (s.size:Int)):=by
           subst ea
           subst et
           simp only[bg,hall,if_true]
           simp[execOp,resolve,hs,V.val?,W.val?,C.val?,invoke,builtin,Builtin.len_,aJ,aD,aN hu,dh,goInt,V.ofValue]
          simp only[ai,hargs,iF,hu,Hf,Option.map_some]
        · exact h.elim
      · simp at hr
    · simp at hr
  · split at hr
    · rename_i x y hargs
      simp only[Option.some.injEq]at hr
      subst hr
      simp only[XR,bh]at h
      split at h
      · rename_i k a k' b hx hy
        have hx:=kH hx
        have hy:=kH hy
        refine⟨rfl,_,_,?_,h⟩
        have hall:(fG (Op.call ⟨.builtin .min,args,argTypes⟩)&& (Op.call ⟨.builtin .min,args,argTypes⟩).operands.toList.all fun x=>(st.get x).val?.isSome)=true:=by
         simp[fG,Op.operands,Call.operands,hargs,hx,hy,V.val?,W.val?,C.val?]
        have ea:args= #[x,y]:=by rw[←Array.toArray_toList (xs:=args),hargs]
        have Hf:bg P st.get ⟨dst, .call ⟨.builtin .min,args,argTypes⟩,ty,pos,after,guard⟩=some (iV k (if b < a then b else a)):=by
         subst ea
         simp only[bg,hall,if_true]
         simp[execOp,resolve,hx,hy,V.val?,W.val?,C.val?,invoke,builtin,Builtin.min_,Builtin.min2,aJ,aD,dh,V.ofValue]
        simp only[ai,Hf,Option.map_some]
      · exact h.elim
    · simp at hr
  · split at hr
    · rename_i x y hargs
      simp only[Option.some.injEq]at hr
      subst hr
      simp only[XR,bh]at h
      split at h
      · rename_i k a k' b hx hy
        have hx:=kH hx
        have hy:=kH hy
        refine⟨rfl,_,_,?_,h⟩
        have hall:(fG (Op.call ⟨.builtin .max,args,argTypes⟩)&& (Op.call ⟨.builtin .max,args,argTypes⟩).operands.toList.all fun x=>(st.get x).val?.isSome)=true:=by
         simp[fG,Op.operands,Call.operands,hargs,hx,hy,V.val?,W.val?,C.val?]
        have ea:args= #[x,y]:=by rw[←Array.toArray_toList (xs:=args),hargs]
        have Hf:bg P st.get ⟨dst, .call ⟨.builtin .max,args,argTypes⟩,ty,pos,after,guard⟩=some (iV k (if b > a then b else a)):=by
         subst ea
         simp only[bg,hall,if_true]
         simp[execOp,resolve,hx,hy,V.val?,W.val?,C.val?,invoke,builtin,Builtin.max_,Builtin.max2,aJ,aD,dh,V.ofValue]
        simp only[ai,Hf,Option.map_some]
      · exact h.elim
    · simp at hr
  · split at hr
    · rename_i s x t t' hargs iF
      split at hr
      · rename_i XD
        subst XD
        split at hr
        · rename_i e hu
          split at hr
          · rename_i size bytes hT
            simp only[Option.some.injEq]at hr
            subst hr
            simp only[XR,bh,cu,jV,Ft]at h
            split at h
            · rename_i s' x' hs hx
              split at h
              · rename_i sz hel
                split at h
                · rename_i ln US
                  refine⟨rfl,_,_,?_,h⟩
                  simp only[ai,hargs,iF,if_true,eo,hs,hx,hu,hT,hel,List.isEmpty_nil,US,Option.isSome_some]
                · exact h.elim
              · rename_i sz y ys hel
                split at h
                · rename_i id sz' len
                  split at h
                  · rename_i cV xs hf
                    split at h
                    · rename_i hc
                      obtain⟨rfl,rfl,rfl⟩:=hc
                      obtain⟨⟨c1,c2,c3⟩,hK⟩:=h
                      refine⟨rfl,_,_,?_,hK⟩
                      simp only[ai,hargs,iF,if_true,eo,hs,hx,hu,hT,Bool.false_eq_true,if_false,hel,List.isEmpty_cons,hf,List.length_cons]
                      rw[if_pos ⟨trivial,trivial,c1,c2,c3⟩]
                    · exact h.elim
                  · exact h.elim
                · split at h
                  · rename_i hc
                    subst hc
                    obtain⟨⟨c2,c3⟩,hK⟩:=h
                    refine⟨rfl,_,_,?_,hK⟩
                    simp only[ai,hargs,iF,if_true,eo,hs,hx,hu,hT,Bool.false_eq_true,if_false,hel,List.isEmpty_cons,List.length_cons]
                    rw[if_pos ⟨rfl,c2,c3⟩]
                  · exact h.elim
                · exact h.elim
              · exact h.elim
            · exact h.elim
          · simp at hr
        · simp at hr
      · simp at hr
    · simp at hr
  · split at hr
    · simp only[Option.some.injEq]at hr
      subst hr
      exact h.elim
    · simp at hr
  · simp at hr
 |_=>simp[aI]at hr
theorem Oa {o:Oper} {tm:List (Nat×V)} {hp:List (Nat×bi)} {nid:Nat} {K:V→List (Nat×bi)→Prop} (h:XR (Ar o) tm hp nid K):False:=by
 rcases kz o with⟨t,args,ia,_,e⟩|e
 · rw[e]at h;exact h
 · rw[e]at h;exact h
theorem vU {o:Oper} {r:Ro} {nid:Nat} {K:V→List (Nat×bi)→Prop} (hr:aY P o=some r) (h:XR r st.tmps st.heap nid K):
 bK st.get o=none∧ ∃v heap',ai P st.get st.heap nid o=some (v,heap')∧K v heap':=by
 unfold aY at hr
 split at hr
 · rename_i r' dr
   replace dr:=dG dr
   simp only[Option.some.injEq]at hr
   subst hr
   exact Fy dr h
 · simp only[Option.some.injEq]at hr
   subst hr
   exact(Oa h).elim
end Go.aS
end
section
namespace Go.aS
open Go
variable {P:Program}
theorem Mf {get get':Operand→V} {o:Oper} (h: ∀x,x∈o.op.operands→get x=get' x):bg P get o=bg P get' o:=by
 unfold bg
 have h1:(o.op.operands.toList.all fun x=>(get x).val?.isSome)=(o.op.operands.toList.all fun x=>(get' x).val?.isSome):=by
  rw[Bool.eq_iff_iff,List.all_eq_true,List.all_eq_true]
  constructor
  · intro hh x hx;rw[←h x (by simpa using hx)];exact hh x hx
  · intro hh x hx;rw[h x (by simpa using hx)];exact hh x hx
 rw[h1]
 split
 · rename_i hc
   have hs: ∀cs b,o.op≠ .select cs b:=by
    intro cs b e
    simp[e,fG]at hc
   rw[execOp_congr o hs (ρ:=fun x=>((get x).val?).getD undef) (ρ':=fun x=>((get' x).val?).getD undef) (fun x hx=>by rw[h x hx])]
 · rfl
theorem lA {get get':Operand→V}: ∀ {ps:List (Nat×Operand)},(∀p,p∈ps→get p.2=get' p.2)→fQ get ps=fQ get' ps
 | [],_=>rfl
 |(i,x)::r,h=>by
  have h1:=h (i,x) (by simp)
  simp only at h1
  simp only[fQ,h1,lA (ps:=r) (fun p hp=>h p (by simp[hp]))]
theorem uv {get get':Operand→V}: ∀ {xs:List Operand},(∀x,x∈xs→get x=get' x)→wv get xs=wv get' xs
 | [],_=>rfl
 |x::r,h=>by simp only[wv,h x (by simp),uv (xs:=r) (fun y hy=>h y (by simp[hy]))]
theorem tK {get get':Operand→V}: ∀ {xs:List Operand},(∀x,x∈xs→get x=get' x)→ot get xs=ot get' xs
 | [],_=>rfl
 |x::r,h=>by simp only[ot,h x (by simp),tK (xs:=r) (fun y hy=>h y (by simp[hy]))]
theorem pU {get get':Operand→V} {heap:List (Nat×bi)} {nid:Nat} {o:Oper} (h: ∀x,x∈o.op.operands→get x=get' x):ai P get heap nid o=ai P get' heap nid o:=by
 have hp:=Mf (P:=P) h
 obtain⟨dst,op,ty,pos,after,guard⟩:=o
 simp only at h
 cases op with
 |move x=>simp only[ai,h x (by simp[Op.operands])]
 |assign x=>simp only[ai,h x (by simp[Op.operands])]
 |pick c x y=>simp only[ai,h c (by simp[Op.operands]),h x (by simp[Op.operands]),h y (by simp[Op.operands])]
 |box e x=>simp only[ai,h x (by simp[Op.operands])]
 |build t ps=>simp only[ai,lA (ps:=ps.toList) (fun p hp=>h p.2 (by simp[Op.operands];exact⟨p.1,by simpa using hp⟩))]
 |buildSlice t len ps=>simp only[ai,lA (ps:=ps.toList) (fun p hp=>h p.2 (by simp[Op.operands];exact⟨p.1,by simpa using hp⟩))]
 |load t x=>simp only[ai,h x (by simp[Op.operands])]
 |store t x y=>simp only[ai,h x (by simp[Op.operands]),h y (by simp[Op.operands])]
 |fieldAddr s x f=>simp only[ai,h x (by simp[Op.operands])]
 |field t x f=>simp only[ai,h x (by simp[Op.operands]),hp]
 |indexAddr t x i=>simp only[ai,h x (by simp[Op.operands]),h i (by simp[Op.operands])]
 |slice t x lo hi mx=>
  cases mx with
  |some m=>rfl
  |none=>
   have e1:lo.map get=lo.map get':=by cases lo with|none=>rfl|some z=>simp only[Option.map_some];rw[h z (by simp[Op.operands])]
   have e2:hi.map get=hi.map get':=by cases hi with|none=>rfl|some z=>simp only[Option.map_some];rw[h z (by simp[Op.operands])]
   simp only[ai,h x (by simp[Op.operands]),e1,e2,hp]
 |makeSlice t l c=>simp only[ai,h l (by simp[Op.operands]),h c (by simp[Op.operands])]
 |extract x k=>simp only[ai,h x (by simp[Op.operands])]
 |nilCheck x=>simp only[ai,h x (by simp[Op.operands]),hp]
 |makeFunc fn first captured=>
  cases fn with
  |func f=>simp only[ai,uv (xs:=captured.toList) (fun x hx=>h x (by simp[Op.operands];exact .inr (by simpa using hx))),hp]
  |_=>rfl
 |call c=>
  obtain⟨callee,args,argTypes⟩:=c
  have ha: ∀x,x∈args→get x=get' x:=fun x hx=>h x (by simp[Op.operands,Call.operands];exact .inr hx)
  cases callee with
  |builtin b=>
   cases b with
   |len=>
    simp only[ai]
    split
    · rename_i x t hx ht
      have hm:x∈args:=by
       have:x∈args.toList:=by rw[hx];simp
       simpa using this
      rw[ha x hm,hp]
    · rfl
   |append=>
    simp only[ai]
    split
    · rename_i s x t t' hx ht
      have hs:s∈args:=by
       have:s∈args.toList:=by rw[hx];simp
       simpa using this
      have hm:x∈args:=by
       have:x∈args.toList:=by rw[hx];simp
       simpa using this
      rw[ha s hs,ha x hm]
    · rfl
   |copy=>
    simp only[ai]
    split
    · rename_i s x t t' hx ht
      have hs:s∈args:=by
       have:s∈args.toList:=by rw[hx];simp
       simpa using this
      have hm:x∈args:=by
       have:x∈args.toList:=by rw[hx];simp
       simpa using this
      rw[ha s hs,ha x hm]
    · rfl
   |_=>simp only[ai,hp]
  |_=>rfl
 |lookup t m k ok=>simp only[ai];rw[h m (by simp[Op.operands]),h k (by simp[Op.operands])]
 |binOp=>simp only[ai,hp]
 |unOp=>simp only[ai,hp]
 |convert src dst' x=>simp only[ai,hp];rw[h x (by simp[Op.operands])]
 |index=>simp only[ai,hp]
 |makeInterface=>simp only[ai,hp]
 |_=>rfl
theorem qa {get get':Operand→V} {o:Oper} (h: ∀x,x∈o.op.operands→get x=get' x):bK get o=bK get' o:=by
 unfold bK
 split
 · rename_i f args ia ho
   rw[ho]at h
   rw[h f (by simp[Op.operands,Call.operands]),tK (xs:=args.toList) (fun x hx=>h x (by simp[Op.operands,Call.operands];exact .inr (by simpa using hx)))]
 · rfl
def looks:Op→Bool
 | .load .. | .store .. | .call .. | .lookup .. | .convert .. =>true
 |_=>false
theorem zF {get:Operand→V} {heap:List (Nat×bi)} {nid:Nat} {o:Oper} {v:V} {aF:List (Nat×bi)} (hl:looks o.op=false) (h:ai P get heap nid o=some (v,aF)):
 ∃pre:List (Nat×bi),(∀p,p∈pre→p.1=nid)∧aF=pre++heap∧ ∀jU,ai P get jU nid o=some (v,pre++jU):=by
 have pc:((bg P get o).map fun v=>(v,heap))=some (v,aF)→ ∃pre:List (Nat×bi),(∀p,p∈pre→p.1=nid)∧aF=pre++heap∧ ∀jU,((bg P get o).map fun v=>(v,jU))=some (v,pre++jU):=by
  intro h
  simp only[Option.map_eq_some_iff,Prod.mk.injEq]at h
  obtain⟨u,hu,rfl,rfl⟩:=h
  exact⟨[],by simp,rfl,fun jU=>by simp[hu]⟩
 obtain⟨dst,op,ty,pos,after,guard⟩:=o
 simp only at hl
 cases op with
 |move x=>
  simp only[ai,Option.some.injEq,Prod.mk.injEq]at h
  obtain⟨rfl,rfl⟩:=h
  exact⟨[],by simp,rfl,fun _=>rfl⟩
 |assign x=>
  simp only[ai,Option.some.injEq,Prod.mk.injEq]at h
  obtain⟨rfl,rfl⟩:=h
  exact⟨[],by simp,rfl,fun _=>rfl⟩
 |pick c x y=>
  simp only[ai]at h⊢
  split at h
  · rename_i b hb
    simp only[Option.some.injEq,Prod.mk.injEq]at h
    obtain⟨rfl,rfl⟩:=h
    exact⟨[],by simp,rfl,fun _=>by rfl⟩
  · simp at h
 |alloc e=>
  simp only[ai,Option.map_eq_some_iff,Prod.mk.injEq]at h
  obtain⟨⟨u,p⟩,hp,rfl,rfl⟩:=h
  refine⟨[p],?_,rfl,fun _=>by simp only[ai,hp,Option.map_some];rfl⟩
  unfold kO at hp
  split at hp
  · simp only[Option.some.injEq,Prod.mk.injEq]at hp
    obtain⟨_,rfl⟩:=hp
    simp
  · simp at hp
 |box e x=>
  simp only[ai,Option.map_eq_some_iff,Prod.mk.injEq]at h
  obtain⟨⟨u,p⟩,hp,rfl,rfl⟩:=h
  refine⟨[p],?_,rfl,fun _=>by simp only[ai,hp,Option.map_some];rfl⟩
  unfold pV at hp
  split at hp
  · simp only[Option.some.injEq,Prod.mk.injEq]at hp
    obtain⟨_,rfl⟩:=hp
    simp
  · simp at hp
 |build t ps=>
  simp only[ai]at h⊢
  split at h
  · rename_i l hl'
    simp only[Option.map_eq_some_iff,Prod.mk.injEq]at h
    obtain⟨u,hu,rfl,rfl⟩:=h
    exact⟨[],by simp,rfl,fun _=>by simp[hu]⟩
  · simp at h
 |buildSlice t len ps=>
  simp only[ai]at h⊢
  split at h
  · rename_i l hl'
    simp only[Option.map_eq_some_iff,Prod.mk.injEq]at h
    obtain⟨⟨u,p⟩,hp,rfl,rfl⟩:=h
    refine⟨[p],?_,rfl,fun _=>by simp[hp]⟩
    unfold dw at hp
    split at hp
    · split at hp
      · split at hp
        · simp only[Option.map_eq_some_iff,Prod.mk.injEq]at hp
          obtain⟨_,_,_,rfl⟩:=hp
          simp
        · simp at hp
      · simp at hp
    · simp at hp
  · simp at h
 |fieldAddr s x f=>
  simp only[ai,Option.map_eq_some_iff,Prod.mk.injEq]at h
  obtain⟨u,hu,rfl,rfl⟩:=h
  exact⟨[],by simp,rfl,fun _=>by simp[ai,hu]⟩
 |field t x f=>
  simp only[ai]at h⊢
  split at h
  · rename_i u hu
    simp only[Option.some.injEq,Prod.mk.injEq]at h
    obtain⟨rfl,rfl⟩:=h
    exact⟨[],by simp,rfl,fun _=>rfl⟩
  · exact pc h
 |indexAddr t x i=>
  simp only[ai,Option.map_eq_some_iff,Prod.mk.injEq]at h
  obtain⟨u,hu,rfl,rfl⟩:=h
  exact⟨[],by simp,rfl,fun _=>by simp[ai,hu]⟩
 |slice t x lo hi mx=>
  cases mx with
  |some m=>simp[ai]at h
  |none=>
   simp only[ai]at h⊢
   split at h
   · rename_i u hu
     simp only[Option.some.injEq,Prod.mk.injEq]at h
     obtain⟨rfl,rfl⟩:=h
     exact⟨[],by simp,rfl,fun _=>rfl⟩
   · exact pc h
 |makeSlice t l c=>
  simp only[ai,Option.map_eq_some_iff,Prod.mk.injEq]at h
  obtain⟨⟨u,p⟩,hp,rfl,rfl⟩:=h
  refine⟨[p],?_,rfl,fun _=>by simp only[ai,hp,Option.map_some];rfl⟩
  unfold fJ at hp
  split at hp
  · split at hp
    · split at hp
      · simp only[Option.some.injEq,Prod.mk.injEq]at hp
        obtain⟨_,rfl⟩:=hp
        simp
      · simp at hp
    · simp at hp
  · simp at hp
 |extract x k=>
  simp only[ai]at h⊢
  split at h
  · rename_i ws EW
    simp only[Option.map_eq_some_iff,Prod.mk.injEq]at h
    obtain⟨u,hu,rfl,rfl⟩:=h
    exact⟨[],by simp,rfl,fun _=>by simp[hu]⟩
  · simp at h
 |nilCheck x=>
  simp only[ai]at h⊢
  split at h
  · simp only[Option.some.injEq,Prod.mk.injEq]at h
    obtain⟨rfl,rfl⟩:=h
    exact⟨[],by simp,rfl,fun _=>rfl⟩
  · simp only[Option.some.injEq,Prod.mk.injEq]at h
    obtain⟨rfl,rfl⟩:=h
    exact⟨[],by simp,rfl,fun _=>rfl⟩
  · exact pc h
 |makeFunc fn first captured=>
  cases fn with
  |func f=>
   simp only[ai]at h⊢
   split at h
   · rename_i hc
     split at h
     · rename_i l hl'
       simp only[Option.some.injEq,Prod.mk.injEq]at h
       obtain⟨rfl,rfl⟩:=h
       exact⟨[],by simp,rfl,fun _=>by rw[if_pos hc];rfl⟩
     · simp at h
   · rename_i hc
     obtain⟨pre,h1,h2,h3⟩:=pc h
     exact⟨pre,h1,h2,fun jU=>by rw[if_neg hc];exact h3 jU⟩
  |_=>simp[ai]at h
 |binOp=>exact pc (by simpa[ai]using h)
 |unOp=>exact pc (by simpa[ai]using h)
 |convert=>simp[looks]at hl
 |index=>exact pc (by simpa[ai]using h)
 |makeInterface=>exact pc (by simpa[ai]using h)
 |load=>simp[looks]at hl
 |store=>simp[looks]at hl
 |call=>simp[looks]at hl
 |lookup=>simp[looks]at hl
 |_=>simp[ai]at h
end Go.aS
end
section
namespace Go.aS
open Go
variable {P:Program}
def V.ids:V→List Nat
 | .w u=>u.ids
 | .dQ ws=>ws.flatMap W.ids
 | .undef=>[]
def iS (get:Operand→V) (o:Oper):List Nat:=if looks o.op then o.op.operands.toList.flatMap fun x=>(get x).ids else []
def writes:Op→Bool
 | .store .. =>true
 | .call ⟨.builtin .append,_,_⟩=>true
 | .call ⟨.builtin .copy,_,_⟩=>true
 |_=>false
def four (nid:Nat):List Nat:=[nid,nid+1,nid+2,nid+3]
theorem GO {nid id:Nat}:id∈four nid↔nid≤id∧id < nid+4:=by simp[four];omega
def tt (get:Operand→V) (nid:Nat) (o:Oper):List Nat:=four nid++if writes o.op then iS get o else []
def Alike (wr:List Nat) (hp aF hp2 mO:List (Nat×bi)):Prop:=
 (∀id,id∈wr→find mO id=find aF id)∧(∀id,¬id∈wr→find aF id=find hp id∧find mO id=find hp2 id)
theorem Alike.pre {wr:List Nat} {hp hp2 pre:List (Nat×bi)} (hw: ∀id,id∈wr→find hp2 id=find hp id) (hpre: ∀p,p∈pre→p.1∈wr):Alike wr hp (pre++hp) hp2 (pre++hp2):=by
 refine⟨fun id bJ=>?_,fun id bJ=>?_⟩
 · rw[cM,cM,hw id bJ]
 · have:find pre id=none:=by
    cases hf:find pre id with
    |none=>rfl
    |some b=>exact absurd (hpre _ (fb hf)) bJ
   rw[cM,cM,this]
   simp
theorem Bq {hp hp2:List (Nat×bi)} {c:C} (h: ∀id,id∈c.ids→find hp2 id=find hp id):deref hp2 c=deref hp c:=by
 cases c with
 |ptr id sz i j=>simp only[deref,h id (by simp[C.ids])]
 |_=>rfl
theorem jX {hp hp2:List (Nat×bi)} {c:C} (h: ∀id,id∈c.ids→find hp2 id=find hp id):elems hp2 c=elems hp c:=by
 cases c with
 |own id sz i len=>simp only[elems,h id (by simp[C.ids])]
 |t x=>cases x<;>rfl
 |_=>rfl
theorem rN {hp hp2:List (Nat×bi)} {c:C} (h: ∀id,id∈c.ids→find hp2 id=find hp id):rO hp2 c=rO hp c:=by
 cases c with
 |own id sz i len=>simp only[rO,jX (c:= .own id sz i len) h]
 |_=>rfl
theorem pM {hp hp2:List (Nat×bi)}: ∀ {cs:List C},(∀id,id∈cs.flatMap C.ids→find hp2 id=find hp id)→mJ hp2 cs=mJ hp cs
 | [],_=>rfl
 |c::r,h=>by simp only[mJ,rN (c:=c) (fun id bJ=>h id (by simp[bJ])),pM (cs:=r) (fun id bJ=>h id (by simp at bJ⊢;exact .inr bJ))]
theorem AH {hp hp2:List (Nat×bi)} {u:W} (h: ∀id,id∈u.ids→find hp2 id=find hp id):pL hp2 u=pL hp u:=by
 cases u with
 |one c=>simp only[pL,rN (c:=c) h]
 |agg cs=>simp only[pL,pM (cs:=cs) h]
theorem pK {hp hp2:List (Nat×bi)}: ∀ {us:List W},(∀id,id∈us.flatMap W.ids→find hp2 id=find hp id)→iL hp2 us=iL hp us
 | [],_=>rfl
 |u::r,h=>by simp only[iL,AH (u:=u) (fun id bJ=>h id (by simp[bJ])),pK (us:=r) (fun id bJ=>h id (by simp at bJ⊢;exact .inr bJ))]
theorem o8 {get:Operand→V}: ∀ {xs:List Operand} {us:List W},ot get xs=some us→ ∀id,id∈us.flatMap W.ids→id∈xs.flatMap fun x=>(get x).ids
 | [],us,h,id,bJ=>by simp only[ot,Option.some.injEq]at h;subst h;simp at bJ
 |x::r,us,h,id,bJ=>by
  simp only[ot]at h
  split at h
  · rename_i u l hx hl
    simp only[Option.some.injEq]at h
    subst h
    simp only[List.flatMap_cons,List.mem_append]at bJ⊢
    rcases bJ with bJ|bJ
    · exact .inl (by rw[hx];exact bJ)
    · exact .inr (o8 hl id bJ)
  · simp at h
theorem vM {get:Operand→V} {o:Oper} {g:FuncId} {us:List W} (h:bK get o=some (g,us)):looks o.op=true∧ ∀id,id∈us.flatMap W.ids→id∈iS get o:=by
 unfold bK at h
 split at h
 · rename_i f args ia ho
   have hlk:looks o.op=true:=by rw[ho];rfl
   refine⟨hlk,?_⟩
   have ht:iS get o=(get f).ids++args.toList.flatMap fun x=>(get x).ids:=by
    rw[iS,if_pos hlk,ho]
    simp[Op.operands,Call.operands]
   rw[ht]
   split at h
   · rename_i g' first cZ fh hf fR
     split at h
     · simp only[Option.some.injEq,Prod.mk.injEq]at h
       obtain⟨_,rfl⟩:=h
       intro id bJ
       exact List.mem_append.2 (.inr (o8 fR id bJ))
     · simp at h
   · rename_i g' cZ fh hf fR
     simp only[Option.some.injEq,Prod.mk.injEq]at h
     obtain⟨_,rfl⟩:=h
     intro id bJ
     simp only[List.flatMap_append,List.mem_append]at bJ
     rcases bJ with bJ|bJ
     · exact List.mem_append.2 (.inr (o8 fR id bJ))
     · refine List.mem_append.2 (.inl ?_)
       rw[hf]
       simp only[List.mem_flatMap,List.mem_map,W.ids,C.ids]at bJ
       obtain⟨w,⟨p,hp,rfl⟩,bJ⟩:=bJ
       simp only[C.ids,List.mem_singleton]at bJ
       simp only[V.ids,W.ids,C.ids,List.mem_map]
       exact⟨p,hp,bJ.symm⟩
   · rename_i g' b ts fh hf fR
     simp only[Option.map_eq_some_iff,Prod.mk.injEq]at h
     obtain⟨u0,lC,_,rfl⟩:=h
     intro id bJ
     simp only[List.flatMap_cons,List.mem_append]at bJ
     rcases bJ with bJ|bJ
     · exfalso
       cases b with
       |true=>
        simp only[mD,Option.some.injEq]at lC
        subst lC
        simp only[W.ids,List.mem_flatMap,List.mem_map]at bJ
        obtain⟨c,⟨t,_,rfl⟩,bJ⟩:=bJ
        simp[C.ids]at bJ
       |false=>
        unfold mD at lC
        split at lC
        · simp at *
        · simp only[Option.some.injEq]at lC
          subst lC
          simp[W.ids,C.ids]at bJ
        · simp at lC
     · exact List.mem_append.2 (.inr (o8 fR id bJ))
   · simp at h
 · simp at h
theorem ow {nid:Nat}: ∀ {hout:List (Nat×bi)} {p:Nat×bi},p∈fq nid hout→p.1∈four nid
 | [],p,h=>by simp[fq]at h
 |(id,b)::r,p,h=>by
  simp only[fq]at h
  split at h
  · rename_i bJ
    rcases List.mem_cons.1 h with rfl|h
    · rw[GO];simp;omega
    · exact ow h
  · exact ow h
theorem qZ {t:TypeId} {s x v:V} {hp aF hp2:List (Nat×bi)} {nid:Nat} {wr:List Nat} (h:eo P t s x hp nid=some (v,aF))
 (hs: ∀id,id∈s.ids→id∈wr) (hx: ∀id,id∈x.ids→id∈wr) (hn:nid∈wr) (hw: ∀id,id∈wr→find hp2 id=find hp id):
 ∃mO,eo P t s x hp2 nid=some (v,mO)∧Alike wr hp aF hp2 mO:=by
 unfold eo at h⊢
 split at h
 · rename_i s x
   have hel:elems hp2 x=elems hp x:=jX (fun id bJ=>hw id (hx id bJ))
   split at h
   · rename_i e hu
     split at h
     · rename_i size bytes sz ys hT hys
       have Xt:(if isNil x=true then some (0,[])else elems hp2 x)=some (sz,ys):=by rw[hel];exact hys
       simp only[Xt,hT]
       split at h
       · rename_i zn
         rw[if_pos zn]
         split at h
         · rename_i hlen
           simp only[Option.some.injEq,Prod.mk.injEq]at h
           obtain⟨rfl,rfl⟩:=h
           exact⟨hp2,by rw[if_pos hlen],⟨fun id bJ=>hw id bJ,fun id _=>⟨rfl,rfl⟩⟩⟩
         · simp at h
       · rename_i zn
         rw[if_neg zn]
         split at h
         · rename_i hsz
           rw[if_pos hsz]
           split at h
           · rename_i id sz' len
             have bJ:id∈wr:=hs id (by simp[V.ids,W.ids,C.ids])
             have A3:=hw id bJ
             split at h
             · rename_i cV xs hf
               split at h
               · rename_i hc
                 simp only[Option.some.injEq,Prod.mk.injEq]at h
                 obtain⟨rfl,rfl⟩:=h
                 refine⟨(nid, .row size (xs++ys))::del hp2 id,by simp only[A3,hf,if_pos hc],⟨fun k hk=>?_,fun k hk=>?_⟩⟩
                 · simp only[aq,de,hw k hk]
                 · have h1:¬nid=k:=fun e=>hk (e▸hn)
                   have h2:¬k=id:=fun e=>hk (e▸bJ)
                   simp only[aq,de,h1,h2,if_false]
                   exact⟨trivial,trivial⟩
               · simp at h
             · simp at h
           · rename_i hne
             split at h
             · rename_i hc
               simp only[Option.some.injEq,Prod.mk.injEq]at h
               obtain⟨rfl,rfl⟩:=h
               refine⟨_,by rw[if_pos hc],?_⟩
               exact Alike.pre (pre:=[_]) hw (by simp;exact hn)
             · simp at h
         · simp at h
     · simp at h
   · simp at h
 · simp at h
theorem vA {t:TypeId} {d s v:V} {hp aF hp2:List (Nat×bi)} {wr:List Nat} (h:eB P t d s hp=some (v,aF))
 (hd: ∀id,id∈d.ids→id∈wr) (hs: ∀id,id∈s.ids→id∈wr) (hw: ∀id,id∈wr→find hp2 id=find hp id): ∃mO,eB P t d s hp2=some (v,mO)∧Alike wr hp aF hp2 mO:=by
 unfold eB at h
 split at h
 · rename_i id sz i len x
   have e1:elems hp2 x=elems hp x:=jX fun k hk=>hw k (hs k (by simpa[V.ids,W.ids]using hk))
   have e2:find hp2 id=find hp id:=hw id (hd id (by simp[V.ids,W.ids,C.ids]))
   split at h
   · rename_i e hu
     split at h
     · rename_i size cV ys hsz hys
       split at h
       · rename_i h0
         simp only[Option.some.injEq,Prod.mk.injEq]at h
         obtain⟨rfl,rfl⟩:=h
         exact⟨hp2,by simp only[eB,hu,e1,hsz,hys,if_pos h0],⟨hw,fun _ _=>⟨rfl,rfl⟩⟩⟩
       · rename_i h0
         split at h
         · rename_i sz' xs hf
           split at h
           · rename_i hc
             simp only[Option.some.injEq,Prod.mk.injEq]at h
             obtain⟨rfl,rfl⟩:=h
             refine⟨jJ hp2 id (.row size (aX xs i (ys.take len))),by simp only[eB,hu,e1,hsz,hys,if_neg h0,e2,hf,if_pos hc],⟨fun k hk=>?_,fun k hk=>?_⟩⟩
             · simp only[bQ,e2,hw k hk]
             · have:¬k=id:=fun e=>hk (e▸hd id (by simp[V.ids,W.ids,C.ids]))
               simp only[bQ,this,if_false]
               exact⟨trivial,trivial⟩
           · simp at h
         · simp at h
     · simp at h
   · simp at h
 · simp at h
def fg (P:Program) (ops:Array Oper) (o:Oper) (n:Nat) (tm:List (Nat×V)) (hp:List (Nat×bi)) (nid:Nat) (v:V) (aF:List (Nat×bi)):Prop:=
 gj n o.dst=true∧
 match aW ops o tm with
 |none=>False
 |some false=>v= .dQ []∧aF=hp
 |some true=>
  match bK (St.get ⟨n,tm,hp⟩) o with
  |some (g,us)=>enters P g=true∧eu P hp nid g us v aF
  |none=>ai P (St.get ⟨n,tm,hp⟩) hp nid o=some (v,aF)
def names (ops:Array Oper) (o:Oper):List Nat:=
 (o.op.operands.toList.filterMap fun| .tmp t=>some t|_=>none)++
 match o.guard with
 |some (j,_)=>((ops[j]?).bind (·.dst)).toList
 |none=>[]
theorem get_congr {ops:Array Oper} {o:Oper} {n n2:Nat} {tm tm2:List (Nat×V)} {hp hp2:List (Nat×bi)} (h: ∀t,t∈names ops o→find tm2 t=find tm t) (x:Operand) (hx:x∈o.op.operands):
 St.get ⟨n2,tm2,hp2⟩ x=St.get ⟨n,tm,hp⟩ x:=by
 cases x with
 |tmp t=>
  simp only[St.get]
  rw[h t]
  simp only[names,List.mem_append,List.mem_filterMap]
  exact .inl ⟨.tmp t,by simpa using hx,rfl⟩
 |_=>rfl
theorem guard_congr {ops:Array Oper} {o:Oper} {tm tm2:List (Nat×V)} (h: ∀t,t∈names ops o→find tm2 t=find tm t):aW ops o tm2=aW ops o tm:=by
 unfold aW
 split
 · rfl
 · rename_i j want hg
   split
   · rfl
   · rename_i d hd
     rw[h d (by simp[names,hg,hd])]
theorem fg.loc {ops:Array Oper} {o:Oper} {n nid:Nat} {tm tm2:List (Nat×V)} {hp aF hp2:List (Nat×bi)} {v:V} (h:fg P ops o n tm hp nid v aF)
 (ht: ∀t,t∈names ops o→find tm2 t=find tm t) (hh: ∀id,id∈iS (St.get ⟨n,tm,hp⟩) o→find hp2 id=find hp id) (hf: ∀id,id∈four nid→find hp2 id=find hp id):
 ∃mO,fg P ops o n tm2 hp2 nid v mO∧Alike (tt (St.get ⟨n,tm,hp⟩) nid o) hp aF hp2 mO:=by
 have hg:=guard_congr (ops:=ops) (o:=o) ht
 have Cx:=fun x hx=>get_congr (ops:=ops) (o:=o) (n:=n) (n2:=n) (hp:=hp) (hp2:=hp2) ht x hx
 have hw: ∀id,id∈tt (St.get ⟨n,tm,hp⟩) nid o→find hp2 id=find hp id:=by
  intro id bJ
  simp only[tt,List.mem_append]at bJ
  rcases bJ with bJ|bJ
  · exact hf id bJ
  · split at bJ
    · exact hh id bJ
    · simp at bJ
 have h4: ∀id,id∈four nid→id∈tt (St.get ⟨n,tm,hp⟩) nid o:=fun id bJ=>by simp only[tt,List.mem_append];exact .inl bJ
 obtain⟨hd,h⟩:=h
 unfold fg
 rw[hg]
 split at h
 · exact h.elim
 · obtain⟨rfl,rfl⟩:=h
   exact⟨hp2,⟨hd,rfl,rfl⟩,⟨hw,fun id _=>⟨rfl,rfl⟩⟩⟩
 · rename_i hgt
   clear hgt
   have wJ:=qa (get:=St.get ⟨n,tm2,hp2⟩) (get':=St.get ⟨n,tm,hp⟩) (o:=o) Cx
   rw[wJ]
   split at h
   · rename_i g us gY
     obtain⟨he,⟨res,hout,targs,k1,rfl,rfl,k4⟩|⟨rfl,hrd⟩⟩:=h
     case inr=>
      refine⟨hp2,⟨hd,he, .inr ⟨rfl,fun jU h2=>hrd jU fun id bJ=>?_⟩⟩,⟨hw,fun id _=>⟨rfl,rfl⟩⟩⟩
      rw[h2 id bJ]
      exact hh id ((vM gY).2 id bJ)
     refine⟨fq nid hout++hp2,⟨hd,he, .inl ⟨res,hout,targs,k1,rfl,rfl,?_⟩⟩,Alike.pre hw (fun p hp=>h4 _ (ow hp))⟩
     rcases k4 with k4|⟨q1,q2⟩
     · exact .inl k4
     · refine .inr ⟨?_,q2⟩
       rw[pK (fun id bJ=>hh id ((vM gY).2 id bJ))]
       exact q1
   · rename_i hcn
     clear hcn
     have dJ:=pU (P:=P) (get:=St.get ⟨n,tm2,hp2⟩) (get':=St.get ⟨n,tm,hp⟩) (heap:=hp2) (nid:=nid) (o:=o) Cx
     simp only[dJ]
     cases hlk:looks o.op with
     |false=>
      obtain⟨pre,p1,rfl,p3⟩:=zF hlk h
      exact⟨pre++hp2,⟨hd,p3 hp2⟩,Alike.pre hw (fun p hp=>by rw[p1 p hp];exact h4 _ (by simp[four]))⟩
     |true=>
      have oN:iS (St.get ⟨n,tm,hp⟩) o=o.op.operands.toList.flatMap fun x=>(St.get ⟨n,tm,hp⟩ x).ids:=by rw[iS,if_pos hlk]
      obtain⟨dst,op,ty,pos,after,guard⟩:=o
      simp only at hlk oN h hh hw h4
      cases op<;>simp[looks]at hlk
      case load t x=>
       simp only[ai,Option.map_eq_some_iff,Prod.mk.injEq]at h
       obtain⟨u,hu,rfl,rfl⟩:=h
       refine⟨hp2,⟨hd,?_⟩,⟨hw,fun id _=>⟨rfl,rfl⟩⟩⟩
       unfold dY at hu
       simp only[ai,dY]
       split at hu
       · rename_i c hc
         have:deref hp2 c=deref hp c:=Bq (fun id bJ=>hh id (by rw[oN];simp[Op.operands,hc,V.ids,W.ids,bJ]))
         rw[this]
         simp only[hu,Option.map_some]
       · simp at hu
      case convert src dst' x=>
       have hsame:gi P src dst' (St.get ⟨n,tm,hp⟩ x) hp2=gi P src dst' (St.get ⟨n,tm,hp⟩ x) hp:=by
        unfold gi
        split
        · rename_i id sz i len hx
          rw[jX (hp:=hp) (fun id' bJ=>hh id' (by rw[oN];simp only[Op.operands,List.mem_flatMap];exact⟨x,by simp,by rw[hx];exact bJ⟩))]
        · rfl
       simp only[ai]at h
       split at h
       · rename_i u hu
         simp only[Option.some.injEq,Prod.mk.injEq]at h
         obtain⟨rfl,rfl⟩:=h
         exact⟨hp2,⟨hd,by simp only[ai,hsame,hu]⟩,⟨hw,fun id _=>⟨rfl,rfl⟩⟩⟩
       · rename_i hu
         simp only[Option.map_eq_some_iff,Prod.mk.injEq]at h
         obtain⟨u,hpu,rfl,rfl⟩:=h
         exact⟨hp2,⟨hd,by simp only[ai,hsame,hu,hpu,Option.map_some]⟩,⟨hw,fun id _=>⟨rfl,rfl⟩⟩⟩
      case lookup t m k ok=>
       simp only[ai,Option.map_eq_some_iff,Prod.mk.injEq]at h
       obtain⟨u,hu,rfl,rfl⟩:=h
       refine⟨hp2,⟨hd,?_⟩,⟨hw,fun id _=>⟨rfl,rfl⟩⟩⟩
       simp only[ai]
       rw[qX (hp:=hp) (fun id bJ=>hh id (by rw[oN];simp[Op.operands,bJ,V.ids,W.ids,C.ids])),hu]
       rfl
      case store t x y=>
       simp only[ai,Option.map_eq_some_iff,Prod.mk.injEq]at h
       obtain⟨hq,hu,rfl,rfl⟩:=h
       unfold jh at hu
       split at hu
       · rename_i id sz i j u hx hy
         have bJ:id∈iS (St.get ⟨n,tm,hp⟩) ⟨dst, .store t x y,ty,pos,after,guard⟩:=by rw[oN];simp[Op.operands,hx,V.ids,W.ids,C.ids]
         have Yl:id∈tt (St.get ⟨n,tm,hp⟩) nid ⟨dst, .store t x y,ty,pos,after,guard⟩:=by simp only[tt,writes,if_true,List.mem_append];exact .inr bJ
         have A3:=hh id bJ
         split at hu
         · rename_i sz' xs m IJ hm
           split at hu
           · rename_i el hel
             split at hu
             · rename_i hc
               simp only[Option.some.injEq]at hu
               subst hu
               refine⟨jJ hp2 id (.row sz (xs.set i (aX el j (cellsOf u)))),⟨hd,?_⟩,⟨fun k hk=>?_,fun k hk=>?_⟩⟩
               · simp only[ai,jh,hx,hy,A3,IJ,hm,hel,if_pos hc,Option.map_some]
               · simp only[bQ,A3,hw k hk]
               · have:¬k=id:=fun e=>hk (e▸Yl)
                 simp only[bQ,this,if_false]
                 exact⟨trivial,trivial⟩
             · simp at hu
           · simp at hu
         · simp at hu
       · simp at hu
      case call c=>
       obtain⟨callee,args,argTypes⟩:=c
       simp only[ai]at h
       have same: ∀ {q:Option V},(q.map fun v=>(v,hp))=some (v,aF)→(q.map fun v=>(v,hp2))=some (v,hp2)∧aF=hp:=by
        intro q hq
        simp only[Option.map_eq_some_iff,Prod.mk.injEq]at hq
        obtain⟨u,rfl,rfl,rfl⟩:=hq
        exact⟨rfl,rfl⟩
       split at h
       · split at h
         · rename_i x t hargs iF
           split at h
           · rename_i e hu
             obtain⟨k1,rfl⟩:=same h
             exact⟨hp2,⟨hd,by simp only[ai,hargs,iF,hu];exact k1⟩,⟨hw,fun id _=>⟨rfl,rfl⟩⟩⟩
           · rename_i hu
             obtain⟨k1,rfl⟩:=same h
             refine⟨hp2,⟨hd,?_⟩,⟨hw,fun id _=>⟨rfl,rfl⟩⟩⟩
             simp only[ai,hargs,iF]
             exact k1
         · simp at h
       · split at h
         · rename_i s x t t' hargs iF
           split at h
           · rename_i XD
             subst XD
             have hsub: ∀ (z:Operand),z∈args.toList→ ∀id,id∈ (St.get ⟨n,tm,hp⟩ z).ids→id∈tt (St.get ⟨n,tm,hp⟩) nid ⟨dst, .call ⟨.builtin .append,args,argTypes⟩,ty,pos,after,guard⟩:=by
              intro z hz id bJ
              simp only[tt,writes,if_true,List.mem_append]
              refine .inr ?_
              rw[oN]
              simp only[Op.operands,Call.operands,List.mem_flatMap]
              exact⟨z,by simpa using hz,bJ⟩
             obtain⟨mO,k1,k2⟩:=qZ h (hsub s (by rw[hargs];simp)) (hsub x (by rw[hargs];simp)) (h4 nid (by simp[four])) hw
             exact⟨mO,⟨hd,by simp only[ai,hargs,iF,if_true];exact k1⟩,k2⟩
           · simp at h
         · simp at h
       · split at h
         · rename_i d s t t' hargs iF
           have hsub: ∀ (z:Operand),z∈args.toList→ ∀id,id∈ (St.get ⟨n,tm,hp⟩ z).ids→id∈tt (St.get ⟨n,tm,hp⟩) nid ⟨dst, .call ⟨.builtin .copy,args,argTypes⟩,ty,pos,after,guard⟩:=by
            intro z hz id bJ
            simp only[tt,writes,if_true,List.mem_append]
            refine .inr ?_
            rw[oN]
            simp only[Op.operands,Call.operands,List.mem_flatMap]
            exact⟨z,by simpa using hz,bJ⟩
           obtain⟨mO,k1,k2⟩:=vA h (hsub d (by rw[hargs];simp)) (hsub s (by rw[hargs];simp)) hw
           exact⟨mO,⟨hd,by simp only[ai,hargs,iF];exact k1⟩,k2⟩
         · simp at h
       · rename_i b oT nw OZ
         obtain⟨k1,rfl⟩:=same h
         refine⟨hp2,⟨hd,?_⟩,⟨hw,fun id _=>⟨rfl,rfl⟩⟩⟩
         simp only[ai]
         exact k1
       · simp at h
end Go.aS
end
