import GoSem.Claim
import Derived.Orders
import Derived.Below
import Derived.KernelRfl
import Derived.Laws.AppendOwn
import Derived.Laws.CopyRow
import Derived.MapKept
import Derived.Laws.BytesArg
import Derived.Laws.StructEq
set_option linter.all false
section
namespace Go.aT
open Go
def Md:List (Nat×List Value):=[]
def Ce:List (Nat×List Value)→Nat→Option (List Value)
 | [],_=>none
 |(k,v)::r,t=>if k=t then some v else Ce r t
def Wf (t:TypeId) (len:Nat):Bool:=Nat.beq t 77&&Nat.beq len 3
def We (t x h:Nat):Bool:=Nat.beq t 77&&Nat.beq x 17&&Nat.beq h 19
def adL:Nat:=255
def WH:List Nat:=[0,1,228]
end Go.aT
end
section
namespace Go.aT
open Go
inductive T where
 |val (v:Value)
 |aB (sz:Nat) (xs:List (List T))
 deriving Inhabited
abbrev Lz:=List (List T)
inductive Loc where
 |jq
 |gz (b:Nat)
abbrev cH:Value→Bool:=Value.oneCell'
inductive RT (w:World) (A:Nat→Prop):T→Value→Prop
 |val {v:Value} (h:cH v=true):RT w A (.val v) v
 |nil {sz:Nat} {a:Option Addr} {cap:Nat}:RT w A (.aB sz []) (.slice a 0 cap)
 |aB {sz:Nat} {xs:Lz} {b off len cap:Nat} (f:Nat→Nat→Value) (hl:len=xs.length) (hcap:len≤cap)
   (hb:b < w.heap.size) (hA:¬A b) (hsz: ∀e,e∈xs→e.length=sz)
   (hc: ∀ (i:Nat) (e:List T) (j:Nat) (c:T),xs[i]? =some e→e[j]? =some c→w.cell? ⟨b,off+i * sz+j,none⟩=some (f i j))
   (hr: ∀ (i:Nat) (e:List T) (j:Nat) (c:T),xs[i]? =some e→e[j]? =some c→RT w A c (f i j)):RT w A (.aB sz xs) (.slice (some ⟨b,off,none⟩) len cap)
theorem RT.cell {w:World} {A:Nat→Prop} {t:T} {x:Value} (h:RT w A t x):cH x=true:=by
 cases h with
 |val h=>exact h
 |nil=>rfl
 |aB=>rfl
structure dj (O:Nat→Prop) (w w':World):Prop where
 os:w'.os=w.os
 tape:w'.tape=w.tape
 output:w'.output=w.output
 size:w.heap.size≤w'.heap.size
 block: ∀k,k < w.heap.size→¬O k→w'.heap[k]? =w.heap[k]?
 shape: ∀k,k < w.heap.size→w'.shape? k=w.shape? k
theorem dj.refl (O:Nat→Prop) (w:World):dj O w w:=⟨rfl,rfl,rfl,Nat.le_refl _,fun _ _ _=>rfl,fun _ _=>rfl⟩
theorem dj.trans {O:Nat→Prop} {a b c:World} (h:dj O a b) (k:dj O b c):dj O a c:=
 ⟨k.os.trans h.os,k.tape.trans h.tape,k.output.trans h.output,Nat.le_trans h.size k.size,
  fun i hi ho=>(k.block i (Nat.lt_of_lt_of_le hi h.size) ho).trans (h.block i hi ho),
  fun i hi=>(k.shape i (Nat.lt_of_lt_of_le hi h.size)).trans (h.shape i hi)⟩
theorem dj.weaken {O O':Nat→Prop} {a b:World} (h:dj O a b) (hO: ∀i,i < a.heap.size→O i→O' i):dj O' a b:=
 ⟨h.os,h.tape,h.output,h.size,fun i hi ho=>h.block i hi (fun h'=>ho (hO i hi h')),h.shape⟩
theorem dj.alloc (O:Nat→Prop) (w:World) (o:Obj):dj O w (w.alloc o):=
 ⟨rfl,rfl,rfl,by simp,fun k hk _=>RowKit.Below.heap_alloc w o k hk,fun k hk=>by
   have:=RowKit.Below.heap_alloc w o k hk
   simp only[World.shape?,this]⟩
theorem dj.drew (O:Nat→Prop) (w:World):dj O w {w with drawn:=w.drawn+1}:=
 ⟨rfl,rfl,rfl,Nat.le_refl _,fun _ _ _=>rfl,fun _ _=>rfl⟩
def eK (A A':Nat→Prop) (w w':World):Prop:=
 w.heap.size≤w'.heap.size∧ ∀b,b < w.heap.size→¬A b→(w'.heap[b]? =w.heap[b]? ∧¬A' b)
theorem kW {w w':World} {a:Addr} (h:w'.heap[a.block]? =w.heap[a.block]?):w'.cell? a=w.cell? a:=by simp[World.cell?,h]
theorem RT.keeps {A A':Nat→Prop} {w w':World} (hk:eK A A' w w') {t:T} {x:Value} (h:RT w A t x):RT w' A' t x:=by
 induction h with
 |val h=>exact .val h
 |nil=>exact .nil
 |aB f hl hcap hb hA hsz hc hr ih=>
  obtain⟨h1,h2⟩:=hk.2 _ hb hA
  refine .aB f hl hcap (Nat.lt_of_lt_of_le hb hk.1) h2 hsz (fun i e j c he hj=>?_) ih
  rw[kW (w:=w) h1]
  exact hc i e j c he hj
inductive C where
 |t (x:T)
 |own (id sz i len:Nat)
 |ptr (id sz i j:Nat)
 |uc (e:List T) (j:Nat)
 |jx (f:FuncId) (dc:List (Nat×Nat×Nat×Nat))
 |map (id:Nat)
 |it (id:Nat)
 |lR (f:FuncId) (g:Bool) (ts:List T)
 |pk (ts:List T)
 |any
 deriving Inhabited
abbrev Env:=Nat→Option Loc
def RP (ρ:Env) (id sz i j:Nat) (x:Value):Prop:=
 ∃b,ρ id=some (.gz b)∧x= .pointer (some ⟨b,i * sz+j,none⟩)
def RF (w:World) (A:Nat→Prop) (g:Bool) (ts:List T) (x:Value):Prop:=
 match g with
 |true=> ∃vs:Array Value,x= .agg vs∧ts.length=vs.size∧ ∀ (k:Nat) (t:T) (y:Value),ts[k]? =some t→vs[k]? =some y→RT w A t y∧cH y=true
 |false=> ∃t,ts=[t]∧RT w A t x∧cH x=true
theorem RF.keeps {A A':Nat→Prop} {w w':World} (hk:eK A A' w w') {g:Bool} {ts:List T} {x:Value} (h:RF w A g ts x):RF w' A' g ts x:=by
 cases g with
 |true=>
  obtain⟨vs,h1,h2,h3⟩:=h
  exact⟨vs,h1,h2,fun k t y ht hy=>⟨(h3 k t y ht hy).1.keeps hk,(h3 k t y ht hy).2⟩⟩
 |false=>
  obtain⟨t,h1,h2,h3⟩:=h
  exact⟨t,h1,h2.keeps hk,h3⟩
def RC (w:World) (A:Nat→Prop) (ρ:Env):C→Value→Prop
 | .t x,v=>RT w A x v
 | .own id sz i len,v=>
    (∃b cap n e,ρ id=some (.gz b)∧v= .slice (some ⟨b,i * sz,none⟩) len cap∧len≤cap∧
      w.shape? b=some (e,n)∧i * sz+cap * sz≤n)∨
    (ρ id=some .jq∧i=0∧len=0∧v= .slice none 0 0)
 | .ptr id sz i j,v=>RP ρ id sz i j v
 | .uc e j,v=> ∃b o, ∃f:Nat→Value,v= .pointer (some ⟨b,o+j,none⟩)∧b < w.heap.size∧¬A b∧
    (∀ (k:Nat) (c:T),e[k]? =some c→w.cell? ⟨b,o+k,none⟩=some (f k)∧RT w A c (f k))
 | .jx f dc,v=> ∃vs:Array Value,v= .func (.func f) #[] vs∧dc.length=vs.size∧
    ∀ (k id sz i j:Nat) (x:Value),dc[k]? =some (id,sz,i,j)→vs[k]? =some x→RP ρ id sz i j x
 | .map id,v=> ∃b,ρ id=some (.gz b)∧v= .map (some b)
 | .it id,v=> ∃b r since last,ρ id=some (.gz b)∧v= .pointer (some ⟨r,0,none⟩)∧r < w.heap.size∧¬A r∧w.heap[r]? =some (.mapIter (some b) since #[] last)
 | .lR f g ts,v=> ∃x,v= .func (.func f) #[x] #[]∧RF w A g ts x
 | .pk ts,v=>RF w A true ts v
 | .any,_=>True
def cZ (ρ ρ':Env):Prop:= ∀id l,ρ id=some l→ρ' id=some l
theorem RP.ext {ρ ρ':Env} (h:cZ ρ ρ') {id sz i j:Nat} {x:Value} (hp:RP ρ id sz i j x):RP ρ' id sz i j x:=by
 obtain⟨b,h1,h2⟩:=hp
 exact⟨b,h _ _ h1,h2⟩
theorem RC.keeps {A A':Nat→Prop} {ρ ρ':Env} {w w':World} (hk:eK A A' w w') (hs: ∀k,k < w.heap.size→w'.shape? k=w.shape? k)
 (hρ:cZ ρ ρ') {c:C} {x:Value} (h:RC w A ρ c x):RC w' A' ρ' c x:=by
 cases c with
 |t y=>exact RT.keeps hk h
 |own id sz i len=>
  rcases h with⟨b,cap,n,e,h1,h2,h3,h4,h5⟩|⟨h1,h2⟩
  · refine .inl ⟨b,cap,n,e,hρ _ _ h1,h2,h3,?_,h5⟩
    rw[hs b ?_,h4]
    rcases Nat.lt_or_ge b w.heap.size with hlt|hge
    · exact hlt
    · simp[World.shape?,Array.getElem?_eq_none hge]at h4
  · exact .inr ⟨hρ _ _ h1,h2⟩
 |ptr id sz i j=>exact RP.ext hρ h
 |uc e j=>
  obtain⟨b,o,f,h1,h2,h3,h4⟩:=h
  obtain⟨k1,k2⟩:=hk.2 _ h2 h3
  refine⟨b,o,f,h1,Nat.lt_of_lt_of_le h2 hk.1,k2,fun k c hc=>?_⟩
  obtain⟨h5,h6⟩:=h4 k c hc
  exact⟨by rw[kW (w:=w) k1];exact h5,RT.keeps hk h6⟩
 |jx f dc=>
  obtain⟨vs,h1,h2,h3⟩:=h
  exact⟨vs,h1,h2,fun k id sz i j x hc hv=>RP.ext hρ (h3 k id sz i j x hc hv)⟩
 |map id=>
  obtain⟨b,h1,h2⟩:=h
  exact⟨b,hρ _ _ h1,h2⟩
 |it id=>
  obtain⟨b,r,since,last,h1,h2,h3,h4,h5⟩:=h
  obtain⟨k1,k2⟩:=hk.2 _ h3 h4
  exact⟨b,r,since,last,hρ _ _ h1,h2,Nat.lt_of_lt_of_le h3 hk.1,k2,by rw[k1];exact h5⟩
 |lR f g ts=>
  obtain⟨x,h1,h2⟩:=h
  exact⟨x,h1,h2.keeps hk⟩
 |pk ts=>exact RF.keeps (g:=true) (ts:=ts) (x:=x) hk h
 |any=>trivial
inductive W where
 |one (c:C)
 |agg (cs:List C)
 deriving Inhabited
inductive V where
 |w (x:W)
 |eW (ws:List W)
 |undef
 deriving Inhabited
def yl (w:World) (A:Nat→Prop) (ρ:Env) (cs:List C) (vs:Array Value):Prop:=
 cs.length=vs.size∧ ∀ (k:Nat) (c:C) (x:Value),cs[k]? =some c→vs[k]? =some x→RC w A ρ c x∧cH x=true
def RW (w:World) (A:Nat→Prop) (ρ:Env):W→Value→Prop
 | .one c,v=>RC w A ρ c v∧cH v=true
 | .agg cs,v=> ∃vs,v= .agg vs∧yl w A ρ cs vs
def RV (w:World) (A:Nat→Prop) (ρ:Env):V→Value→Prop
 | .w x,v=>RW w A ρ x v
 | .eW ws,v=> ∃vs:Array Value,v= .tuple vs∧ws.length=vs.size∧ ∀ (k:Nat) (u:W) (x:Value),ws[k]? =some u→vs[k]? =some x→RW w A ρ u x
 | .undef,_=>True
theorem yl.keeps {A A':Nat→Prop} {ρ ρ':Env} {w w':World} (hk:eK A A' w w') (hs: ∀k,k < w.heap.size→w'.shape? k=w.shape? k)
 (hρ:cZ ρ ρ') {cs:List C} {vs:Array Value} (h:yl w A ρ cs vs):yl w' A' ρ' cs vs:=
 ⟨h.1,fun k c x hc hx=>⟨(h.2 k c x hc hx).1.keeps hk hs hρ,(h.2 k c x hc hx).2⟩⟩
theorem RW.keeps {A A':Nat→Prop} {ρ ρ':Env} {w w':World} (hk:eK A A' w w') (hs: ∀k,k < w.heap.size→w'.shape? k=w.shape? k)
 (hρ:cZ ρ ρ') {u:W} {x:Value} (h:RW w A ρ u x):RW w' A' ρ' u x:=by
 cases u with
 |one c=>exact⟨h.1.keeps hk hs hρ,h.2⟩
 |agg cs=>obtain⟨vs,h1,h2⟩:=h;exact⟨vs,h1,h2.keeps hk hs hρ⟩
theorem RV.keeps {A A':Nat→Prop} {ρ ρ':Env} {w w':World} (hk:eK A A' w w') (hs: ∀k,k < w.heap.size→w'.shape? k=w.shape? k)
 (hρ:cZ ρ ρ') {u:V} {x:Value} (h:RV w A ρ u x):RV w' A' ρ' u x:=by
 cases u with
 |w y=>exact RW.keeps hk hs hρ h
 |eW ws=>obtain⟨vs,h1,h2,h3⟩:=h;exact⟨vs,h1,h2,fun k u x hu hx=>(h3 k u x hu hx).keeps hk hs hρ⟩
 |undef=>trivial
def C.LG:C→Bool
 | .pk _=>true
 |_=>false
def Av (c:C) (v:Value):Prop:=cH v=true∨c.LG=true
def cw:C→W
 | .pk ts=> .agg (ts.map .t)
 |c=> .one c
theorem SA {c:C} (h:c.LG=false):cw c= .one c:=by cases c<;>simp[C.LG]at h<;>rfl
theorem Av.rw {w:World} {A:Nat→Prop} {ρ:Env} {c:C} {v:Value} (ho:Av c v) (h:RC w A ρ c v):RW w A ρ (cw c) v:=by
 cases hp:c.LG with
 |false=>
  rw[SA hp]
  exact⟨h,ho.elim id (fun e=>by rw[hp]at e;simp at e)⟩
 |true=>
  cases c<;>simp[C.LG]at hp
  obtain⟨vs,h1,h2,h3⟩:=h
  refine⟨vs,h1,by simpa using h2,fun k c x hc hx=>?_⟩
  simp only[List.getElem?_map,Option.map_eq_some_iff]at hc
  obtain⟨t,ht,rfl⟩:=hc
  exact h3 k t x ht hx
theorem Av.pk {w:World} {A:Nat→Prop} {ρ:Env} {ts:List T} {v:Value} (h:RW w A ρ (.agg (ts.map .t)) v):RC w A ρ (.pk ts) v∧Av (.pk ts) v:=by
 obtain⟨vs,h1,h2⟩:=h
 exact⟨⟨vs,h1,by simpa using h2.1,fun k t y ht hy=>h2.2 k (.t t) y (by simp[ht]) hy⟩, .inr rfl⟩
inductive bA where
 |row (sz:Nat) (xs:List (List C))
 |mp (es:List (Value×C×Nat)) (clock:Nat)
 deriving Inhabited
def HB (w:World) (M A:Nat→Prop) (ρ:Env) (id:Nat):bA→Prop
 | .row sz xs=>
   (∀e,e∈xs→e.length=sz)∧
   ((∃b c e,ρ id=some (.gz b)∧M b∧A b∧w.heap[b]? =some (.cells c e (0,0))∧xs.length * sz≤c.size∧
     ∀ (i:Nat) (el:List C) (j:Nat) (k:C),xs[i]? =some el→el[j]? =some k→ ∃x,c[i * sz+j]? =some x∧RC w A ρ k x∧cH x=true)∨
   (ρ id=some .jq∧xs=[]))
 | .mp es clock=> ∃ (b:Nat) (en:Array MapEntry),ρ id=some (.gz b)∧M b∧A b∧w.heap[b]? =some (.map en clock)∧en.size=es.length∧
    ∀ (i:Nat) (k:Value) (c:C) (n:Nat),es[i]? =some (k,c,n)→ ∃e,en[i]? =some e∧e.key=k∧e.born=n∧RC w A ρ c e.val∧Av c e.val
def find {α:Type}:List (Nat×α)→Nat→Option α
 | [],_=>none
 |(k,v)::r,t=>if k=t then some v else find r t
structure St where
 n:Nat
 tmps:List (Nat×V)
 heap:List (Nat×bA)
 deriving Inhabited
def St.put (st:St) (dst:Option Tmp) (v:V):St:=
 match dst with
 |some d=>{st with tmps:=(d,v)::st.tmps}
 |none=>st
def BY (M A:Nat→Prop) (w:World):Prop:=
 ∀g vs,Ce Md g=some vs→g < w.heap.size∧¬M g∧¬A g∧(∃t fr,w.heap[g]? =some (.cells vs.toArray t fr))∧ ∀ (k:Nat) (v:Value),vs[k]? =some v→w.cell? ⟨g,k,none⟩=some v∧cH v=true
theorem BY.sub {M M' A A':Nat→Prop} {w:World} (h:BY M A w) (hM: ∀b,b < w.heap.size→M' b→M b) (hA: ∀b,A' b→A b):BY M' A' w:=fun g vs hg=>
 ⟨(h g vs hg).1,fun k=>(h g vs hg).2.1 (hM _ (h g vs hg).1 k),fun k=>(h g vs hg).2.2.1 (hA _ k),(h g vs hg).2.2.2⟩
structure Rel (M A:Nat→Prop) (ρ:Env) (F:Nat→Prop) (st:St) (a:Act) (w:World):Prop where
 size:a.tmps.size=st.n
 defers:a.defers=[]
 tmps: ∀t v,find st.tmps t=some v→RV w A ρ v (a.tmps.getD t undef)
 heap: ∀id blk,find st.heap id=some blk→HB w M A ρ id blk
 inj: ∀id id' blk gf b,find st.heap id=some blk→find st.heap id'=some gf→ρ id=some (.gz b)→ρ id'=some (.gz b)→id=id'
 fresh: ∀id,F id→ρ id=none
 bound: ∀b,A b→b < w.heap.size
 may: ∀b,w.heap.size≤b→M b
 ep:BY M A w
def bH (A A':Nat→Prop) (w:World):Prop:=(∀b,A b→A' b)∧ ∀b,b < w.heap.size→A' b→A b
theorem BY.Ig {M A A':Nat→Prop} {w w':World} (h:BY M A w) (he:dj M w w') (hA: ∀b,b < w.heap.size→A' b→A b):BY M A' w':=fun g vs hg=>by
 obtain⟨h1,h2,h3,hb,h4⟩:=h g vs hg
 refine⟨Nat.lt_of_lt_of_le h1 he.size,h2,fun k=>h3 (hA g h1 k),by rw[he.block g h1 h2];exact hb,fun k v hk=>?_⟩
 obtain⟨h5,h6⟩:=h4 k v hk
 exact⟨by rw[kW (w:=w) (he.block g h1 h2)];exact h5,h6⟩
theorem bH.refl (A:Nat→Prop) (w:World):bH A A w:=⟨fun _ h=>h,fun _ _ h=>h⟩
theorem bH.new (A:Nat→Prop) (w:World):bH A (fun b=>A b∨b=w.heap.size) w:=
 ⟨fun _ h=> .inl h,fun b hb h=>h.elim id (fun e=>by omega)⟩
theorem bH.trans {A A' A'':Nat→Prop} {w w':World} (h:bH A A' w) (k:bH A' A'' w') (hw:w.heap.size≤w'.heap.size):bH A A'' w:=
 ⟨fun b hb=>k.1 b (h.1 b hb),fun b hb h'=>h.2 b hb (k.2 b (Nat.lt_of_lt_of_le hb hw) h')⟩
def Sub (F:Nat→Prop) (nid:Nat):Nat→Prop:=fun id=>F id∧¬ (nid≤id∧id < nid+4)
def pE (M A:Nat→Prop) (ρ:Env) (F:Nat→Prop) (a:Act) (w:World) (r:Result Next) (st':St) (v:V):Prop:=
 ∃x w' A' ρ',(r= .ok (.value x) w'∨(r= .ok .skip w'∧x=undef))∧Rel M A' ρ' F st' a w'∧RV w' A' ρ' v x∧dj M w w'∧cZ ρ ρ'∧bH A A' w
theorem Rel.sub {M A:Nat→Prop} {ρ:Env} {F F':Nat→Prop} {st:St} {a:Act} {w:World} (h:Rel M A ρ F st a w) (hF: ∀id,F' id→F id):Rel M A ρ F' st a w:=
 ⟨h.size,h.defers,h.tmps,h.heap,h.inj,fun id hi=>h.fresh id (hF id hi),h.bound,h.may,h.ep⟩
theorem cZ.refl (ρ:Env):cZ ρ ρ:=fun _ _ h=>h
theorem cZ.trans {a b c:Env} (h:cZ a b) (k:cZ b c):cZ a c:=fun i l hi=>k i l (h i l hi)
theorem pE.same {M A:Nat→Prop} {ρ:Env} {F F':Nat→Prop} {st:St} {a:Act} {w:World} {r:Result Next} {v:V} {x:Value}
 (hr:Rel M A ρ F st a w) (hF: ∀id,F' id→F id) (h:r= .ok (.value x) w) (hv:RV w A ρ v x):pE M A ρ F' a w r st v:=
 ⟨x,w,A,ρ, .inl h,hr.sub hF,hv,dj.refl _ _,cZ.refl _,bH.refl A w⟩
theorem aA {α:Type} (k:Nat) (v:α) (r:List (Nat×α)) (t:Nat):find ((k,v)::r) t=if k=t then some v else find r t:=rfl
theorem Rel.put {M A:Nat→Prop} {ρ:Env} {F:Nat→Prop} {st:St} {a:Act} {w:World} (h:Rel M A ρ F st a w) {dst:Option Tmp} {v:V} {x:Value}
 (hv:RV w A ρ v x) (hd: ∀d,dst=some d→d < st.n):Rel M A ρ F (st.put dst v) (a.put dst x) w:=by
 cases dst with
 |none=>exact h
 |some d=>
  refine⟨by simp[Act.put,St.put,h.size],h.defers,fun t u hu=>?_,h.heap,h.inj,h.fresh,h.bound,h.may,h.ep⟩
  simp only[St.put,aA]at hu
  simp only[Act.put]
  split at hu
  · rename_i hdt
    subst hdt
    simp only[Option.some.injEq]at hu
    subst hu
    have:=hd d rfl
    rw[←h.size]at this
    simpa[Array.getD_eq_getD_getElem?,Array.getElem?_setIfInBounds_self,this]using hv
  · rename_i hdt
    have:=h.tmps t u hu
    simpa[Array.getD_eq_getD_getElem?,Array.getElem?_setIfInBounds_ne hdt]using this
theorem Rel.drew {M A:Nat→Prop} {ρ:Env} {F:Nat→Prop} {st:St} {a:Act} {w:World} (h:Rel M A ρ F st a w):
 Rel M A ρ F st a {w with drawn:=w.drawn+1}:=by
 have hk:eK A A w {w with drawn:=w.drawn+1}:=⟨Nat.le_refl _,fun b _ hn=>⟨rfl,hn⟩⟩
 refine⟨h.size,h.defers,fun t v hv=>(h.tmps t v hv).keeps hk (fun _ _=>rfl) (cZ.refl _),fun id blk hb=>?_,h.inj,h.fresh,h.bound,h.may,h.ep⟩
 have:=h.heap id blk hb
 cases blk with
 |row sz xs=>
  obtain⟨h1,h2⟩:=this
  refine⟨h1,?_⟩
  rcases h2 with⟨b,c,e,k1,k2,k3,k4,k5,k6⟩|h2
  · refine .inl ⟨b,c,e,k1,k2,k3,k4,k5,fun i el j k hi hj=>?_⟩
    obtain⟨x,hx,hc,hcell⟩:=k6 i el j k hi hj
    exact⟨x,hx,hc.keeps hk (fun _ _=>rfl) (cZ.refl _),hcell⟩
  · exact .inr h2
 |mp es clock=>
  obtain⟨b,en,k1,k2,k3,k4,k5,k6⟩:=this
  refine⟨b,en,k1,k2,k3,k4,k5,fun i k c n hi=>?_⟩
  obtain⟨e,h1,h2,h3,h4,h5⟩:=k6 i k c n hi
  exact⟨e,h1,h2,h3,h4.keeps hk (fun _ _=>rfl) (cZ.refl _),h5⟩
theorem HB.keeps {M A A':Nat→Prop} {ρ ρ':Env} {w w':World} {id:Nat} {blk:bA} (hk:eK A A' w w') (hs: ∀k,k < w.heap.size→w'.shape? k=w.shape? k)
 (hρ:cZ ρ ρ') (hA: ∀b,A b→A' b) (hsame: ∀b,ρ id=some (.gz b)→w'.heap[b]? =w.heap[b]?) (h:HB w M A ρ id blk):HB w' M A' ρ' id blk:=by
 cases blk with
 |row sz xs=>
  obtain⟨h1,h2⟩:=h
  refine⟨h1,?_⟩
  rcases h2 with⟨b,c,e,k1,k2,k3,k4,k5,k6⟩|⟨h2,h3⟩
  · refine .inl ⟨b,c,e,hρ _ _ k1,k2,hA _ k3,by rw[hsame b k1];exact k4,k5,fun i el j k hi hj=>?_⟩
    obtain⟨x,hx,hc,hcell⟩:=k6 i el j k hi hj
    exact⟨x,hx,hc.keeps hk hs hρ,hcell⟩
  · exact .inr ⟨hρ _ _ h2,h3⟩
 |mp es clock=>
  obtain⟨b,en,k1,k2,k3,k4,k5,k6⟩:=h
  refine⟨b,en,hρ _ _ k1,k2,hA _ k3,by rw[hsame b k1];exact k4,k5,fun i k c n hi=>?_⟩
  obtain⟨e,h1,h2,h3,h4,h5⟩:=k6 i k c n hi
  exact⟨e,h1,h2,h3,h4.keeps hk hs hρ,h5⟩
def iZ (ρ ρ':Env):Prop:= ∀id l,id < 4→ρ id=some l→ρ' id=some l
theorem cZ.Oi {ρ ρ':Env} (h:cZ ρ ρ'):iZ ρ ρ':=fun id l _ hl=>h id l hl
theorem iZ.refl (ρ:Env):iZ ρ ρ:=fun _ _ _ h=>h
theorem iZ.trans {a b c:Env} (h:iZ a b) (k:iZ b c):iZ a c:=fun i l hi hl=>k i l hi (h i l hi hl)
end Go.aT
end
section
namespace Go.aT
open Go
def V.ofValue (v:Value):V:=
 match v with
 | .agg cs=>if cs.toList.all cH then .w (.agg (cs.toList.map fun c=> .t (.val c)))else .undef
 | .tuple _=> .undef
 |v=> .w (.one (.t (.val v)))
theorem RV.ofValue (w:World) (A:Nat→Prop) (ρ:Env) (v:Value):RV w A ρ (V.ofValue v) v:=by
 cases v
 case agg cs=>
  simp only[V.ofValue]
  split
  · rename_i h
    refine⟨cs,rfl,by simp,fun k c x hc hx=>?_⟩
    simp only[List.getElem?_map,Array.getElem?_toList,hx,Option.map_some,Option.some.injEq]at hc
    subst hc
    have hm:x∈cs.toList:=by
     have:=List.mem_of_getElem? (l:=cs.toList) (i:=k) (a:=x) (by simpa using hx)
     exact this
    have:=List.all_eq_true.1 h x hm
    exact⟨.val this,this⟩
  · trivial
 case tuple=>trivial
 all_goals exact⟨.val rfl,rfl⟩
def Kf (g:Nat):V:=
 match Ce Md g with
 |some vs=> .w (.one (.uc (vs.map .val) 0))
 |none=>V.ofValue (.pointer (some ⟨g,0,none⟩))
def St.get (st:St):Operand→V
 | .tmp t=>(find st.tmps t).getD .undef
 | .const v=>V.ofValue v
 | .global g=>Kf g
 | .func f=>V.ofValue (.func (.func f) #[] #[])
theorem Rel.get {M A:Nat→Prop} {ρ:Env} {F:Nat→Prop} {st:St} {a:Act} {w:World} (h:Rel M A ρ F st a w) (x:Operand):RV w A ρ (st.get x) (a.eval x):=by
 cases x with
 |tmp t=>
  simp only[St.get,Act.eval]
  cases ht:find st.tmps t with
  |none=>trivial
  |some v=>exact h.tmps t v ht
 |const v=>exact RV.ofValue w A ρ v
 |global g=>
  simp only[St.get,Act.eval,Kf]
  cases hg:Ce Md g with
  |none=>exact RV.ofValue w A ρ (.pointer (some ⟨g,0,none⟩))
  |some vs=>
   obtain⟨h1,h2,h3,_,h4⟩:=h.ep g vs hg
   refine⟨⟨g,0,fun k=>(vs[k]?).getD undef,rfl,h1,h3,fun k c hc=>?_⟩,rfl⟩
   simp only[List.getElem?_map,Option.map_eq_some_iff]at hc
   obtain⟨v,hv,rfl⟩:=hc
   obtain⟨h5,h6⟩:=h4 k v hv
   simp only[hv,Option.getD_some,Nat.zero_add]
   exact⟨h5, .val h6⟩
 |func f=>exact RV.ofValue w A ρ (.func (.func f) #[] #[])
def C.val?:C→Option Value
 | .t (.val v)=>some v
 |_=>none
def gQ:List C→Option (List Value)
 | []=>some []
 |c::cs=>match c.val?,gQ cs with
  |some v,some vs=>some (v::vs)
  |_,_=>none
def W.val?:W→Option Value
 | .one c=>c.val?
 | .agg cs=>(gQ cs).map fun vs=> .agg vs.toArray
def pZ:List W→Option (List Value)
 | []=>some []
 |c::cs=>match c.val?,pZ cs with
  |some v,some vs=>some (v::vs)
  |_,_=>none
def V.val?:V→Option Value
 | .w u=>u.val?
 | .eW ws=>(pZ ws).map fun vs=> .tuple vs.toArray
 | .undef=>none
theorem C.bk {w:World} {A:Nat→Prop} {ρ:Env} {c:C} {v x:Value} (h:c.val? =some v) (hr:RC w A ρ c x):x=v:=by
 cases c with
 |t y=>
  cases y with
  |val u=>simp only[C.val?,Option.some.injEq]at h;subst h;cases hr;rfl
  |aB sz xs=>simp[C.val?]at h
 |_=>simp[C.val?]at h
theorem qU: ∀ {cs:List C} {vs:List Value},gQ cs=some vs→vs.length=cs.length
 | [],vs,h=>by simp[gQ]at h;subst h;rfl
 |c::cs,vs,h=>by
  simp only[gQ]at h
  split at h
  · rename_i v us _ hu
    simp only[Option.some.injEq]at h
    subst h
    simp[qU hu]
  · simp at h
theorem zg: ∀ {cs:List C} {vs:List Value},gQ cs=some vs→ ∀ (k:Nat) (c:C),cs[k]? =some c→ ∃v,vs[k]? =some v∧c.val? =some v
 | [],vs,h,k,c,hc=>by simp at hc
 |c::cs,vs,h,k,d,hc=>by
  simp only[gQ]at h
  split at h
  · rename_i v us hv hu
    simp only[Option.some.injEq]at h
    subst h
    cases k with
    |zero=>simp only[List.getElem?_cons_zero,Option.some.injEq]at hc;subst hc;exact⟨v,rfl,hv⟩
    |succ k=>simpa using zg hu k d (by simpa using hc)
  · simp at h
theorem yl.abL {w:World} {A:Nat→Prop} {ρ:Env} {cs:List C} {vs:List Value} {xs:Array Value} (h:gQ cs=some vs) (hr:yl w A ρ cs xs):xs=vs.toArray:=by
 apply Array.ext'
 apply List.ext_getElem?
 intro k
 have hl:=qU h
 by_cases hk:k < cs.length
 · obtain⟨v,hv,hcv⟩:=zg h k cs[k] (by simp[hk])
   have hk':k < xs.size:=hr.1▸hk
   have hx:xs[k]? =some xs[k]:=by simp[hk']
   have:=C.bk hcv (hr.2 k cs[k] xs[k] (by simp[hk]) hx).1
   simp[hv,hx,this]
 · have h1:xs.toList.length≤k:=by have:=hr.1;simp;omega
   have h2:vs.length≤k:=by omega
   simp[List.getElem?_eq_none h2]
   have:=hr.1;omega
theorem W.bk {w:World} {A:Nat→Prop} {ρ:Env} {u:W} {v x:Value} (h:u.val? =some v) (hr:RW w A ρ u x):x=v:=by
 cases u with
 |one c=>exact C.bk h hr.1
 |agg cs=>
  simp only[W.val?,Option.map_eq_some_iff]at h
  obtain⟨vs,h1,rfl⟩:=h
  obtain⟨xs,rfl,h2⟩:=hr
  rw[h2.abL h1]
theorem pG: ∀ {cs:List W} {vs:List Value},pZ cs=some vs→vs.length=cs.length
 | [],vs,h=>by simp[pZ]at h;subst h;rfl
 |c::cs,vs,h=>by
  simp only[pZ]at h
  split at h
  · rename_i v us _ hu
    simp only[Option.some.injEq]at h
    subst h
    simp[pG hu]
  · simp at h
theorem vY: ∀ {cs:List W} {vs:List Value},pZ cs=some vs→ ∀ (k:Nat) (c:W),cs[k]? =some c→ ∃v,vs[k]? =some v∧c.val? =some v
 | [],vs,h,k,c,hc=>by simp at hc
 |c::cs,vs,h,k,d,hc=>by
  simp only[pZ]at h
  split at h
  · rename_i v us hv hu
    simp only[Option.some.injEq]at h
    subst h
    cases k with
    |zero=>simp only[List.getElem?_cons_zero,Option.some.injEq]at hc;subst hc;exact⟨v,rfl,hv⟩
    |succ k=>simpa using vY hu k d (by simpa using hc)
  · simp at h
theorem V.bk {w:World} {A:Nat→Prop} {ρ:Env} {u:V} {v x:Value} (h:u.val? =some v) (hr:RV w A ρ u x):x=v:=by
 cases u with
 |w y=>exact W.bk h hr
 |eW ws=>
  simp only[V.val?,Option.map_eq_some_iff]at h
  obtain⟨vs,h1,rfl⟩:=h
  obtain⟨xs,rfl,h2,h3⟩:=hr
  congr 1
  apply Array.ext'
  apply List.ext_getElem?
  intro k
  have hl:=pG h1
  by_cases hk:k < ws.length
  · obtain⟨v,hv,hcv⟩:=vY h1 k ws[k] (by simp[hk])
    have hk':k < xs.size:=h2▸hk
    have hx:xs[k]? =some xs[k]:=by simp[hk']
    have:=W.bk hcv (h3 k ws[k] xs[k] (by simp[hk]) hx)
    simp[hv,hx,this]
  · have R9:vs.length≤k:=by omega
    simp[List.getElem?_eq_none R9]
    omega
 |undef=>simp[V.val?]at h
def aH (P:Program) {α:Type}:Sem α→Option α
 | .pure a=>some a
 | .program k=>aH P (k P)
 | .mark _ k=>aH P k
 |_=>none
theorem nN {P:Program} {α:Type} {s:Sem α} {a:α} (h:aH P s=some a) (w:World):s.run P w= .ok a w:=by
 induction s with
 |pure b=>simp only[aH,Option.some.injEq]at h;subst h;rfl
 |program k ih=>simp only[aH]at h;simp only[Sem.run];exact ih _ h
 |mark m k ih=>simp only[aH]at h;simp only[Sem.run];exact ih h
 |_=>simp[aH]at h
def fL:Op→Bool
 | .select .. =>false
 |_=>true
def aY (P:Program) (get:Operand→V) (o:Oper):Option V:=
 if fL o.op&&o.op.operands.toList.all fun x=>(get x).val?.isSome then
  match aH P (execOp (fun x=>((get x).val?).getD undef) o)with
  |some (.value v)=>some (V.ofValue v)
  |_=>none
 else none
theorem iE {P:Program} {M A:Nat→Prop} {ρ:Env} {F F':Nat→Prop} {st:St} {a:Act} {w:World} {o:Oper} {v:V}
 (h:aY P st.get o=some v) (hr:Rel M A ρ F st a w) (hF: ∀id,F' id→F id):pE M A ρ F' a w ((execOp a.eval o).run P w) st v:=by
 unfold aY at h
 split at h
 · rename_i hall
   simp only[Bool.and_eq_true,List.all_eq_true,Array.mem_toList_iff]at hall
   split at h
   · rename_i x hx
     simp only[Option.some.injEq]at h
     subst h
     have he:execOp a.eval o=execOp (fun x=>((st.get x).val?).getD undef) o:=by
      apply execOp_congr
      · intro cs b hs
        have:=hall.1
        simp[hs,fL]at this
      · intro y hy
        have:=hall.2 y hy
        cases hv:(st.get y).val? with
        |none=>simp[hv]at this
        |some u=>simpa using V.bk hv (hr.get y)
     rw[he]
     exact pE.same hr hF (nN hx w) (RV.ofValue w A ρ x)
   · simp at h
 · simp at h
end Go.aT
end
section
namespace Go.aT
open Go
def dl (ρ:Env) (id:Nat) (l:Loc):Env:=fun k=>if k=id then some l else ρ k
theorem cZ.jN {ρ:Env} {id:Nat} {l:Loc} (h:ρ id=none):cZ ρ (dl ρ id l):=by
 intro k m hk
 simp only[dl]
 split
 · rename_i e;subst e;simp[h]at hk
 · exact hk
variable {P:Program} {M A:Nat→Prop} {ρ:Env} {F:Nat→Prop} {st:St} {a:Act} {w:World}
theorem HB.lt {id:Nat} {blk:bA} {b:Nat} (h:HB w M A ρ id blk) (hρ:ρ id=some (.gz b)):b < w.heap.size∧M b∧A b:=by
 cases blk with
 |row sz xs=>
  rcases h.2 with⟨b',c,e,k1,k2,k3,k4,k5,k6⟩|⟨h2,_⟩
  · rw[hρ]at k1
    simp only[Option.some.injEq,Loc.gz.injEq]at k1
    subst k1
    refine⟨?_,k2,k3⟩
    rcases Nat.lt_or_ge b w.heap.size with hl|hg
    · exact hl
    · simp[Array.getElem?_eq_none hg]at k4
  · simp[hρ]at h2
 |mp es clock=>
  obtain⟨b',en,k1,k2,k3,k4,k5,k6⟩:=h
  rw[hρ]at k1
  simp only[Option.some.injEq,Loc.gz.injEq]at k1
  subst k1
  refine⟨?_,k2,k3⟩
  rcases Nat.lt_or_ge b w.heap.size with hl|hg
  · exact hl
  · simp[Array.getElem?_eq_none hg]at k4
theorem uq (o:Obj):eK A (fun b=>A b∨b=w.heap.size) w (w.alloc o):=
 ⟨by simp,fun b hlt hn=>⟨RowKit.Below.heap_alloc w o b hlt,fun h=>h.elim hn (fun e=>by omega)⟩⟩
theorem nM (o:Obj) (k:Nat) (hk:k < w.heap.size):(w.alloc o).shape? k=w.shape? k:=(dj.alloc (fun _=>False) w o).shape k hk
theorem Rel.alloc (h:Rel M A ρ F st a w) {nid:Nat} (hn:F nid) {sz:Nat} {xs:List (List C)} {c:Array Value} {e:TypeId}
 (hsz: ∀el,el∈xs→el.length=sz) (hlen:xs.length * sz≤c.size)
 (hc: ∀ (i:Nat) (el:List C) (j:Nat) (k:C),xs[i]? =some el→el[j]? =some k→ ∃x,c[i * sz+j]? =some x∧RC w A ρ k x∧cH x=true):
 Rel M (fun b=>A b∨b=w.heap.size) (dl ρ nid (.gz w.heap.size)) (Sub F nid) {st with heap:=(nid, .row sz xs)::st.heap} a (w.alloc (.cells c e))∧
  cZ ρ (dl ρ nid (.gz w.heap.size)):=by
 have hρ:=h.fresh nid hn
 have cJ:cZ ρ (dl ρ nid (.gz w.heap.size)):=cZ.jN hρ
 have hk:=uq (A:=A) (w:=w) (.cells c e)
 have hs:=nM (w:=w) (.cells c e)
 have hnew:(w.alloc (.cells c e)).heap[w.heap.size]? =some (.cells c e (0,0)):=heap_alloc_new w _
 refine⟨⟨h.size,h.defers,fun t v hv=>(h.tmps t v hv).keeps hk hs cJ,?_,?_,?_,?_,?_,h.ep.Ig (dj.alloc _ _ _) (fun b hb h=>h.elim id (fun e=>by omega))⟩,cJ⟩
 · intro id blk hf
   simp only[aA]at hf
   split at hf
   · rename_i e'
     subst e'
     simp only[Option.some.injEq]at hf
     subst hf
     refine⟨hsz, .inl ⟨w.heap.size,c,e,by simp[dl],h.may _ (Nat.le_refl _), .inr rfl,hnew,by simpa using hlen,fun i el j k hi hj=>?_⟩⟩
     obtain⟨x,hx,hr,h1⟩:=hc i el j k hi hj
     exact⟨x,by simpa using hx,hr.keeps hk hs cJ,h1⟩
   · have hb:=h.heap id blk hf
     exact hb.keeps hk hs cJ (fun b hb=> .inl hb) (fun b DW=>RowKit.Below.heap_alloc w _ b (hb.lt DW).1)
 · intro id id' blk gf b hf mD hr dB
   simp only[aA]at hf mD
   simp only[dl]at hr dB
   by_cases e1:nid=id<;>by_cases e2:nid=id'
   · omega
   · simp only[e2,if_false]at mD
     have:¬id'=nid:=fun e=>e2 e.symm
     simp only[this,if_false]at dB
     simp only[e1.symm,if_true,Option.some.injEq,Loc.gz.injEq]at hr
     have:=((h.heap id' gf mD).lt dB).1
     omega
   · simp only[e1,if_false]at hf
     have:¬id=nid:=fun e=>e1 e.symm
     simp only[this,if_false]at hr
     simp only[e2.symm,if_true,Option.some.injEq,Loc.gz.injEq]at dB
     have:=((h.heap id blk hf).lt hr).1
     omega
   · simp only[e1,e2,if_false]at hf mD
     have n1:¬id=nid:=fun e=>e1 e.symm
     have n2:¬id'=nid:=fun e=>e2 e.symm
     simp only[n1,n2,if_false]at hr dB
     exact h.inj id id' blk gf b hf mD hr dB
 · intro id hi
   have:¬id=nid:=fun e=>hi.2 ⟨by omega,by omega⟩
   simp only[dl,this,if_false]
   exact h.fresh id hi.1
 · intro b hb
   simp only[World.alloc,Array.size_push]
   rcases hb with hb|hb
   · have:=h.bound b hb;omega
   · omega
 · intro b hb
   refine h.may b ?_
   simp only[World.alloc,Array.size_push]at hb
   omega
def cellsOf:W→List C
 | .one c=>[c]
 | .agg cs=>cs
theorem RW.cells {u:W} {x:Value} (h:RW w A ρ u x):yl w A ρ (cellsOf u) x.cells:=by
 cases u with
 |one c=>
  have hx:x.cells= #[x]:=by
   have:=h.2
   cases x<;>simp[Value.oneCell']at this<;>rfl
  rw[hx]
  refine⟨rfl,fun k d y hd hy=>?_⟩
  cases k with
  |zero=>
   simp only[cellsOf,List.getElem?_cons_zero,Option.some.injEq]at hd
   simp at hy
   subst hd
   subst hy
   exact h
  |succ k=>simp[cellsOf]at hd
 |agg cs=>
  obtain⟨vs,rfl,h2⟩:=h
  exact h2
def deref (heap:List (Nat×bA)):C→Option (List C×Nat)
 | .ptr id sz i j=>
   match find heap id with
   |some (.row sz' xs)=>if sz'=sz then(xs[i]?).map fun e=>(e,j)else none
   |_=>none
 | .uc e j=>some (e.map .t,j)
 |_=>none
theorem uL (h:Rel M A ρ F st a w) {c:C} {x:Value} {cs:List C} {j:Nat} (hd:deref st.heap c=some (cs,j)) (hr:RC w A ρ c x):
 ∃b o,x= .pointer (some ⟨b,o+j,none⟩)∧ ∀ (k:Nat) (d:C),cs[k]? =some d→ ∃y,w.cell? ⟨b,o+k,none⟩=some y∧RC w A ρ d y∧cH y=true:=by
 cases c with
 |ptr id sz i j'=>
  simp only[deref]at hd
  split at hd
  · rename_i sz' xs hf
    split at hd
    · rename_i hsz
      subst hsz
      simp only[Option.map_eq_some_iff,Prod.mk.injEq]at hd
      obtain⟨e,he,rfl,rfl⟩:=hd
      obtain⟨b,hρ,rfl⟩:=hr
      obtain⟨_,hb⟩:=h.heap id _ hf
      rcases hb with⟨b',c,t,k1,k2,k3,k4,k5,k6⟩|⟨h2,_⟩
      · rw[hρ]at k1
        simp only[Option.some.injEq,Loc.gz.injEq]at k1
        subst k1
        refine⟨b,i * sz',rfl,fun k d hk=>?_⟩
        obtain⟨y,hy,hr,h1⟩:=k6 i e k d he hk
        exact⟨y,by simp[World.cell?,k4,hy],hr,h1⟩
      · simp[hρ]at h2
    · simp at hd
  · simp at hd
 |uc e j'=>
  simp only[deref,Option.some.injEq,Prod.mk.injEq]at hd
  obtain⟨rfl,rfl⟩:=hd
  obtain⟨b,o,f,rfl,h1,h2,h3⟩:=hr
  refine⟨b,o,rfl,fun k d hk=>?_⟩
  simp only[List.getElem?_map,Option.map_eq_some_iff]at hk
  obtain⟨t,ht,rfl⟩:=hk
  obtain⟨h4,h5⟩:=h3 k t ht
  exact⟨f k,h4,h5,h5.cell⟩
 |_=>simp[deref]at hd
def ju (P:Program) (t:TypeId):Option Bool:=
 match P.underlying t with
 |some (.struct _)|some (.array _ _)=>some true
 |some _=>some false
 |none=>none
theorem oM {t:TypeId} {b:Bool} (h:ju P t=some b):(isAgg t).run P w= .ok b w:=by
 unfold ju at h
 cases hu:P.underlying t with
 |none=>simp[hu]at h
 |some d=>
  cases d<;>simp[hu]at h<;>subst h<;>simp[isAgg,run_underlying hu]
def cF (P:Program) (t:TypeId):Option Nat:=(P.info? t).map (·.size)
theorem run_sizeOf {t:TypeId} {n:Nat} (h:cF P t=some n):(sizeOf t).run P w= .ok n w:=by
 simp only[cF,Option.map_eq_some_iff]at h
 obtain⟨i,hi,rfl⟩:=h
 simp[sizeOf,typeInfo,hi]
def jR (P:Program) (t:TypeId) (cs:List C) (j:Nat):Option W:=
 match ju P t with
 |some true=>
  match cF P t with
  |some n=>if j+n≤cs.length then some (.agg ((cs.drop j).take n))else none
  |none=>none
 |some false=>(cs[j]?).map .one
 |none=>none
def eG (P:Program) (t:TypeId) (v:V) (heap:List (Nat×bA)):Option V:=
 match v with
 | .w (.one c)=>
   match deref heap c with
   |some (cs,j)=>(jR P t cs j).map .w
   |none=>none
 |_=>none
theorem yK {t:TypeId} {b o j:Nat} {cs:List C} {u:W} (hp:jR P t cs j=some u)
 (hc: ∀ (k:Nat) (d:C),cs[k]? =some d→ ∃y,w.cell? ⟨b,o+k,none⟩=some y∧RC w A ρ d y∧cH y=true):
 ∃x,(loadVar t ⟨b,o+j,none⟩).run P w= .ok x w∧RW w A ρ u x:=by
 unfold jR at hp
 split at hp
 · rename_i hagg
   split at hp
   · rename_i n hn
     split at hp
     · rename_i hle
       simp only[Option.some.injEq]at hp
       subst hp
       have hex: ∀k,k < n→ ∃y,w.cell? ⟨b,o+j+k,none⟩=some y:=fun k hk=>by
        obtain⟨y,hy,_⟩:=hc (j+k) cs[j+k] (by simp[show j+k < cs.length by omega])
        exact⟨y,by rw[Nat.add_assoc];exact hy⟩
       have hcell: ∀k,k < n→w.cell? ((⟨b,o+j,none⟩:Addr).add k)=some ((w.cell? ⟨b,o+j+k,none⟩).getD undef):=fun k hk=>by
        obtain⟨y,hy⟩:=hex k hk
        rw[Addr.add_lit,hy];rfl
       have hl:=run_loadCells (P:=P) w ⟨b,o+j,none⟩ n _ hcell
       refine⟨.agg ((List.range n).map fun k=>(w.cell? ⟨b,o+j+k,none⟩).getD undef).toArray,by simp[loadVar,oM hagg,run_sizeOf hn,hl],_,rfl,by simp;omega,fun k c x hk hx=>?_⟩
       have hkn:k < n:=by
        have:=(List.getElem?_eq_some_iff.1 hk).1
        simp at this
        omega
       simp[hkn]at hx
       have hk':cs[j+k]? =some c:=by
        simpa[List.getElem?_take,hkn]using hk
       obtain⟨y,hy,hr,h1⟩:=hc (j+k) c hk'
       rw[←Nat.add_assoc]at hy
       rw[hy]at hx
       simp at hx
       subst hx
       exact⟨hr,h1⟩
     · simp at hp
   · simp at hp
 · rename_i hagg
   simp only[Option.map_eq_some_iff]at hp
   obtain⟨d,hd,rfl⟩:=hp
   obtain⟨y,hy,hr,h1⟩:=hc j d hd
   exact⟨y,by simp[loadVar,oM hagg,hy],hr,h1⟩
 · simp at hp
theorem ot {t:TypeId} {x:Value} {v u:V} (h:Rel M A ρ F st a w) (he:eG P t v st.heap=some u) (hv:RV w A ρ v x):
 ∃y,(Instr.loadAt t x).run P w= .ok y w∧RV w A ρ u y:=by
 unfold eG at he
 split at he
 · rename_i c
   split at he
   · rename_i cs j hd
     simp only[Option.map_eq_some_iff]at he
     obtain⟨u',hp,rfl⟩:=he
     obtain⟨b,o,rfl,hc⟩:=uL h hd hv.1
     obtain⟨y,hy,hr⟩:=yK (P:=P) hp hc
     exact⟨y,by simp[Instr.loadAt,Instr.sureAddr,hy],hr⟩
   · simp at he
 · simp at he
end Go.aT
end
section
namespace Go.aT
open Go
def jN {α:Type}:List (Nat×α)→Nat→α→List (Nat×α)
 | [],_,_=>[]
 |(k,v)::r,t,x=>if k=t then(k,x)::r else(k,v)::jN r t x
def del {α:Type}:List (Nat×α)→Nat→List (Nat×α)
 | [],_=>[]
 |(k,v)::r,t=>if k=t then del r t else(k,v)::del r t
theorem bO {α:Type} (l:List (Nat×α)) (t:Nat) (x:α) (k:Nat):find (jN l t x) k=if k=t then(find l t).map (fun _=>x)else find l k:=by
 induction l with
 |nil=>simp[jN,find]
 |cons p r ih=>
  obtain⟨q,v⟩:=p
  simp only[jN]
  by_cases hq:q=t
  · subst hq
    simp only[if_true,aA]
    by_cases hk:k=q
    · subst hk;simp
    · have:¬q=k:=fun e=>hk e.symm
      simp[hk,this]
  · simp only[hq,if_false,aA,ih]
    by_cases hk:k=t
    · subst hk
      simp[hq]
    · simp[hk]
theorem dh {α:Type} (l:List (Nat×α)) (t k:Nat):find (del l t) k=if k=t then none else find l k:=by
 induction l with
 |nil=>simp[del,find]
 |cons p r ih=>
  obtain⟨q,v⟩:=p
  simp only[del]
  by_cases hq:q=t
  · subst hq
    simp only[if_true,aA,ih]
    by_cases hk:k=q
    · simp[hk]
    · have:¬q=k:=fun e=>hk e.symm
      simp[hk,this]
  · simp only[hq,if_false,aA,ih]
    by_cases hk:k=t
    · subst hk
      simp[hq]
    · simp[hk]
variable {P:Program} {M A:Nat→Prop} {ρ:Env} {F:Nat→Prop} {st:St} {a:Act} {w:World}
theorem Rel.forget (h:Rel M A ρ F st a w) {st':St} (hn:st'.n=st.n) (ht: ∀t v,find st'.tmps t=some v→find st.tmps t=some v)
 (hh: ∀id b,find st'.heap id=some b→find st.heap id=some b):Rel M A ρ F st' a w:=
 ⟨h.size.trans hn.symm,h.defers,fun t v hv=>h.tmps t v (ht t v hv),fun id b hb=>h.heap id b (hh id b hb),
  fun id id' blk gf b h1 h2=>h.inj id id' blk gf b (hh _ _ h1) (hh _ _ h2),h.fresh,h.bound,h.may,h.ep⟩
theorem Rel.drop (h:Rel M A ρ F st a w) (id:Nat):Rel M A ρ F {st with heap:=del st.heap id} a w:=
 h.forget rfl (fun _ _ h=>h) (fun k b hk=>by
  simp only[dh]at hk
  split at hk
  · simp at hk
  · exact hk)
theorem mr {w:World} {b:Nat} {c c':Array Value} {e:TypeId} (hc:w.heap[b]? =some (.cells c e (0,0))) (hsize:c'.size=c.size) (k:Nat):(w.setRow b c').shape? k=w.shape? k:=by
 by_cases hk:k=b
 · subst hk
   simp[World.shape?,setRow_heap w k c c' e _ hc,hc,hsize]
 · simp[World.shape?,setRow_other w b k c' hk]
theorem dj.setRow {w:World} {b:Nat} {c c':Array Value} {e:TypeId} (hc:w.heap[b]? =some (.cells c e (0,0))) (hsize:c'.size=c.size) (hM:M b):dj M w (w.setRow b c'):=
 ⟨rfl,rfl,rfl,by simp,fun k _ hn=>setRow_other w b k c' (fun e=>hn (e▸hM)),fun k _=>mr hc hsize k⟩
theorem Rel.write (h:Rel M A ρ F st a w) {id sz:Nat} {xs xs':List (List C)} {b:Nat} {c c':Array Value} {e:TypeId}
 (hf:find st.heap id=some (.row sz xs)) (hρ:ρ id=some (.gz b)) (hc:w.heap[b]? =some (.cells c e (0,0))) (hsize:c'.size=c.size)
 (hsz: ∀el,el∈xs'→el.length=sz) (hlen:xs'.length * sz≤c'.size)
 (hcell: ∀ (i:Nat) (el:List C) (j:Nat) (k:C),xs'[i]? =some el→el[j]? =some k→ ∃x,c'[i * sz+j]? =some x∧RC w A ρ k x∧cH x=true):
 Rel M A ρ F {st with heap:=jN st.heap id (.row sz xs')} a (w.setRow b c')∧dj M w (w.setRow b c'):=by
 obtain⟨hb,hM,hA⟩:=(h.heap id _ hf).lt hρ
 have hk:eK A A w (w.setRow b c'):=⟨by simp,fun k _ hn=>⟨setRow_other w b k c' (fun e=>hn (e▸hA)),hn⟩⟩
 have hs: ∀k,k < w.heap.size→(w.setRow b c').shape? k=w.shape? k:=fun k _=>mr hc hsize k
 refine⟨⟨h.size,h.defers,fun t v hv=>(h.tmps t v hv).keeps hk hs (cZ.refl _),?_,?_,h.fresh,?_,?_,h.ep.Ig (dj.setRow hc hsize hM) (fun _ _ h=>h)⟩,dj.setRow hc hsize hM⟩
 · intro k blk CY
   simp only[bO]at CY
   split at CY
   · rename_i ek
     subst ek
     simp only[hf,Option.map_some,Option.some.injEq]at CY
     subst CY
     refine⟨hsz, .inl ⟨b,c',e,hρ,hM,hA,setRow_heap w b c c' e _ hc,hlen,fun i el j q hi hj=>?_⟩⟩
     obtain⟨x,hx,hr,h1⟩:=hcell i el j q hi hj
     exact⟨x,hx,hr.keeps hk hs (cZ.refl _),h1⟩
   · rename_i ek
     refine(h.heap k blk CY).keeps hk hs (cZ.refl _) (fun _ h=>h) (fun b' hb'=>setRow_other w b b' c' (fun e=>ek ?_))
     subst e
     exact h.inj k id blk _ b' CY hf hb' hρ
 · intro k k' blk gf b' h1 h2 r1 r2
   have g: ∀q bl,find (jN st.heap id (.row sz xs')) q=some bl→ ∃Ah,find st.heap q=some Ah:=by
    intro q bl hq
    simp only[bO]at hq
    split at hq
    · rename_i e;subst e;exact⟨_,hf⟩
    · exact⟨_,hq⟩
   obtain⟨Yw,g1⟩:=g k blk h1
   obtain⟨TU,g2⟩:=g k' gf h2
   exact h.inj k k' Yw TU b' g1 g2 r1 r2
 · intro q hq;simpa using h.bound q hq
 · intro q hq;exact h.may q (by simpa using hq)
theorem Rel.rename (h:Rel M A ρ F st a w) {id nid:Nat} {blk:bA} (hf:find st.heap id=some blk) (hn:F nid):
 ∃l,ρ id=some l∧Rel M A (dl ρ nid l) (Sub F nid) {st with heap:=(nid,blk)::del st.heap id} a w∧cZ ρ (dl ρ nid l):=by
 have hb:=h.heap id blk hf
 have hl: ∃l,ρ id=some l:=by
  cases blk with
  |row sz xs=>rcases hb.2 with⟨b,c,e,k1,_⟩|⟨k1,_⟩<;>exact⟨_,k1⟩
  |mp es clock=>obtain⟨b,en,k1,_⟩:=hb;exact⟨_,k1⟩
 obtain⟨l,hl⟩:=hl
 have hnone:=h.fresh nid hn
 have cJ:cZ ρ (dl ρ nid l):=cZ.jN hnone
 have hk:eK A A w w:=⟨Nat.le_refl _,fun b _ hn=>⟨rfl,hn⟩⟩
 refine⟨l,hl,⟨h.size,h.defers,fun t v hv=>(h.tmps t v hv).keeps hk (fun _ _=>rfl) cJ,?_,?_,?_,h.bound,h.may,h.ep⟩,cJ⟩
 · intro k bl hk'
   simp only[aA]at hk'
   split at hk'
   · rename_i ek
     subst ek
     simp only[Option.some.injEq]at hk'
     subst hk'
     cases blk with
     |row sz xs=>
      refine⟨hb.1,?_⟩
      rcases hb.2 with⟨b,c,e,k1,k2,k3,k4,k5,k6⟩|⟨k1,k2⟩
      · rw[hl]at k1
        refine .inl ⟨b,c,e,by simp[dl,k1],k2,k3,k4,k5,fun i el j q hi hj=>?_⟩
        obtain⟨x,hx,hr,h1⟩:=k6 i el j q hi hj
        exact⟨x,hx,hr.keeps hk (fun _ _=>rfl) cJ,h1⟩
      · rw[hl]at k1
        exact .inr ⟨by simp[dl,k1],k2⟩
     |mp es clock=>
      obtain⟨b,en,k1,k2,k3,k4,k5,k6⟩:=hb
      rw[hl]at k1
      refine⟨b,en,by simp[dl,k1],k2,k3,k4,k5,fun i k c n hi=>?_⟩
      obtain⟨e,h1,h2,h3,h4,h5⟩:=k6 i k c n hi
      exact⟨e,h1,h2,h3,h4.keeps hk (fun _ _=>rfl) cJ,h5⟩
   · simp only[dh]at hk'
     split at hk'
     · simp at hk'
     · exact(h.heap k bl hk').keeps hk (fun _ _=>rfl) cJ (fun _ h=>h) (fun _ _=>rfl)
 · intro k k' bl Ah b h1 h2 r1 r2
   simp only[aA,dh]at h1 h2
   simp only[dl]at r1 r2
   by_cases e1:nid=k<;>by_cases e2:nid=k'
   · omega
   · exfalso
     simp only[e2,if_false]at h2
     have n2:¬k'=nid:=fun e=>e2 e.symm
     simp only[n2,if_false]at r2
     simp only[e1.symm,if_true,Option.some.injEq]at r1
     by_cases e3:k'=id
     · simp[e3]at h2
     · simp only[e3,if_false]at h2
       exact e3 (h.inj k' id Ah blk b h2 hf r2 (r1▸hl))
   · exfalso
     simp only[e1,if_false]at h1
     have n1:¬k=nid:=fun e=>e1 e.symm
     simp only[n1,if_false]at r1
     simp only[e2.symm,if_true,Option.some.injEq]at r2
     by_cases e3:k=id
     · simp[e3]at h1
     · simp only[e3,if_false]at h1
       exact e3 (h.inj k id bl blk b h1 hf r1 (r2▸hl))
   · simp only[e1,e2,if_false]at h1 h2
     have n1:¬k=nid:=fun e=>e1 e.symm
     have n2:¬k'=nid:=fun e=>e2 e.symm
     simp only[n1,n2,if_false]at r1 r2
     by_cases e3:k=id<;>by_cases e4:k'=id<;>simp only[e3,e4,if_true,if_false]at h1 h2<;>try (simp at h1;done)
     · simp at h2
     · exact h.inj k k' bl Ah b h1 h2 r1 r2
 · intro k hk'
   have:¬k=nid:=fun e=>hk'.2 ⟨by omega,by omega⟩
   simp only[dl,this,if_false]
   exact h.fresh k hk'.1
def aR {α:Type} (xs:List α) (j:Nat) (ys:List α):List α:=xs.take j++ys++xs.drop (j+ys.length)
theorem cj {α:Type} {xs:List α} {j:Nat} {ys:List α} (h:j+ys.length≤xs.length):(aR xs j ys).length=xs.length:=by
 simp[aR];omega
theorem fH {α:Type} {xs:List α} {j:Nat} {ys:List α} (h:j+ys.length≤xs.length) (k:Nat):
 (aR xs j ys)[k]? =if j≤k∧k < j+ys.length then ys[k - j]? else xs[k]? :=by
 unfold aR
 have hj:(xs.take j).length=j:=by simp;omega
 by_cases h1:k < j
 · have n1:¬ (j≤k∧k < j+ys.length):=by omega
   rw[if_neg n1,List.append_assoc,List.getElem?_append_left (by omega),List.getElem?_take,if_pos h1]
 · by_cases h2:k < j+ys.length
   · rw[if_pos ⟨by omega,h2⟩,List.append_assoc,List.getElem?_append_right (by omega),hj,List.getElem?_append_left (by omega)]
   · have n1:¬ (j≤k∧k < j+ys.length):=by omega
     rw[if_neg n1,List.getElem?_append_right (by simp;omega),List.getElem?_drop]
     congr 1
     simp
     omega
def jJ (P:Program) (t:TypeId) (p v:V) (heap:List (Nat×bA)):Option (List (Nat×bA)):=
 match p,v with
 | .w (.one (.ptr id sz i j)), .w u=>
   match find heap id,cF P t with
   |some (.row sz' xs),some n=>
    match xs[i]? with
    |some el=>if sz'=sz∧(cellsOf u).length=n∧j+n≤el.length then some (jN heap id (.row sz (xs.set i (aR el j (cellsOf u)))))else none
    |none=>none
   |_,_=>none
 |_,_=>none
theorem vv {t:TypeId} {p v:V} {x y:Value} {heap':List (Nat×bA)} (h:Rel M A ρ F st a w) (he:jJ P t p v st.heap=some heap')
 (hp:RV w A ρ p x) (hv:RV w A ρ v y): ∃w',(Instr.storeAt t x y).run P w= .ok () w'∧Rel M A ρ F {st with heap:=heap'} a w'∧dj M w w':=by
 unfold jJ at he
 split at he
 · rename_i id sz i j u
   split at he
   · rename_i sz' xs n hf hn
     split at he
     · rename_i el hel
       split at he
       · rename_i hc
         obtain⟨rfl,hu,hjn⟩:=hc
         simp only[Option.some.injEq]at he
         subst he
         obtain⟨b,hρ,rfl⟩:=hp.1
         obtain⟨hsz,hb⟩:=h.heap id _ hf
         rcases hb with⟨b',c,e,k1,k2,k3,k4,k5,k6⟩|⟨h2,_⟩
         · rw[hρ]at k1
           simp only[Option.some.injEq,Loc.gz.injEq]at k1
           subst k1
           have hcs:=RW.cells hv
           have hlen:el.length=sz':=hsz el (List.mem_of_getElem? hel)
           have hi:i < xs.length:=(List.getElem?_eq_some_iff.1 hel).1
           have hfit:i * sz'+j+y.cells.toList.length≤c.size:=by
            have h1:y.cells.toList.length=n:=by simp[←hcs.1,hu]
            have h2:(i+1) * sz'≤xs.length * sz':=Nat.mul_le_mul_right _ hi
            rw[Nat.add_mul]at h2
            omega
           have hone: ∀q∈y.cells.toList,q.oneCell'=true:=by
            intro q hq
            obtain⟨k,hk,rfl⟩:=List.getElem_of_mem hq
            have hk':k < (cellsOf u).length:=by simp at hk;rw[hcs.1];exact hk
            have hkc:k < y.cells.size:=by simpa using hk
            exact(hcs.2 k (cellsOf u)[k] y.cells[k] (by simp[hk']) (by simp[hkc])).2
           have hrun:=run_storeCells_at P b (i * sz'+j) e y.cells.toList 0 c w k4 (by simpa using hfit) hone
           simp only[Nat.add_zero]at hrun
           have eF:c.toList.length=c.size:=by simp
           obtain⟨r1,r2⟩:=h.write (c':=(aR c.toList (i * sz'+j) y.cells.toList).toArray) (xs':=xs.set i (aR el j (cellsOf u))) hf hρ k4
            (by simp only[List.size_toArray];rw[cj (by omega)];simp)
            (fun DZ C2=>by
              rcases List.mem_or_eq_of_mem_set C2 with h1|h1
              · exact hsz DZ h1
              · rw[h1,cj (by omega)];exact hlen)
            (by simp only[List.length_set,List.size_toArray];rw[cj (by omega)];simpa using k5)
            (fun i' DZ j' q hi' hj'=>by
              simp only[List.getElem?_toArray]
              rw[fH (by omega)]
              have j8:y.cells.toList.length=(cellsOf u).length:=by simp[hcs.1]
              by_cases HO:i'=i
              · subst HO
                rw[List.getElem?_set_self hi]at hi'
                simp only[Option.some.injEq]at hi'
                subst hi'
                rw[fH (by omega)]at hj'
                split at hj'
                · rename_i hin
                  have hk':j' - j < y.cells.size:=by rw[←hcs.1];omega
                  refine⟨y.cells[j' - j],?_,hcs.2 (j' - j) q _ hj' (by simp[hk'])⟩
                  rw[if_pos (by omega)]
                  rw[show i' * sz'+j' - (i' * sz'+j)=j' - j by omega]
                  simp[hk']
                · rename_i hin
                  rw[if_neg (by omega)]
                  obtain⟨z,hz,hr,h1⟩:=k6 i' el j' q hel hj'
                  exact⟨z,by simpa using hz,hr,h1⟩
              · rw[List.getElem?_set_ne (fun e=>HO e.symm)]at hi'
                have hl':DZ.length=sz':=hsz DZ (List.mem_of_getElem? hi')
                have hj2:j' < sz':=by rw[←hl'];exact(List.getElem?_eq_some_iff.1 hj').1
                have hout:¬ (i * sz'+j≤i' * sz'+j'∧i' * sz'+j' < i * sz'+j+y.cells.toList.length):=by
                 intro hh
                 rcases Nat.lt_or_gt_of_ne HO with hlt|hgt
                 · have:(i'+1) * sz'≤i * sz':=Nat.mul_le_mul_right _ hlt
                   rw[Nat.add_mul]at this
                   omega
                 · have:(i+1) * sz'≤i' * sz':=Nat.mul_le_mul_right _ hgt
                   rw[Nat.add_mul]at this
                   omega
                rw[if_neg hout]
                obtain⟨z,hz,hr,h1⟩:=k6 i' DZ j' q hi' hj'
                exact⟨z,by simpa using hz,hr,h1⟩)
           refine⟨_,?_,r1,r2⟩
           have MN:y.cells.size=n:=by rw[←hcs.1,hu]
           simp only[Instr.storeAt,Instr.sureAddr,storeVar,Sem.run_bind,Sem.run_pure,Result.andThen_ok,run_sizeOf hn,MN,ne_eq,not_true_eq_false,if_false]
           simpa[aR]using hrun
         · simp[hρ]at h2
       · simp at he
     · simp at he
   · simp at he
 · simp at he
end Go.aT
end
section
namespace Go.aT
open Go
variable {P:Program} {M A:Nat→Prop} {ρ:Env} {F:Nat→Prop} {st:St} {a:Act} {w:World}
def C.shift:C→Nat→Option C
 | .ptr id sz i j,n=>some (.ptr id sz i (j+n))
 | .uc e j,n=>some (.uc e (j+n))
 |_,_=>none
theorem C.tY {c d:C} {n:Nat} {x:Value} (h:c.shift n=some d) (hr:RC w A ρ c x):
 ∃b o,x= .pointer (some ⟨b,o,none⟩)∧RC w A ρ d (.pointer (some ⟨b,o+n,none⟩)):=by
 cases c with
 |ptr id sz i j=>
  simp only[C.shift,Option.some.injEq]at h
  subst h
  obtain⟨b,h1,rfl⟩:=hr
  exact⟨b,_,rfl,b,h1,by rw[Nat.add_assoc]⟩
 |uc e j=>
  simp only[C.shift,Option.some.injEq]at h
  subst h
  obtain⟨b,o,f,rfl,h1,h2,h3⟩:=hr
  exact⟨b,_,rfl,b,o,f,by rw[Nat.add_assoc],h1,h2,h3⟩
 |_=>simp[C.shift]at h
def gy (P:Program) (s:TypeId) (v:V) (f:Nat):Option V:=
 match v with
 | .w (.one c)=>
   match P.underlying s with
   |some (.struct fields)=>
    match fields[f]? with
    |some fd=>
     match cF P fd.type with
     |some (_+1)=>(c.shift fd.offset).map fun d=> .w (.one d)
     |_=>none
    |none=>none
   |_=>none
 |_=>none
theorem pA {s:TypeId} {v u:V} {f:Nat} {x:Value} (he:gy P s v f=some u) (hv:RV w A ρ v x):
 ∃y,(Instr.fieldAt s x f).run P w= .ok y w∧RV w A ρ u y:=by
 unfold gy at he
 split at he
 · split at he
   · rename_i fields hu
     split at he
     · rename_i fd LM
       split at he
       · rename_i n hn
         simp only[Option.map_eq_some_iff]at he
         obtain⟨d,hd,rfl⟩:=he
         obtain⟨b,o,rfl,hr⟩:=C.tY hd hv.1
         refine⟨_,?_,hr,rfl⟩
         simp[Instr.fieldAt,run_underlying hu,LM,Instr.sureAddr,fieldPlace,run_sizeOf hn,Addr.add_lit]
       · simp at he
     · simp at he
   · simp at he
 · simp at he
def V.gb:V→Option (IntKind×Int)
 | .w (.one (.t (.val (.int k n))))=>some (k,n)
 |_=>none
theorem V.iT {v:V} {k:IntKind} {n:Int} {x:Value} (h:v.gb =some (k,n)) (hr:RV w A ρ v x):x= .int k n:=by
 unfold V.gb at h
 split at h
 · simp only[Option.some.injEq,Prod.mk.injEq]at h
   obtain⟨rfl,rfl⟩:=h
   cases hr.1
   rfl
 · simp at h
def elemAt (c:C) (n:Int) (size:Nat):Option C:=
 match c with
 | .own id sz i len=>if sz=size∧0≤n∧n < len then some (.ptr id sz (i+n.toNat) 0)else none
 | .t (.aB sz xs)=>if sz=size∧0≤n∧n < xs.length then(xs[n.toNat]?).map fun e=> .uc e 0 else none
 |_=>none
theorem BH {c d:C} {n:Int} {size:Nat} {x:Value} (h:elemAt c n size=some d) (hr:RC w A ρ c x):
 ∃b o len cap,x= .slice (some ⟨b,o,none⟩) len cap∧0≤n∧n < len∧RC w A ρ d (.pointer (some ⟨b,o+n.toNat * size,none⟩)):=by
 unfold elemAt at h
 split at h
 · rename_i id sz i len
   split at h
   · rename_i hc
     obtain⟨rfl,h0,h1⟩:=hc
     simp only[Option.some.injEq]at h
     subst h
     rcases hr with⟨b,cap,q,e,k1,rfl,k3,k4,k5⟩|⟨_,_,rfl,_⟩
     · exact⟨b,_,len,cap,rfl,h0,h1,b,k1,by rw[Nat.add_mul];simp⟩
     · omega
   · simp at h
 · rename_i sz xs
   split at h
   · rename_i hc
     obtain⟨rfl,h0,h1⟩:=hc
     simp only[Option.map_eq_some_iff]at h
     obtain⟨e,he,rfl⟩:=h
     cases hr with
     |nil=>simp at he
     |aB f hl hcap hb hA hsz eF Rw=>
      rename_i b off len cap
      refine⟨b,off,len,cap,rfl,h0,by rw[hl];exact h1,b,off+n.toNat * sz,f n.toNat,by simp,hb,hA,fun k c hk=>⟨?_,Rw _ e k c he hk⟩⟩
      exact eF _ e k c he hk
   · simp at h
 · simp at h
def fh (P:Program) (t:TypeId) (v i:V):Option V:=
 match v,i.gb with
 | .w (.one c),some (_,n)=>
   match P.underlying t with
   |some (.slice elem)=>
    match cF P elem with
    |some size=>(elemAt c n size).map fun d=> .w (.one d)
    |none=>none
   |some (.array len elem)=>
    match cF P elem with
    |some size=>if 0≤n∧n < len then(c.shift (n.toNat * size)).map fun d=> .w (.one d)else none
    |none=>none
   |_=>none
 |_,_=>none
theorem pz {t:TypeId} {v i u:V} {x y:Value} (he:fh P t v i=some u) (hv:RV w A ρ v x) (hi:RV w A ρ i y):
 ∃z,(Instr.indexAt t x y).run P w= .ok z w∧RV w A ρ u z:=by
 unfold fh at he
 split at he
 · rename_i c k n hn
   have hy:=V.iT hn hi
   subst hy
   split at he
   · rename_i elem hu
     split at he
     · rename_i size hs
       simp only[Option.map_eq_some_iff]at he
       obtain⟨d,hd,rfl⟩:=he
       obtain⟨b,o,len,cap,rfl,h0,h1,hr⟩:=BH hd hv.1
       refine⟨_,?_,hr,rfl⟩
       simp[Instr.indexAt,asIntOf,run_underlying hu,run_sizeOf hs,h0,h1,Addr.add_lit]
     · simp at he
   · rename_i len elem hu
     split at he
     · rename_i size hs
       split at he
       · rename_i hc
         simp only[Option.map_eq_some_iff]at he
         obtain⟨d,hd,rfl⟩:=he
         obtain⟨b,o,rfl,hr⟩:=C.tY hd hv.1
         refine⟨_,?_,hr,rfl⟩
         simp[Instr.indexAt,asIntOf,run_underlying hu,run_sizeOf hs,Instr.sureAddr,hc.1,hc.2,Addr.add_lit]
       · simp at he
     · simp at he
   · simp at he
 · simp at he
def oW (P:Program) (t:TypeId) (v:V) (f:Nat):Option V:=
 match v with
 | .w (.agg cs)=>
   match P.underlying t with
   |some (.struct fields)=>
    match fields[f]? with
    |some fd=>(jR P fd.type cs fd.offset).map .w
    |none=>none
   |_=>none
 |_=>none
theorem Ez {t:TypeId} {cs:List C} {off:Nat} {u:W} {vs:Array Value} (hp:jR P t cs off=some u) (hr:yl w A ρ cs vs):
 ∃x,(part t vs off).run P w= .ok x w∧RW w A ρ u x:=by
 unfold jR at hp
 split at hp
 · rename_i hagg
   split at hp
   · rename_i n hn
     split at hp
     · rename_i hle
       simp only[Option.some.injEq]at hp
       subst hp
       refine⟨.agg (vs.extract off (off+n)),by simp[part,oM hagg,run_sizeOf hn],_,rfl,by simp;have:=hr.1;omega,fun k c x hk hx=>?_⟩
       have hkn:k < n:=by
        have:=(List.getElem?_eq_some_iff.1 hk).1
        simp at this
        omega
       have hk':cs[off+k]? =some c:=by simpa[List.getElem?_take,hkn]using hk
       have hx':vs[off+k]? =some x:=by
        have hsz:off+k < vs.size:=by have:=hr.1;omega
        have:=Array.getElem?_extract (xs:=vs) (start:=off) (stop:=off+n) (i:=k)
        rw[this]at hx
        split at hx
        · exact hx
        · simp at hx
       exact hr.2 _ c x hk' hx'
     · simp at hp
   · simp at hp
 · rename_i hagg
   simp only[Option.map_eq_some_iff]at hp
   obtain⟨d,hd,rfl⟩:=hp
   have hl:off < vs.size:=by rw[←hr.1];exact(List.getElem?_eq_some_iff.1 hd).1
   have hx:vs[off]? =some vs[off]:=by simp[hl]
   have:=hr.2 off d _ hd hx
   exact⟨vs[off],by simp[part,oM hagg,hl],this⟩
 · simp at hp
theorem vA {t:TypeId} {v u:V} {f:Nat} {x:Value} (he:oW P t v f=some u) (hv:RV w A ρ v x):
 ∃y,(Instr.field t x f).run P w= .ok y w∧RV w A ρ u y:=by
 unfold oW at he
 split at he
 · split at he
   · rename_i fields hu
     split at he
     · rename_i fd LM
       simp only[Option.map_eq_some_iff]at he
       obtain⟨d,hd,rfl⟩:=he
       obtain⟨vs,rfl,hr⟩:=hv
       obtain⟨y,hy,dB⟩:=Ez (P:=P) hd hr
       exact⟨y,by simp[Instr.field,run_underlying hu,LM,asAgg,hy],dB⟩
     · simp at he
   · simp at he
 · simp at he
def BL (c:C) (l h:Nat):Option C:=
 match c with
 | .own id sz i len=>if h=l∧l≠0 then some (.t (.aB sz []))else if l≤h∧h≤len then some (.own id sz (i+l) (h - l))else none
 | .t (.aB sz xs)=>if l≤h∧h≤xs.length then some (.t (.aB sz ((xs.drop l).take (h - l))))else none
 |_=>none
def C.wX:C→Option Nat
 | .own _ _ _ len=>some len
 | .t (.aB _ xs)=>some xs.length
 | .t (.val (.slice none 0 0))=>some 0
 |_=>none
def C.Qt:C→Option Nat
 | .own _ sz _ _=>some sz
 | .t (.aB sz _)=>some sz
 |_=>none
theorem C.sZ {c:C} {n:Nat} {x:Value} (h:c.wX =some n) (hr:RC w A ρ c x): ∃b cap,x= .slice b n cap∧n≤cap:=by
 unfold C.wX at h
 split at h
 · simp only[Option.some.injEq]at h
   subst h
   rcases hr with⟨b,cap,q,e,k1,rfl,k3,k4,k5⟩|⟨_,_,rfl,rfl⟩
   · exact⟨_,_,rfl,k3⟩
   · exact⟨_,_,rfl,Nat.le_refl _⟩
 · simp only[Option.some.injEq]at h
   subst h
   cases hr with
   |nil=>exact⟨_,_,rfl,by simp⟩
   |aB f hl hcap hb hA hsz hc Rw=>exact⟨_,_,by rw[hl],by rw[←hl];exact hcap⟩
 · simp only[Option.some.injEq]at h
   subst h
   cases hr
   exact⟨_,_,rfl,Nat.le_refl _⟩
 · simp at h
def gl (v:Option V) (d:Nat):Option Nat:=
 match v with
 |none=>some d
 |some v=>match v.gb with
  |some (_,n)=>if 0≤n then some n.toNat else none
  |none=>none
def oV (P:Program) (t:TypeId) (v:V) (lo hi:Option V):Option V:=
 match v with
 | .w (.one c)=>
   match P.underlying t,c.wX with
   |some (.slice elem),some len=>
    match gl lo 0,gl hi len,cF P elem with
    |some l,some h,some size=>if l≤h∧h≤len∧c.Qt =some size then(BL c l h).map fun d=> .w (.one d)else none
    |_,_,_=>none
   |_,_=>none
 |_=>none
theorem E2 {c d:C} {l h len cap size:Nat} {b:Option Addr} (hd:BL c l h=some d) (hs:c.Qt =some size) (hlh:l≤h) (hhl:h≤len) (hcap:len≤cap)
 (hr:RC w A ρ c (.slice b len cap)):RC w A ρ d (.slice (if cap=l then b else b.map (·.add (l * size))) (h - l) (cap - l)):=by
 unfold BL at hd
 split at hd
 · rename_i id sz i len'
   simp only[C.Qt,Option.some.injEq]at hs
   subst hs
   split at hd
   · rename_i e
     obtain⟨e,_⟩:=e
     subst e
     simp only[Option.some.injEq]at hd
     subst hd
     simp only[Nat.sub_self]
     exact .nil
   · rename_i hne
     split at hd
     · rename_i hc
       simp only[Option.some.injEq]at hd
       subst hd
       by_cases F6:l=0
       · subst F6
         rcases hr with⟨b',cap',q,e,k1,k2,k3,k4,k5⟩|⟨h0,sB,h2,h3⟩
         · simp only[Value.slice.injEq]at k2
           obtain⟨rfl,rfl,rfl⟩:=k2
           refine .inl ⟨b',cap,q,e,k1,?_,by omega,k4,by simpa using k5⟩
           by_cases hc0:cap=0
           · simp[hc0]
           · simp[hc0,Addr.add_lit]
         · simp only[Value.slice.injEq]at h3
           obtain⟨rfl,rfl,rfl⟩:=h3
           refine .inr ⟨h0,by omega,by omega,?_⟩
           have:h=0:=by omega
           subst this
           simp
       rcases hr with⟨b',cap',q,e,k1,k2,k3,k4,k5⟩|⟨_,_,h2,h3⟩
       · simp only[Value.slice.injEq]at k2
         obtain⟨rfl,rfl,rfl⟩:=k2
         have RK:¬cap=l:=by omega
         rw[if_neg RK]
         refine .inl ⟨b',cap - l,q,e,k1,?_,by omega,k4,?_⟩
         · simp[Addr.add_lit,Nat.add_mul]
         · have:(cap - l) * sz+l * sz=cap * sz:=by rw[←Nat.add_mul];congr 1;omega
           rw[Nat.add_mul]
           omega
       · simp only[Value.slice.injEq]at h3
         omega
     · simp at hd
 · rename_i sz xs
   simp only[C.Qt,Option.some.injEq]at hs
   subst hs
   split at hd
   · rename_i hc
     simp only[Option.some.injEq]at hd
     subst hd
     by_cases hz:h - l=0
     · rw[hz]
       simp only[List.take_zero]
       exact .nil
     · cases hr with
       |nil=>simp at hc;omega
       |aB f hl apS hb hA hsz eF Rw=>
        rename_i b' off
        have RK:¬cap=l:=by omega
        rw[if_neg RK]
        simp only[Option.map_some,Addr.add_lit]
        refine .aB (fun i j=>f (l+i) j) (by simp;omega) (by omega) hb hA (fun e he=>hsz e (List.mem_of_mem_drop (List.mem_of_mem_take he))) (fun i e j c hi hj=>?_) (fun i e j c hi hj=>?_)
        · have DU:i < h - l:=by
           have:=(List.getElem?_eq_some_iff.1 hi).1
           simp at this;omega
          have hi':xs[l+i]? =some e:=by simpa[List.getElem?_take,DU]using hi
          have:=eF (l+i) e j c hi' hj
          rw[Nat.add_mul]at this
          rw[show off+l * sz+i * sz+j=off+(l * sz+i * sz)+j by omega]
          exact this
        · have DU:i < h - l:=by
           have:=(List.getElem?_eq_some_iff.1 hi).1
           simp at this;omega
          have hi':xs[l+i]? =some e:=by simpa[List.getElem?_take,DU]using hi
          exact Rw (l+i) e j c hi' hj
   · simp at hd
 · simp at hd
theorem uP {v:Option V} {x:Option Value} {d n:Nat} (h:gl v d=some n) (hr: ∀u,v=some u→ ∃y,x=some y∧RV w A ρ u y) (hn:v=none→x=none):
 (x=none∧n=d)∨ ∃k,x=some (.int k n):=by
 unfold gl at h
 split at h
 · simp only[Option.some.injEq]at h
   exact .inl ⟨hn rfl,h.symm⟩
 · rename_i u
   split at h
   · rename_i k m hm
     split at h
     · rename_i h0
       simp only[Option.some.injEq]at h
       obtain⟨y,rfl,hy⟩:=hr u rfl
       have:=V.iT hm hy
       subst this
       refine .inr ⟨k,?_⟩
       rw[←h,Int.toNat_of_nonneg h0]
     · simp at h
   · simp at h
theorem vw {t:TypeId} {v u:V} {lo hi:Option V} {x:Value} {lo' hi':Option Value} (he:oV P t v lo hi=some u) (hv:RV w A ρ v x)
 (hlo: ∀u,lo=some u→ ∃y,lo'=some y∧RV w A ρ u y) (afU:lo=none→lo'=none)
 (hhi: ∀u,hi=some u→ ∃y,hi'=some y∧RV w A ρ u y) (agC:hi=none→hi'=none):
 ∃z,(Instr.sliceAt t x lo' hi' none).run P w= .ok z w∧RV w A ρ u z:=by
 unfold oV at he
 split at he
 · rename_i c
   split at he
   · rename_i elem len hu hl
     split at he
     · rename_i l h size h1 h2 hs
       split at he
       · rename_i hc
         obtain⟨c1,c2,c3⟩:=hc
         simp only[Option.map_eq_some_iff]at he
         obtain⟨d,hd,rfl⟩:=he
         obtain⟨b,cap,rfl,hcap⟩:=C.sZ hl hv.1
         have hr:=E2 hd c3 c1 c2 hcap hv.1
         refine⟨_,?_,hr,rfl⟩
         have pn:=uP h1 hlo afU
         have nj:=uP h2 hhi agC
         have hlc:h≤cap:=Nat.le_trans c2 hcap
         have i1:(l:Int)≤(h:Int):=by omega
         have i2:(h:Int)≤(cap:Int):=by omega
         rcases pn with⟨rfl,rfl⟩|⟨k1,rfl⟩<;>rcases nj with⟨rfl,rfl⟩|⟨k2,rfl⟩<;>
          simp[Instr.sliceAt,Instr.slice,run_underlying hu,Instr.sliceBounds,Instr.sliceBound,asIntOf,run_sizeOf hs,hlc,c1]
       · simp at he
     · simp at he
   · simp at he
 · simp at he
end Go.aT
end
section
namespace Go.aT
open Go
variable {P:Program} {M A:Nat→Prop} {ρ:Env} {F:Nat→Prop} {st:St} {a:Act} {w:World}
def elems (heap:List (Nat×bA)):C→Option (Nat×List (List C))
 | .own id sz i len=>
   match find heap id with
   |some (.row sz' xs)=>if sz'=sz∧i+len≤xs.length then some (sz,(xs.drop i).take len)else none
   |_=>none
 | .t (.aB sz xs)=>some (sz,xs.map fun e=>e.map .t)
 |_=>none
theorem ol {xs:List (List C)} {sz:Nat} {g:Nat→Option Value} (hsz: ∀e,e∈xs→e.length=sz)
 (hc: ∀ (i:Nat) (el:List C) (j:Nat) (k:C),xs[i]? =some el→el[j]? =some k→ ∃x,g (i * sz+j)=some x∧RC w A ρ k x∧cH x=true):
 ∃vs:List Value,vs.length=xs.length * sz∧(∀ (j:Nat) (v:Value),vs[j]? =some v→g j=some v)∧(∀v,v∈vs→v.oneCell'=true)∧
  ∀ (i:Nat) (el:List C) (j:Nat) (k:C),xs[i]? =some el→el[j]? =some k→ ∃x,vs[i * sz+j]? =some x∧RC w A ρ k x∧cH x=true:=by
 have key: ∀n,n < xs.length * sz→ ∃x,g n=some x∧cH x=true:=by
  intro n hn
  have Xi:0 < sz:=by
   rcases Nat.eq_zero_or_pos sz with h0|h0
   · subst h0;simp at hn
   · exact h0
  have hi:n / sz < xs.length:=by rw[Nat.div_lt_iff_lt_mul Xi];exact hn
  have he:xs[n / sz]? =some xs[n / sz]:=by simp[hi]
  have hl:=hsz _ (List.getElem_mem hi)
  have hj:n % sz < xs[n / sz].length:=by rw[hl];exact Nat.mod_lt _ Xi
  obtain⟨x,hx,_,h1⟩:=hc (n / sz) xs[n / sz] (n % sz) xs[n / sz][n % sz] he (by simp[hj])
  rw[Nat.div_add_mod']at hx
  exact⟨x,hx,h1⟩
 refine⟨(List.range (xs.length * sz)).map fun n=>(g n).getD undef,by simp,?_,?_,?_⟩
 · intro j v hv
   have hj:j < xs.length * sz:=by
    have:=(List.getElem?_eq_some_iff.1 hv).1
    simpa using this
   obtain⟨x,hx,_⟩:=key j hj
   simp[hj,hx]at hv
   rw[hx,hv]
 · intro v hv
   simp only[List.mem_map,List.mem_range]at hv
   obtain⟨n,hn,rfl⟩:=hv
   obtain⟨x,hx,h1⟩:=key n hn
   simpa[hx]using h1
 · intro i el j k hi hj
   obtain⟨x,hx,hr,h1⟩:=hc i el j k hi hj
   have DU:i < xs.length:=(List.getElem?_eq_some_iff.1 hi).1
   have DT:j < sz:=by rw[←hsz el (List.mem_of_getElem? hi)];exact(List.getElem?_eq_some_iff.1 hj).1
   have hlt:i * sz+j < xs.length * sz:=by
    have h2:(i+1) * sz≤xs.length * sz:=Nat.mul_le_mul_right _ DU
    rw[Nat.add_mul]at h2
    omega
   refine⟨x,by simp[hlt,hx],hr,h1⟩
theorem jK {c:C} {sz:Nat} {xs:List (List C)} {x:Value} (h:Rel M A ρ F st a w) (he:elems st.heap c=some (sz,xs)) (hr:RC w A ρ c x):
 (∀e,e∈xs→e.length=sz)∧ ∃b cap,x= .slice b xs.length cap∧xs.length≤cap:=by
 unfold elems at he
 split at he
 · rename_i id sz' i len
   split at he
   · rename_i dy ys hf
     split at he
     · rename_i hc
       obtain⟨rfl,hle⟩:=hc
       simp only[Option.some.injEq,Prod.mk.injEq]at he
       obtain⟨rfl,rfl⟩:=he
       refine⟨fun e he=>(h.heap id _ hf).1 e (List.mem_of_mem_drop (List.mem_of_mem_take he)),?_⟩
       have hlen:((ys.drop i).take len).length=len:=by simp;omega
       rw[hlen]
       rcases hr with⟨b,cap,q,e,k1,rfl,k3,k4,k5⟩|⟨_,_,rfl,rfl⟩
       · exact⟨_,_,rfl,k3⟩
       · exact⟨_,_,rfl,Nat.le_refl _⟩
     · simp at he
   · simp at he
 · rename_i sz' ys
   simp only[Option.some.injEq,Prod.mk.injEq]at he
   obtain⟨rfl,rfl⟩:=he
   cases hr with
   |nil=>exact⟨by simp,_,_,rfl,by simp⟩
   |aB f hl hcap hb hA hsz hc Rw=>
    refine⟨fun e he=>?_,_,_,by simp[hl];exact⟨rfl,rfl⟩,by simp;omega⟩
    simp only[List.mem_map]at he
    obtain⟨e',he',rfl⟩:=he
    simpa using hsz e' he'
 · simp at he
theorem jl {c:C} {sz:Nat} {xs:List (List C)} {x:Value} (h:Rel M A ρ F st a w) (he:elems st.heap c=some (sz,xs)) (hr:RC w A ρ c x) (hne:xs≠ []):
 ∃b o cap,x= .slice (some ⟨b,o,none⟩) xs.length cap∧
  ∀ (i:Nat) (el:List C) (j:Nat) (k:C),xs[i]? =some el→el[j]? =some k→ ∃y,w.cell? ⟨b,o+(i * sz+j),none⟩=some y∧RC w A ρ k y∧cH y=true:=by
 unfold elems at he
 split at he
 · rename_i id sz' i len
   split at he
   · rename_i dy ys hf
     split at he
     · rename_i hc
       obtain⟨rfl,hle⟩:=hc
       simp only[Option.some.injEq,Prod.mk.injEq]at he
       obtain⟨rfl,rfl⟩:=he
       have hlen:((ys.drop i).take len).length=len:=by simp;omega
       rw[hlen]
       rcases hr with⟨b,cap,q,e,k1,rfl,k3,k4,k5⟩|⟨_,_,rfl,rfl⟩
       · refine⟨b,i * dy,cap,rfl,fun i' el j k hi hj=>?_⟩
         have DU:i' < len:=by rw[←hlen];exact(List.getElem?_eq_some_iff.1 hi).1
         have hi':ys[i+i']? =some el:=by simpa[List.getElem?_take,DU]using hi
         rcases(h.heap id _ hf).2 with⟨b',c',e',q1,q2,q3,q4,q5,q6⟩|⟨q1,_⟩
         · rw[k1]at q1
           simp only[Option.some.injEq,Loc.gz.injEq]at q1
           subst q1
           obtain⟨y,hy,hr,h1⟩:=q6 (i+i') el j k hi' hj
           rw[Nat.add_mul]at hy
           exact⟨y,by simp[World.cell?,q4];rw[←Nat.add_assoc];exact hy,hr,h1⟩
         · simp[k1]at q1
       · simp at hne
     · simp at he
   · simp at he
 · rename_i sz' ys
   simp only[Option.some.injEq,Prod.mk.injEq]at he
   obtain⟨rfl,rfl⟩:=he
   cases hr with
   |nil=>simp at hne
   |aB f hl hcap hb hA hsz hc Rw=>
    rename_i b off len cap
    refine⟨b,off,cap,by simp[hl],fun i el j k hi hj=>?_⟩
    simp only[List.getElem?_map,Option.map_eq_some_iff]at hi
    obtain⟨e,he,rfl⟩:=hi
    simp only[List.getElem?_map,Option.map_eq_some_iff]at hj
    obtain⟨t,ht,rfl⟩:=hj
    have dB:=Rw i e j t he ht
    exact⟨f i j,by rw[←Nat.add_assoc];exact hc i e j t he ht,dB,dB.cell⟩
 · simp at he
def ov (P:Program) (e:TypeId):Option (Nat×Nat):=
 match P.info? e with
 |some i=>
  match i.zero with
  |some z=>if z.cells.size=i.size∧0 < i.size then some (i.size,i.bytes)else none
  |none=>none
 |none=>none
def aW:Nat:=140737488355328
def isNil:C→Bool
 | .t (.val (.slice none 0 0))=>true
 |_=>false
def eR (P:Program) (t:TypeId) (s x:V) (heap:List (Nat×bA)) (nid:Nat):Option (V×List (Nat×bA)):=
 match s,x with
 | .w (.one s), .w (.one x)=>
   match P.underlying t with
   |some (.slice e)=>
    match ov P e,(if isNil x then some (0,[])else elems heap x)with
    |some (size,bytes),some (sz,ys)=>
     if ys.isEmpty then
      (if(C.wX s).isSome then some (.w (.one s),heap)else none)
     else if sz=size then
      match s with
      | .own id sz' 0 len=>
        match find heap id with
        |some (.row dy xs)=>
         if sz'=size∧dy=size∧len=xs.length∧(xs.length+ys.length) * bytes≤aW∧xs.length+ys.length≤maxLen then
          some (.w (.one (.own nid size 0 (xs.length+ys.length))),(nid, .row size (xs++ys))::del heap id)
         else none
        |_=>none
      |s=>
       if isNil s∧ys.length * bytes≤aW∧ys.length≤maxLen then
        some (.w (.one (.own nid size 0 ys.length)),(nid, .row size ys)::heap)
       else none
     else none
    |_,_=>none
   |_=>none
 |_,_=>none
theorem mJ {e:TypeId} {size bytes:Nat} (h:ov P e=some (size,bytes)): ∃i z,P.info? e=some i∧i.zero=some z∧i.size=size∧i.bytes=bytes∧z.cells.size=size∧0 < size:=by
 unfold ov at h
 split at h
 · rename_i i hi
   split at h
   · rename_i z hz
     split at h
     · rename_i hc
       simp only[Option.some.injEq,Prod.mk.injEq]at h
       obtain⟨rfl,rfl⟩:=h
       exact⟨i,z,hi,hz,rfl,rfl,hc.1,hc.2⟩
     · simp at h
   · simp at h
 · simp at h
theorem qC {c:C} {x:Value} (h:isNil c=true) (hr:RC w A ρ c x):x= .slice none 0 0:=by
 unfold isNil at h
 split at h
 · cases hr;rfl
 · simp at h
theorem jX (h:Rel M A ρ F st a w) {nid:Nat} (hn:F nid) {size:Nat} {zs:List (List C)} {vs:List Value} {z:Array Value} {e:TypeId} {cap:Nat}
 (hz:z.size=size) (hsz: ∀el,el∈zs→el.length=size) (hl:vs.length=zs.length * size) (hcap:zs.length≤cap)
 (hc: ∀ (i:Nat) (el:List C) (j:Nat) (k:C),zs[i]? =some el→el[j]? =some k→ ∃x,vs[i * size+j]? =some x∧RC w A ρ k x∧cH x=true):
 ∃A' ρ',Rel M A' ρ' (Sub F nid) {st with heap:=(nid, .row size zs)::st.heap} a (w.drew.alloc (.cells (vs.toArray++Builtin.zeroCells z (cap - zs.length)) e))∧
  RV (w.drew.alloc (.cells (vs.toArray++Builtin.zeroCells z (cap - zs.length)) e)) A' ρ' (.w (.one (.own nid size 0 zs.length))) (.slice (some ⟨w.heap.size,0,none⟩) zs.length cap)∧
  dj M w (w.drew.alloc (.cells (vs.toArray++Builtin.zeroCells z (cap - zs.length)) e))∧cZ ρ ρ'∧bH A A' w:=by
 have hd:=h.drew
 have hk:eK A A w w.drew:=⟨Nat.le_refl _,fun b _ hn=>⟨rfl,hn⟩⟩
 have hzc:(Builtin.zeroCells z (cap - zs.length)).size=(cap - zs.length) * size:=by rw[size_zeroCells,hz]
 obtain⟨r1,r2⟩:=Rel.alloc (w:=w.drew) hd hn (sz:=size) (xs:=zs) (c:=vs.toArray++Builtin.zeroCells z (cap - zs.length)) (e:=e) hsz (by simp[hl]) (fun i el j k hi hj=>by
  obtain⟨x,hx,hr,h1⟩:=hc i el j k hi hj
  refine⟨x,?_,hr.keeps hk (fun _ _=>rfl) (cZ.refl _),h1⟩
  rw[Array.getElem?_append_left (by simpa using(List.getElem?_eq_some_iff.1 hx).1)]
  simpa using hx)
 refine⟨_,_,r1,⟨.inl ⟨w.heap.size,cap,cap * size,e,by show dl ρ nid (.gz w.heap.size) nid=_;simp[dl],by simp,hcap,?_,?_⟩,rfl⟩,(dj.drew M w).trans (dj.alloc M _ _),r2,bH.new A w⟩
 · have:=heap_alloc_new w.drew (.cells (vs.toArray++Builtin.zeroCells z (cap - zs.length)) e)
   simp only[World.shape?]
   have e1:w.drew.heap.size=w.heap.size:=rfl
   rw[e1]at this
   rw[this]
   simp only[Array.size_append,List.size_toArray,hl,hzc, ←Nat.add_mul,Option.some.injEq,Prod.mk.injEq,true_and]
   congr 1
   omega
 · simp
theorem tF {t ty:TypeId} {s x v:V} {sv xv:Value} {heap':List (Nat×bA)} {nid:Nat} (h:Rel M A ρ F st a w) (hn:F nid)
 (he:eR P t s x st.heap nid=some (v,heap')) (hs:RV w A ρ s sv) (hx:RV w A ρ x xv):
 ∃y w' A' ρ',(Builtin.append_ #[t,t] ty #[sv,xv]).run P w= .ok y w'∧Rel M A' ρ' (Sub F nid) {st with heap:=heap'} a w'∧RV w' A' ρ' v y∧dj M w w'∧cZ ρ ρ'∧bH A A' w:=by
 unfold eR at he
 split at he
 · rename_i s x
   split at he
   · rename_i e hu
     split at he
     · rename_i size bytes sz ys hT hys
       obtain⟨i,z,hi,hz,hsize,hby,hzs,hpos⟩:=mJ hT
       split at he
       ·
        rename_i Br
        split at he
        · rename_i hlen
          simp only[Option.some.injEq,Prod.mk.injEq]at he
          obtain⟨rfl,rfl⟩:=he
          obtain⟨n,hn'⟩:=Option.isSome_iff_exists.1 hlen
          obtain⟨b,cap,rfl,hcap⟩:=C.sZ hn' hs.1
          have hx0: ∃b' cap',xv= .slice b' 0 cap':=by
           split at hys
           · rename_i Bp
             rw[qC Bp hx.1];exact⟨_,_,rfl⟩
           · obtain⟨_,b',cap',rfl,_⟩:=jK h hys hx.1
             simp only[List.isEmpty_iff]at Br
             subst Br
             exact⟨_,_,rfl⟩
          obtain⟨b',cap',rfl⟩:=hx0
          refine⟨_,w,A,ρ,?_,h.sub (fun id bN=>bN.1),hs,dj.refl _ _,cZ.refl _,bH.refl A w⟩
          have XL:(Builtin.firstCells i.size 0 (.slice b' 0 cap')).run P w= .ok #[] w:=by
           cases b'<;>simp[Builtin.firstCells,loadCells,loadCellsFrom]
          cases b<;>simp[Builtin.append_,run_underlying hu,sizeOf,typeInfo,hi,Builtin.lenOf,hcap,XL,storeCells]
        · simp at he
       · rename_i Br
         have aeB:¬isNil x=true:=by
          intro Bp
          rw[if_pos Bp]at hys
          simp only[Option.some.injEq,Prod.mk.injEq]at hys
          simp[←hys.2]at Br
         rw[if_neg aeB]at hys
         have hne:ys≠ []:=fun e=>by simp[e]at Br
         have OM:0 < ys.length:=List.length_pos_iff.2 hne
         obtain⟨MM,_⟩:=jK h hys hx.1
         obtain⟨xb,xo,IL,rfl,hxc⟩:=jl h hys hx.1 hne
         split at he
         · rename_i aeR
           subst aeR
           obtain⟨news,hnl,hng,vS,hnr⟩:=ol (g:=fun n=>w.cell? ⟨xb,xo+n,none⟩) MM hxc
           have hnews: ∀ (j:Nat) (u:Value),news[j]? =some u→w.cell? ((⟨xb,xo,none⟩:Addr).add j)=some u:=fun j u hj=>by rw[Addr.add_lit];exact hng j u hj
           split at he
           · rename_i id sz' len
             split at he
             · rename_i dy xs hf
               split at he
               · rename_i hc
                 obtain⟨rfl,rfl,rfl,hroom,RL⟩:=hc
                 simp only[Option.some.injEq,Prod.mk.injEq]at he
                 obtain⟨rfl,rfl⟩:=he
                 obtain⟨W9,hblk⟩:=h.heap id _ hf
                 have h63:((xs.length+ys.length:Nat):Int)≤9223372036854775807:=by simp only[maxLen]at RL;omega
                 rcases hs.1 with⟨b,cap,q,e',k1,rfl,k3,k4,k5⟩|⟨k1,_,k2,rfl⟩
                 · rcases hblk with⟨b',c,e2,q1,q2,q3,q4,q5,q6⟩|⟨q1,_⟩
                   · rw[k1]at q1
                     simp only[Option.some.injEq,Loc.gz.injEq]at q1
                     subst q1
                     have hcs:c.size=q:=by simp only[World.shape?,q4,Option.some.injEq,Prod.mk.injEq]at k4;exact k4.2
                     obtain⟨olds,Xw,TJ,ho1,hor⟩:=ol (g:=fun n=>c[n]?) W9 q6
                     have holds: ∀ (j:Nat) (u:Value),olds[j]? =some u→w.cell? ((⟨b,0,none⟩:Addr).add j)=some u:=fun j u hj=>by
                      rw[Addr.add_lit];simp[World.cell?,q4,TJ j u hj]
                     have OS: ∀ (i':Nat) (el:List C) (j:Nat) (k:C),(xs++ys)[i']? =some el→el[j]? =some k→ ∃y,(olds++news)[i' * dy+j]? =some y∧RC w A ρ k y∧cH y=true:=by
                      intro i' el j k hi' hj
                      by_cases hlt:i' < xs.length
                      · rw[List.getElem?_append_left hlt]at hi'
                        obtain⟨y,hy,hr,h1⟩:=hor i' el j k hi' hj
                        exact⟨y,by rw[List.getElem?_append_left (List.getElem?_eq_some_iff.1 hy).1];exact hy,hr,h1⟩
                      · rw[List.getElem?_append_right (by omega)]at hi'
                        obtain⟨y,hy,hr,h1⟩:=hnr (i' - xs.length) el j k hi' hj
                        refine⟨y,?_,hr,h1⟩
                        have e1:(i' - xs.length) * dy+xs.length * dy=i' * dy:=by rw[←Nat.add_mul];congr 1;omega
                        rw[List.getElem?_append_right (by omega),Xw]
                        rw[show i' * dy+j - xs.length * dy=(i' - xs.length) * dy+j by omega]
                        exact hy
                     have Xh: ∀el,el∈xs++ys→el.length=dy:=fun el hel=>(List.mem_append.1 hel).elim (W9 el) (MM el)
                     by_cases hfit:xs.length+ys.length≤cap
                     ·
                      have J8:xs.length * i.size+news.length≤c.size:=by
                       rw[hsize,hnl,hcs, ←Nat.add_mul]
                       have:(xs.length+ys.length) * dy≤cap * dy:=Nat.mul_le_mul_right _ hfit
                       simp only[Nat.zero_mul,Nat.zero_add]at k5
                       omega
                      have q4':=q4
                      have hst:=run_storeCells_at P b (xs.length * i.size) e2 news 0 c w q4 (by simpa using J8) vS
                      simp only[Nat.add_zero]at hst
                      have mD:=run_firstCells_some (P:=P) w i.size ys.length ⟨xb,xo,none⟩ ys.length IL news (by rw[hnl,hsize]) hnews
                      have hrun:(Builtin.append_ #[t,t] ty #[.slice (some ⟨b,0 * dy,none⟩) xs.length cap, .slice (some ⟨xb,xo,none⟩) ys.length IL]).run P w=
                       .ok (.slice (some ⟨b,0,none⟩) (xs.length+ys.length) cap) (w.setRow b (c.toList.take (xs.length * i.size)++news++c.toList.drop (xs.length * i.size+news.length)).toArray):=by
                       simp[Builtin.append_,run_underlying hu,sizeOf,typeInfo,hi,Builtin.lenOf,hfit,mD,Addr.add_lit,hst]
                      have aeV:c.toList.take (xs.length * i.size)++news++c.toList.drop (xs.length * i.size+news.length)=aR c.toList (xs.length * dy) news:=by rw[hsize];rfl
                      rw[aeV]at hrun
                      have hb0:xs.length * dy+news.length≤c.toList.length:=by rw[hsize]at J8;simpa using J8
                      obtain⟨r1,r2⟩:=h.write (c':=(aR c.toList (xs.length * dy) news).toArray) (xs':=xs++ys) hf k1 q4
                       (by simp only[List.size_toArray];rw[cj hb0];simp) Xh
                       (by simp only[List.size_toArray];rw[cj hb0];simp only[List.length_append,Nat.add_mul,Array.length_toList];rw[hnl]at hb0;simpa using hb0)
                       (fun i' el j k hi' hj=>by
                         obtain⟨y,hy,hr,h1⟩:=OS i' el j k hi' hj
                         refine⟨y,?_,hr,h1⟩
                         simp only[List.getElem?_toArray]
                         rw[fH hb0]
                         by_cases hlt:i' * dy+j < olds.length
                         · rw[List.getElem?_append_left hlt]at hy
                           rw[if_neg (by omega)]
                           simpa using TJ _ _ hy
                         · rw[List.getElem?_append_right (by omega)]at hy
                           have:=(List.getElem?_eq_some_iff.1 hy).1
                           rw[if_pos (by omega), ←Xw]
                           exact hy)
                      obtain⟨l,hl,r3,r4⟩:=r1.rename (id:=id) (nid:=nid) (blk:= .row dy (xs++ys)) (by simp[bO,hf]) hn
                      have agN:del (jN st.heap id (.row dy (xs++ys))) id=del st.heap id:=by
                       clear r1 r2 r3 r4 hl hf h
                       induction st.heap with
                       |nil=>rfl
                       |cons p r ih=>
                        obtain⟨k,u⟩:=p
                        simp only[jN,del]
                        by_cases hk:k=id
                        · simp[hk,del]
                        · simp[hk,del,ih]
                      simp only[agN]at r3
                      rw[k1]at hl
                      simp only[Option.some.injEq]at hl
                      subst hl
                      refine⟨_,_,A,_,hrun,r3,⟨.inl ⟨b,cap,q,e',by simp[dl],by simp,hfit,?_,?_⟩,rfl⟩,r2,r4,bH.refl A w⟩
                      · rw[mr q4 (by simp only[List.size_toArray];rw[cj hb0];simp)];exact k4
                      · exact k5
                     ·
                      have RS:Builtin.nextslicecap (xs.length+ys.length) cap * i.bytes≤281474976710656:=by
                       rw[hby]
                       exact growslice_fits (by omega) (by simp only[aW]at hroom;exact hroom)
                      have hrun:=run_append_grow (P:=P) w t ty e i z hu hi hz ⟨b,0,none⟩ xs.length cap olds (by rw[Xw,hsize]) holds ⟨xb,xo,none⟩ ys.length IL news (by rw[hnl,hsize]) hnews (by omega) h63 RS
                      have hge:=grownCap_ge w (xs.length+ys.length) cap e
                      obtain⟨A',ρ',r1,r2,r3,r4,r5⟩:=jX (e:=e) (z:=z.cells) (cap:=grownCap w (xs.length+ys.length) cap e) h hn hzs Xh (vs:=olds++news) (by simp[Xw,hnl,Nat.add_mul]) (by simpa using hge) OS
                      have QL:=r1.drop id
                      have RJ:¬nid=id:=by
                       intro e
                       have:=h.fresh nid hn
                       rw[e,k1]at this
                       simp at this
                      simp only[del,RJ,if_false]at QL
                      have e0:(⟨b,0 * dy,none⟩:Addr)=⟨b,0,none⟩:=by simp
                      rw[e0]
                      simp only[List.length_append]at QL r2 r3
                      have e1:(olds++news).toArray=olds.toArray++news.toArray:=by simp
                      rw[e1]at QL r2 r3
                      exact⟨_,_,A',ρ',hrun,QL,r2,r3,r4,r5⟩
                   · simp[k1]at q1
                 ·
                  have hx0:xs=[]:=List.eq_nil_of_length_eq_zero k2
                  subst hx0
                  simp only[List.length_nil,Nat.zero_add,List.nil_append]at *
                  have hrun:=run_append_nil (P:=P) w t ty e i z hu hi hz ⟨xb,xo,none⟩ ys.length IL news (by rw[hnl,hsize]) hnews OM h63 (by rw[hby];simp only[aW]at hroom;omega)
                  have hge:=grownCap_ge w ys.length 0 e
                  obtain⟨A',ρ',r1,r2,r3,r4,r5⟩:=jX (e:=e) (z:=z.cells) (cap:=grownCap w ys.length 0 e) h hn hzs MM (vs:=news) hnl hge hnr
                  have QL:=r1.drop id
                  have RJ:¬nid=id:=by
                   intro e
                   have:=h.fresh nid hn
                   rw[e,k1]at this
                   simp at this
                  simp only[del,RJ,if_false]at QL
                  exact⟨_,_,A',ρ',hrun,QL,r2,r3,r4,r5⟩
               · simp at he
             · simp at he
           · split at he
             · rename_i hc
               obtain⟨Bp,hroom,RL⟩:=hc
               simp only[Option.some.injEq,Prod.mk.injEq]at he
               obtain⟨rfl,rfl⟩:=he
               have Xj:=qC Bp hs.1
               subst Xj
               have h63:((ys.length:Nat):Int)≤9223372036854775807:=by simp only[maxLen]at RL;omega
               have hrun:=run_append_nil (P:=P) w t ty e i z hu hi hz ⟨xb,xo,none⟩ ys.length IL news (by rw[hnl,hsize]) hnews OM h63 (by rw[hby];simp only[aW]at hroom;omega)
               have hge:=grownCap_ge w ys.length 0 e
               obtain⟨A',ρ',r1,r2,r3,r4,r5⟩:=jX (e:=e) (z:=z.cells) (cap:=grownCap w ys.length 0 e) h hn hzs MM (vs:=news) hnl hge hnr
               exact⟨_,_,A',ρ',hrun,r1,r2,r3,r4,r5⟩
             · simp at he
         · simp at he
     · simp at he
   · simp at he
 · simp at he
end Go.aT
end
section
namespace Go.aT
open Go
variable {P:Program} {M A:Nat→Prop} {ρ:Env} {F:Nat→Prop} {st:St} {a:Act} {w:World}
theorem rM (off:Nat): ∀ (l:List Value) (s:Nat) (cs:Array Value),off+s+l.length≤cs.size→
 (l.zipIdx s).foldl (fun(cs:Array Value) (p:Value×Nat)=>cs.setIfInBounds (off+p.2) p.1) cs=(aR cs.toList (off+s) l).toArray
 | [],s,cs,_=>by simp[aR]
 |v::l,s,cs,h=>by
  simp only[List.length_cons]at h
  simp only[List.zipIdx_cons,List.foldl_cons]
  rw[rM off l (s+1) _ (by simp;omega)]
  congr 1
  have e:=list_seg_step cs.toList (off+s) v l (by simp;omega)
  simpa[aR,Array.toList_setIfInBounds,Nat.add_assoc,Nat.add_comm,Nat.add_left_comm]using e
theorem zZ (place:Nat→Option (Nat×Nat)) (cells:Array Value) (i:Nat) (v:Value) (rest:List (Nat×Value)) {off size:Nat}
 (hp:place i=some (off,size)) (hs:v.cells.size=size) (hl:off+size≤cells.size):
 Instr.fill place cells ((i,v)::rest)=Instr.fill place (aR cells.toList off v.cells.toList).toArray rest:=by
 have:=rM off v.cells.toList 0 cells (by simp;omega)
 simp only[Instr.fill,hp]
 have hn:¬ (v.cells.size≠size||off+v.cells.size > cells.size)=true:=by simp[hs];omega
 rw[if_neg hn]
 congr 1
 rw[←Array.foldl_toList,Array.toList_zipIdx]
 simpa using this
def uE (place:Nat→Option (Nat×Nat)) (cells:List C):List (Nat×W)→Option (List C)
 | []=>some cells
 |(i,u)::rest=>
  match place i with
  |none=>none
  |some (off,size)=>if(cellsOf u).length=size∧off+size≤cells.length then uE place (aR cells off (cellsOf u)) rest else none
def Ld (w:World) (A:Nat→Prop) (ρ:Env):List (Nat×W)→List (Nat×Value)→Prop
 | [],[]=>True
 |(i,u)::r,(i',v)::r'=>i=i'∧RW w A ρ u v∧Ld w A ρ r r'
 |_,_=>False
theorem yl.aR {cs:List C} {vs:Array Value} {off:Nat} {u:W} {v:Value} (h:yl w A ρ cs vs) (hu:RW w A ρ u v) (hl:off+(cellsOf u).length≤cs.length):
 yl w A ρ (aT.aR cs off (cellsOf u)) (aT.aR vs.toList off v.cells.toList).toArray:=by
 have hc:=hu.cells
 have e1:v.cells.toList.length=(cellsOf u).length:=by simp[hc.1]
 have rI:off+v.cells.toList.length≤vs.toList.length:=by rw[e1];simpa[←h.1]using hl
 refine⟨by rw[cj hl];simp only[List.size_toArray];rw[cj rI];simpa using h.1,fun k c x hk hx=>?_⟩
 rw[fH hl]at hk
 simp only[List.getElem?_toArray]at hx
 rw[fH rI]at hx
 split at hk
 · rename_i hin
   rw[if_pos (by omega)]at hx
   exact hc.2 _ c x hk (by simpa using hx)
 · rename_i hin
   rw[if_neg (by omega)]at hx
   exact h.2 k c x hk (by simpa using hx)
theorem oq {place:Nat→Option (Nat×Nat)}: ∀ {ps:List (Nat×W)} {qs:List (Nat×Value)} {cs cs':List C} {vs:Array Value},uE place cs ps=some cs'→
 yl w A ρ cs vs→Ld w A ρ ps qs→ ∃vs',Instr.fill place vs qs=some vs'∧yl w A ρ cs' vs'
 | [],[],cs,cs',vs,h,hr,_=>by
   simp only[uE,Option.some.injEq]at h
   subst h
   exact⟨vs,rfl,hr⟩
 | [],_::_,_,_,_,_,_,hp=>by simp[Ld]at hp
 |_::_,[],_,_,_,_,_,hp=>by simp[Ld]at hp
 |(i,u)::r,(i',v)::r',cs,cs',vs,h,hr,hp=>by
  obtain⟨rfl,hu,aG⟩:=hp
  simp only[uE]at h
  split at h
  · simp at h
  · rename_i off size jo
    split at h
    · rename_i hc
      have hcu:=hu.cells
      rw[zZ place vs i v r' jo (by rw[←hcu.1,hc.1]) (by rw[←hr.1];exact hc.2)]
      exact oq h (hr.aR hu (by rw[hc.1];exact hc.2)) aG
    · simp at h
def jL (P:Program) (t:TypeId):Option (List C):=
 match P.info? t with
 |some i=>
  match i.zero with
  |some z=>if z.cells.size=i.size∧z.cells.toList.all cH=true then some (z.cells.toList.map fun c=> .t (.val c))else none
  |none=>none
 |none=>none
theorem fE {t:TypeId} {cs:List C} (h:jL P t=some cs) (w:World) (A:Nat→Prop) (ρ:Env):
 ∃i z,P.info? t=some i∧i.zero=some z∧z.cells.size=i.size∧i.size=cs.length∧yl w A ρ cs z.cells:=by
 unfold jL at h
 split at h
 · rename_i i hi
   split at h
   · rename_i z hz
     split at h
     · rename_i hc
       simp only[Option.some.injEq]at h
       subst h
       refine⟨i,z,hi,hz,hc.1,by simp[hc.1],by simp,fun k c x hk hx=>?_⟩
       simp only[List.getElem?_map,Array.getElem?_toList,hx,Option.map_some,Option.some.injEq]at hk
       subst hk
       have hm:x∈z.cells.toList:=List.mem_of_getElem? (i:=k) (by simpa using hx)
       have:=List.all_eq_true.1 hc.2 x hm
       exact⟨.val this,this⟩
     · simp at h
   · simp at h
 · simp at h
theorem dW {t:TypeId} {i:TypeInfo} {z:Value} (hi:P.info? t=some i) (hz:i.zero=some z) (w:World):(zeroValue t).run P w= .ok z w:=by
 simp[zeroValue,typeInfo,hi,hz]
def lQ (P:Program) (e:TypeId) (nid:Nat):Option (V×(Nat×bA)):=
 match jL P e with
 |some cs=>some (.w (.one (.ptr nid cs.length 0 0)),(nid, .row cs.length [cs]))
 |none=>none
theorem rX (h:Rel M A ρ F st a w) {nid:Nat} (hn:F nid) {cs:List C} {vs:Array Value} (hr:yl w A ρ cs vs) (e:TypeId):
 ∃A' ρ',Rel M A' ρ' (Sub F nid) {st with heap:=(nid, .row cs.length [cs])::st.heap} a (w.alloc (.cells vs e))∧
  RV (w.alloc (.cells vs e)) A' ρ' (.w (.one (.ptr nid cs.length 0 0))) (.pointer (some ⟨w.heap.size,0,none⟩))∧cZ ρ ρ'∧bH A A' w:=by
 obtain⟨h1,h2⟩:=h.alloc hn (sz:=cs.length) (xs:=[cs]) (c:=vs) (e:=e) (by simp) (by simp[hr.1]) (fun i el j k hi hj=>by
  cases i with
  |zero=>
   simp only[List.getElem?_cons_zero,Option.some.injEq]at hi
   subst hi
   have hj':j < cs.length:=(List.getElem?_eq_some_iff.1 hj).1
   have Zx:j < vs.size:=hr.1▸hj'
   have hx:vs[j]? =some vs[j]:=by simp[Zx]
   obtain⟨r1,r2⟩:=hr.2 j k _ hj hx
   exact⟨_,by simp[hx],r1,r2⟩
  |succ i=>simp at hi)
 exact⟨_,_,h1,⟨⟨w.heap.size,by simp[dl],by simp⟩,rfl⟩,h2,bH.new A w⟩
theorem vD {e:TypeId} {nid:Nat} {v:V} {p:Nat×bA} (h:Rel M A ρ F st a w) (hn:F nid) (he:lQ P e nid=some (v,p)):
 ∃y w' A' ρ',(Instr.alloc e true (.tuple #[])).run P w= .ok y w'∧Rel M A' ρ' (Sub F nid) {st with heap:=p::st.heap} a w'∧RV w' A' ρ' v y∧dj M w w'∧cZ ρ ρ'∧bH A A' w:=by
 unfold lQ at he
 split at he
 · rename_i cs hz
   simp only[Option.some.injEq,Prod.mk.injEq]at he
   obtain⟨rfl,rfl⟩:=he
   obtain⟨i,z,hi,JT,hzs,_,hr⟩:=fE hz w A ρ
   obtain⟨A',ρ',h1,h2,h3,h4⟩:=rX h hn hr e
   exact⟨_,_,A',ρ',by simp[Instr.alloc,dW hi JT,newVar,newRow],h1,h2,dj.alloc M w _,h3,h4⟩
 · simp at he
def rP (v:V) (nid:Nat):Option (V×(Nat×bA)):=
 match v with
 | .w u=>some (.w (.one (.ptr nid (cellsOf u).length 0 0)),(nid, .row (cellsOf u).length [cellsOf u]))
 |_=>none
theorem yU {e:TypeId} {nid:Nat} {v u:V} {x:Value} {p:Nat×bA} (h:Rel M A ρ F st a w) (hn:F nid) (he:rP v nid=some (u,p)) (hv:RV w A ρ v x):
 ∃y w' A' ρ',(Instr.box e x).run P w= .ok y w'∧Rel M A' ρ' (Sub F nid) {st with heap:=p::st.heap} a w'∧RV w' A' ρ' u y∧dj M w w'∧cZ ρ ρ'∧bH A A' w:=by
 unfold rP at he
 split at he
 · rename_i q
   simp only[Option.some.injEq,Prod.mk.injEq]at he
   obtain⟨rfl,rfl⟩:=he
   obtain⟨A',ρ',h1,h2,h3,h4⟩:=rX h hn (RW.cells hv) e
   exact⟨_,_,A',ρ',by simp[Instr.box,newVar,newRow],h1,h2,dj.alloc M w _,h3,h4⟩
 · simp at he
def placesOf (P:Program):List Field→Option (List (Nat×Nat))
 | []=>some []
 |f::r=>match cF P f.type,placesOf P r with
  |some n,some l=>some ((f.offset,n)::l)
  |_,_=>none
theorem run_places: ∀ {fs:List Field} {l:List (Nat×Nat)},placesOf P fs=some l→ ∀w,(fs.mapM fun(f:Field)=>do pure (f.offset, ←sizeOf f.type)).run P w= .ok l w
 | [],l,h,w=>by simp only[placesOf,Option.some.injEq]at h;subst h;simp
 |f::r,l,h,w=>by
  simp only[placesOf]at h
  split at h
  · rename_i n l' hn hl
    simp only[Option.some.injEq]at h
    subst h
    have:=run_places hl w
    simp only[bind_pure_comp]at this
    simp[List.mapM_cons,run_sizeOf hn,this]
  · simp at h
def lP (P:Program) (t:TypeId) (ps:List (Nat×W)):Option V:=
 match jL P t,P.underlying t with
 |some z,some (.struct fields)=>
  match placesOf P fields.toList with
  |some l=>(uE (fun i=>l[i]?) z ps).map fun cs=> .w (.agg cs)
  |none=>none
 |some z,some (.array _ e)=>
  match cF P e with
  |some size=>(uE (fun i=>some (i * size,size)) z ps).map fun cs=> .w (.agg cs)
  |none=>none
 |_,_=>none
theorem vC {t:TypeId} {ps:List (Nat×W)} {qs:Array (Nat×Value)} {v:V} (he:lP P t ps=some v) (hp:Ld w A ρ ps qs.toList):
 ∃y,(Instr.build t qs).run P w= .ok y w∧RV w A ρ v y:=by
 unfold lP at he
 split at he
 · rename_i z fields hz hu
   split at he
   · rename_i l hl
     simp only[Option.map_eq_some_iff]at he
     obtain⟨cs,hcs,rfl⟩:=he
     obtain⟨i,zv,hi,JT,hzs,_,hr⟩:=fE hz w A ρ
     obtain⟨vs,hvs,dB⟩:=oq hcs hr hp
     have hrun:=run_places hl w
     have Xq:(fields.mapM fun(f:Field)=>do pure (f.offset, ←sizeOf f.type)).run P w= .ok l.toArray w:=by
      rw[Array.mapM_eq_mapM_toList]
      simp only[Sem.run_map,hrun,Result.andThen_ok]
     refine⟨.agg vs,?_,vs,rfl,dB⟩
     have e1:(fun(i:Nat)=>l.toArray[i]?)=fun(i:Nat)=>l[i]? :=by funext i;simp
     simp only[Instr.build,Sem.run_bind,dW hi JT,Result.andThen_ok,run_underlying hu,Xq,e1,hvs,Sem.run_pure]
   · simp at he
 · rename_i z n e hz hu
   split at he
   · rename_i size hs
     simp only[Option.map_eq_some_iff]at he
     obtain⟨cs,hcs,rfl⟩:=he
     obtain⟨i,zv,hi,JT,hzs,_,hr⟩:=fE hz w A ρ
     obtain⟨vs,hvs,dB⟩:=oq hcs hr hp
     refine⟨.agg vs,?_,vs,rfl,dB⟩
     simp only[Instr.build,Sem.run_bind,dW hi JT,Result.andThen_ok,run_underlying hu,run_sizeOf hs,hvs,Sem.run_pure]
   · simp at he
 · simp at he
def RE (w:World) (A:Nat→Prop) (ρ:Env) (size:Nat) (xs:List (List C)) (vs:Array Value):Prop:=
 (∀e,e∈xs→e.length=size)∧vs.size=xs.length * size∧
   ∀ (i:Nat) (el:List C) (j:Nat) (k:C),xs[i]? =some el→el[j]? =some k→ ∃x,vs[i * size+j]? =some x∧RC w A ρ k x∧cH x=true
def pW (size:Nat) (xs:List (List C)):List (Nat×W)→Option (List (List C))
 | []=>some xs
 |(i,u)::rest=>if(cellsOf u).length=size∧i < xs.length then pW size (xs.set i (cellsOf u)) rest else none
theorem RE.set {size:Nat} {xs:List (List C)} {vs:Array Value} {i:Nat} {u:W} {v:Value} (h:RE w A ρ size xs vs) (hu:RW w A ρ u v) (hl:(cellsOf u).length=size) (hi:i < xs.length):
 RE w A ρ size (xs.set i (cellsOf u)) (aR vs.toList (i * size) v.cells.toList).toArray:=by
 have hc:=hu.cells
 obtain⟨h1,h2,h3⟩:=h
 have e1:v.cells.toList.length=size:=by rw[←hl];simp[hc.1]
 have hmul:(i+1) * size≤xs.length * size:=Nat.mul_le_mul_right _ hi
 rw[Nat.add_mul]at hmul
 have rI:i * size+v.cells.toList.length≤vs.toList.length:=by rw[e1];simp only[Array.length_toList,h2];omega
 refine⟨fun e he=>?_,by simp only[List.size_toArray];rw[cj rI];simpa using h2,fun i' el j k hi' hj=>?_⟩
 · rcases List.mem_or_eq_of_mem_set he with q|q
   · exact h1 e q
   · rw[q,hl]
 · simp only[List.getElem?_toArray]
   rw[fH rI]
   by_cases HO:i'=i
   · subst HO
     rw[List.getElem?_set_self hi]at hi'
     simp only[Option.some.injEq]at hi'
     subst hi'
     have DT:j < size:=by rw[←hl];exact(List.getElem?_eq_some_iff.1 hj).1
     rw[if_pos (by omega),show i' * size+j - i' * size=j by omega]
     have Zx:j < v.cells.size:=by rw[←hc.1,hl];exact DT
     have hx:v.cells[j]? =some v.cells[j]:=by simp[Zx]
     obtain⟨r1,r2⟩:=hc.2 j k _ hj hx
     exact⟨_,by simp[Zx],r1,r2⟩
   · rw[List.getElem?_set_ne (fun e=>HO e.symm)]at hi'
     have hj2:j < size:=by rw[←h1 el (List.mem_of_getElem? hi')];exact(List.getElem?_eq_some_iff.1 hj).1
     have hout:¬ (i * size≤i' * size+j∧i' * size+j < i * size+v.cells.toList.length):=by
      rw[e1]
      intro hh
      rcases Nat.lt_or_gt_of_ne HO with hlt|hgt
      · have:(i'+1) * size≤i * size:=Nat.mul_le_mul_right _ hlt
        rw[Nat.add_mul]at this
        omega
      · have:(i+1) * size≤i' * size:=Nat.mul_le_mul_right _ hgt
        rw[Nat.add_mul]at this
        omega
     rw[if_neg hout]
     obtain⟨z,hz,hr,h4⟩:=h3 i' el j k hi' hj
     exact⟨z,by simpa using hz,hr,h4⟩
theorem oo {size:Nat}: ∀ {ps:List (Nat×W)} {qs:List (Nat×Value)} {xs xs':List (List C)} {vs:Array Value},pW size xs ps=some xs'→
 RE w A ρ size xs vs→Ld w A ρ ps qs→ ∃vs',Instr.fill (fun i=>some (i * size,size)) vs qs=some vs'∧RE w A ρ size xs' vs'
 | [],[],xs,xs',vs,h,hr,_=>by
   simp only[pW,Option.some.injEq]at h
   subst h
   exact⟨vs,rfl,hr⟩
 | [],_::_,_,_,_,_,_,hp=>by simp[Ld]at hp
 |_::_,[],_,_,_,_,_,hp=>by simp[Ld]at hp
 |(i,u)::r,(i',v)::r',xs,xs',vs,h,hr,hp=>by
  obtain⟨rfl,hu,aG⟩:=hp
  simp only[pW]at h
  split at h
  · rename_i hc
    have hcu:=hu.cells
    have hmul:(i+1) * size≤xs.length * size:=Nat.mul_le_mul_right _ hc.2
    rw[Nat.add_mul]at hmul
    rw[zZ (fun i=>some (i * size,size)) vs i v r' (off:=i * size) (size:=size) rfl (by rw[←hcu.1,hc.1]) (by rw[hr.2.1];omega)]
    exact oo h (hr.set hu hc.1 hc.2) aG
  · simp at h
theorem nn {cs:List C} {z:Array Value} (hr:yl w A ρ cs z) (n:Nat):
 RE w A ρ cs.length (List.replicate n cs) ((Array.range (n * cs.length)).map fun k=>z[k % z.size]!):=by
 refine⟨fun e he=>by rw[List.eq_of_mem_replicate he],by simp,fun i el j k hi hj=>?_⟩
 have DU:i < n:=by have:=(List.getElem?_eq_some_iff.1 hi).1;simpa using this
 simp only[List.getElem?_replicate,DU,if_true,Option.some.injEq]at hi
 subst hi
 have DT:j < cs.length:=(List.getElem?_eq_some_iff.1 hj).1
 have hmul:(i+1) * cs.length≤n * cs.length:=Nat.mul_le_mul_right _ DU
 rw[Nat.add_mul]at hmul
 have hlt:i * cs.length+j < n * cs.length:=by omega
 have hjz:j < z.size:=hr.1▸DT
 have Xz:(i * cs.length+j) % z.size=j:=by rw[←hr.1,Nat.add_comm,Nat.add_mul_mod_self_right,Nat.mod_eq_of_lt DT]
 have hx:z[j]? =some z[j]:=by simp[hjz]
 obtain⟨r1,r2⟩:=hr.2 j k _ hj hx
 refine⟨z[j],?_,r1,r2⟩
 simp[hlt,Xz,getElem!_pos z j hjz]
theorem wH:Array.range 0= #[]:=Array.eq_empty_of_size_eq_zero (by simp)
def dF (P:Program) (t:TypeId) (len:Nat) (ps:List (Nat×W)) (nid:Nat):Option (V×(Nat×bA)):=
 match P.underlying t with
 |some (.slice e)=>
  match jL P e with
  |some z=>
   if len * z.length≤16777216∧0 < z.length then
    (pW z.length (List.replicate len z) ps).map fun xs=>(.w (.one (.own nid z.length 0 len)),(nid, .row z.length xs))
   else none
  |none=>none
 |_=>none
theorem tC {size:Nat}: ∀ {ps:List (Nat×W)} {xs xs':List (List C)},pW size xs ps=some xs'→xs'.length=xs.length
 | [],xs,xs',h=>by simp only[pW,Option.some.injEq]at h;rw[h]
 |(i,u)::r,xs,xs',h=>by
  simp only[pW]at h
  split at h
  · have:=tC h;simpa using this
  · simp at h
theorem zw (h:Rel M A ρ F st a w) {nid:Nat} (hn:F nid) {size:Nat} {xs:List (List C)} {vs:Array Value} {len cap:Nat} (e:TypeId)
 (hsz: ∀el,el∈xs→el.length=size) (hl:xs.length=len) (hcap:len≤cap) (hv:vs.size=cap * size)
 (hc: ∀ (i:Nat) (el:List C) (j:Nat) (k:C),xs[i]? =some el→el[j]? =some k→ ∃x,vs[i * size+j]? =some x∧RC w A ρ k x∧cH x=true):
 ∃A' ρ',Rel M A' ρ' (Sub F nid) {st with heap:=(nid, .row size xs)::st.heap} a (w.alloc (.cells vs e))∧
  RV (w.alloc (.cells vs e)) A' ρ' (.w (.one (.own nid size 0 len))) (.slice (some ⟨w.heap.size,0,none⟩) len cap)∧cZ ρ ρ'∧bH A A' w:=by
 have hle:xs.length * size≤vs.size:=by rw[hv,hl];exact Nat.mul_le_mul_right _ hcap
 obtain⟨h1,h2⟩:=h.alloc hn (sz:=size) (xs:=xs) (c:=vs) (e:=e) hsz hle hc
 refine⟨_,_,h1,⟨.inl ⟨w.heap.size,cap,cap * size,e,by simp[dl],by simp,hcap,?_,by simp⟩,rfl⟩,h2,bH.new A w⟩
 simp only[World.shape?]
 rw[heap_alloc_new w (.cells vs e)]
 simp[hv]
theorem ou {t:TypeId} {len nid:Nat} {ps:List (Nat×W)} {qs:Array (Nat×Value)} {v:V} {p:Nat×bA} (h:Rel M A ρ F st a w) (hn:F nid)
 (he:dF P t len ps nid=some (v,p)) (hp:Ld w A ρ ps qs.toList):
 ∃y w' A' ρ',(Instr.buildSlice t len qs).run P w= .ok y w'∧Rel M A' ρ' (Sub F nid) {st with heap:=p::st.heap} a w'∧RV w' A' ρ' v y∧dj M w w'∧cZ ρ ρ'∧bH A A' w:=by
 unfold dF at he
 split at he
 · rename_i e hu
   split at he
   · rename_i z hz
     split at he
     · rename_i hc
       simp only[Option.map_eq_some_iff,Prod.mk.injEq]at he
       obtain⟨xs,hxs,rfl,rfl⟩:=he
       obtain⟨i,zv,hi,JT,hzs,MO,hr⟩:=fE hz w A ρ
       obtain⟨vs,hvs,hE⟩:=oo hxs (nn hr len) hp
       have hlen:=tC hxs
       simp only[List.length_replicate]at hlen
       obtain⟨A',ρ',h1,h2,h3,h4⟩:=zw h hn (cap:=len) e hE.1 hlen (Nat.le_refl _) (by rw[hE.2.1,hlen]) hE.2.2
       refine⟨_,_,A',ρ',?_,h1,h2,dj.alloc M w _,h3,h4⟩
       have vS:¬ (len * i.size > 2 ^ 24):=by rw[MO];have:=hc.1;omega
       have hsize:(sizeOf e).run P w= .ok i.size w:=by simp[sizeOf,typeInfo,hi]
       rw[←MO]at hvs
       simp only[Instr.buildSlice,Sem.run_bind,run_underlying hu,Result.andThen_ok,hsize,vS,if_false]
       by_cases h0:len * i.size=0
       · rw[h0,wH,Array.map_empty]at hvs
         simp[h0,wH,hvs,newRow]
       · simp[h0,dW hi JT,hvs,newRow]
     · simp at he
   · simp at he
 · simp at he
def gx (P:Program) (t:TypeId) (l c:V) (nid:Nat):Option (V×(Nat×bA)):=
 match P.underlying t,l.gb,c.gb with
 |some (.slice e),some (_,l),some (_,c)=>
  match jL P e,ov P e with
  |some z,some (_,bytes)=>
   if 0≤l∧l≤c∧c≤4611686018427387904∧c * bytes≤281474976710656 then
    some (.w (.one (.own nid z.length 0 l.toNat)),(nid, .row z.length (List.replicate l.toNat z)))
   else none
  |_,_=>none
 |_,_,_=>none
theorem wrap_i64 {n:Int} (h0:0≤n) (h1:n≤4611686018427387904):IntKind.i64.wrap n=n:=by
 simp[IntKind.wrap,IntKind.bits,IntKind.signed]
 omega
theorem pw {t:TypeId} {nid:Nat} {l c v:V} {x y:Value} {p:Nat×bA} (h:Rel M A ρ F st a w) (hn:F nid)
 (he:gx P t l c nid=some (v,p)) (hl:RV w A ρ l x) (hc:RV w A ρ c y):
 ∃z w' A' ρ',(Instr.makeSlice t x y).run P w= .ok z w'∧Rel M A' ρ' (Sub F nid) {st with heap:=p::st.heap} a w'∧RV w' A' ρ' v z∧dj M w w'∧cZ ρ ρ'∧bH A A' w:=by
 unfold gx at he
 split at he
 · rename_i e k1 ln k2 cn hu h1 h2
   split at he
   · rename_i z size bytes hz hT
     split at he
     · rename_i zT
       obtain⟨c1,c2,c3,c4⟩:=zT
       simp only[Option.some.injEq,Prod.mk.injEq]at he
       obtain⟨rfl,rfl⟩:=he
       have hx:=V.iT h1 hl
       have hy:=V.iT h2 hc
       subst hx
       subst hy
       obtain⟨i,zv,hi,JT,hzs,MO,hr⟩:=fE hz w A ρ
       obtain⟨i',zv',hi',_,awT,hby,_,hpos⟩:=mJ hT
       rw[hi]at hi'
       simp only[Option.some.injEq]at hi'
       subst hi'
       have hE:=nn hr cn.toNat
       have hle:ln.toNat≤cn.toNat:=by omega
       obtain⟨A',ρ',r1,r2,r3,r4⟩:=zw h hn (size:=z.length) (xs:=List.replicate ln.toNat z) (len:=ln.toNat) (cap:=cn.toNat) e
        (fun el hel=>by rw[List.eq_of_mem_replicate hel]) (by simp) hle (by rw[hE.2.1];simp) (fun i el j k hi hj=>by
          refine hE.2.2 i el j k ?_ hj
          have DU:i < ln.toNat:=by have:=(List.getElem?_eq_some_iff.1 hi).1;simpa using this
          simp only[List.getElem?_replicate,DU,if_true]at hi
          simp only[List.getElem?_replicate,show i < cn.toNat by omega,if_true]
          exact hi)
       refine⟨_,_,A',ρ',?_,r1,r2,dj.alloc M w _,r3,r4⟩
       have w1:=wrap_i64 c1 (by omega)
       have w2:=wrap_i64 (n:=cn) (by omega) c3
       have n1:¬cn < 0:=by omega
       have n2:¬ ((i.bytes:Int) * cn > 281474976710656):=by rw[hby,Int.mul_comm];omega
       have n3:¬ln < 0:=by omega
       have n4:¬ln > cn:=by omega
       have hsize:(sizeOf e).run P w= .ok i.size w:=by simp[sizeOf,typeInfo,hi]
       have hti:(typeInfo e).run P w= .ok i w:=by simp[typeInfo,hi]
       have hb:(decide (cn < 0)||decide ((i.bytes:Int) * cn > 2 ^ 48))=false:=by simp;omega
       simp only[Instr.makeSlice,Sem.run_bind,run_underlying hu,Result.andThen_ok,asInt,asIntOf,hti,w1,w2,Sem.run_pure]
       have hif:(decide (cn < 0)||decide ((i.bytes:Int) * cn > 2 ^ 48)||decide (ln < 0)||decide (ln > cn))=false:=by rw[hb];simp;omega
       simp only[hif,Bool.false_eq_true,if_false,run_askRoom,Result.andThen_ok,Sem.run_bind,hsize,Sem.run_pure]
       rw[←MO]at *
       by_cases h0:cn.toNat * i.size=0
       · simp[h0,wH,newRow]
       · simp[h0,dW hi JT,newRow]
     · simp at he
   · simp at he
 · simp at he
end Go.aT
end
section
namespace Go.aT
open Go
variable {P:Program} {M A:Nat→Prop} {ρ:Env} {F:Nat→Prop} {st:St} {a:Act} {w:World}
def dV (P:Program) (t:TypeId) (d s:V) (heap:List (Nat×bA)):Option (V×List (Nat×bA)):=
 match d,s with
 | .w (.one (.own id sz i len)), .w (.one x)=>
   match P.underlying t with
   |some (.slice e)=>
    match cF P e,(if isNil x then some (sz,[])else elems heap x)with
    |some size,some (dy,ys)=>
     if(ys.take len).length=0 then some (.w (.one (.t (.val (goInt 0)))),heap)
     else match find heap id with
      |some (.row sz' xs)=>if sz=size∧sz'=size∧dy=size∧i+len≤xs.length then some (.w (.one (.t (.val (goInt ((ys.take len).length:Int))))),jN heap id (.row size (aR xs i (ys.take len))))else none
      |_=>none
    |_,_=>none
   |_=>none
 |_,_=>none
theorem xA {t t' ty:TypeId} {d s v:V} {x y:Value} {heap':List (Nat×bA)} (h:Rel M A ρ F st a w) (he:dV P t d s st.heap=some (v,heap'))
 (hd:RV w A ρ d x) (hs:RV w A ρ s y): ∃r w',(Builtin.copy_ #[t,t'] ty #[x,y]).run P w= .ok r w'∧Rel M A ρ F {st with heap:=heap'} a w'∧dj M w w'∧RV w' A ρ v r:=by
 unfold dV at he
 split at he
 · rename_i id sz i len xc
   split at he
   · rename_i e hu
     split at he
     · rename_i size dy ys hsz hys
       have XF: ∃inf,P.info? e=some inf∧inf.size=size:=by
        simp only[cF,Option.map_eq_some_iff]at hsz
        exact hsz
       obtain⟨inf,XG,OT⟩:=XF
       have hsrc: ∃b cap,y= .slice b ys.length cap∧ys.length≤cap:=by
        split at hys
        · rename_i hn
          simp only[Option.some.injEq,Prod.mk.injEq]at hys
          obtain⟨_,rfl⟩:=hys
          exact⟨none,0,qC hn hs.1,Nat.le_refl _⟩
        · exact(jK h hys hs.1).2
       obtain⟨sb,atO,rfl,_⟩:=hsrc
       have xf: ∃db Yi,x= .slice db len Yi:=by
        rcases hd.1 with⟨b,cap,q,e',k1,k2,_⟩|⟨_,_,rfl,k2⟩
        · exact⟨_,_,k2⟩
        · exact⟨_,_,k2⟩
       obtain⟨db,Yi,rfl⟩:=xf
       have hmin:Nat.min ys.length len=(ys.take len).length:=by simp[Nat.min_comm]
       split at he
       · rename_i LK
         simp only[Option.some.injEq,Prod.mk.injEq]at he
         obtain⟨rfl,rfl⟩:=he
         refine⟨goInt 0,w,?_,h,dj.refl _ _,RV.ofValue w A ρ (goInt 0)⟩
         have hl: ∀ (q:Addr),(loadCells q 0).run P w= .ok #[] w:=fun q=>by simpa using run_loadCells_list (P:=P) w q [] (by simp)
         rw[LK]at hmin
         cases db<;>cases sb<;>simp[Builtin.copy_,run_underlying hu,Builtin.lenOf,Builtin.firstCells,sizeOf,typeInfo,XG,OT,hmin,storeCells,hl]
       · rename_i LK
         split at he
         · rename_i sz' xs hf
           split at he
           · rename_i hc
             obtain⟨rfl,rfl,rfl,hle⟩:=hc
             simp only[Option.some.injEq,Prod.mk.injEq]at he
             obtain⟨rfl,rfl⟩:=he
             rcases hd.1 with⟨b,cap,q,e',k1,k2,k3,k4,k5⟩|⟨_,_,rfl,_⟩
             · simp only[Value.slice.injEq]at k2
               obtain⟨rfl,_,rfl⟩:=k2
               obtain⟨JW,hb⟩:=h.heap id _ hf
               rcases hb with⟨b',c,ce,q1,q2,q3,q4,q5,q6⟩|⟨h2,_⟩
               · rw[k1]at q1
                 simp only[Option.some.injEq,Loc.gz.injEq]at q1
                 subst q1
                 have hnn:isNil xc=false:=by
                  cases Bp:isNil xc with
                  |false=>rfl
                  |true=>
                   rw[Bp]at hys
                   simp only[if_true,Option.some.injEq,Prod.mk.injEq]at hys
                   rw[←hys.2]at LK
                   simp at LK
                 rw[hnn]at hys
                 simp only[Bool.false_eq_true,if_false]at hys
                 have hne:ys≠ []:=by
                  intro h0
                  subst h0
                  simp at LK
                 obtain⟨MN,_⟩:=jK h hys hs.1
                 obtain⟨b2,o2,azW,e2,hcell⟩:=jl h hys hs.1 hne
                 simp only[Value.slice.injEq]at e2
                 obtain⟨rfl,_,rfl⟩:=e2
                 let zs:=ys.take len
                 have hzs: ∀el,el∈zs→el.length=dy:=fun el hel=>MN el (List.mem_of_mem_take hel)
                 obtain⟨vs,hvl,hvg,CT,hvr⟩:=ol (w:=w) (A:=A) (ρ:=ρ) (xs:=zs) (sz:=dy) (g:=fun n=>w.cell? ⟨b2,o2+n,none⟩) hzs (fun i' el j k hi hj=>by
                  have DU:i' < len:=by
                   have:=(List.getElem?_eq_some_iff.1 hi).1
                   simp only[zs,List.length_take]at this
                   omega
                  exact hcell i' el j k (by simpa[zs,List.getElem?_take,DU]using hi) hj)
                 have jn:zs.length≤len:=by simp only[zs,List.length_take];omega
                 have hfit:i * dy+vs.length≤c.size:=by
                  rw[hvl]
                  have h1:(i+zs.length) * dy≤xs.length * dy:=Nat.mul_le_mul_right _ (by omega)
                  rw[Nat.add_mul]at h1
                  omega
                 have XB:=run_loadCells_list (P:=P) w ⟨b2,o2,none⟩ vs (fun j u Bl=>by
                  have ahA:(⟨b2,o2,none⟩:Addr).add j=⟨b2,o2+j,none⟩:=by unfold Addr.add;split<;>simp_all
                  rw[ahA]
                  exact hvg j u Bl)
                 have hst:=run_storeCells_at P b (i * dy) ce vs 0 c w q4 (by simpa using hfit) CT
                 simp only[Nat.add_zero]at hst
                 have eF:c.toList.length=c.size:=by simp
                 obtain⟨r1,r2⟩:=h.write (c':=(aR c.toList (i * dy) vs).toArray) (xs':=aR xs i zs) hf k1 q4
                  (by simp only[List.size_toArray];rw[cj (by omega)];simp)
                  (fun el hel=>by
                    simp only[aR,List.mem_append]at hel
                    rcases hel with(hel|hel)|hel
                    · exact JW el (List.mem_of_mem_take hel)
                    · exact hzs el hel
                    · exact JW el (List.mem_of_mem_drop hel))
                  (by rw[cj (by omega)];simp only[List.size_toArray];rw[cj (by omega)];simpa using q5)
                  (fun i' el j k hi hj=>by
                    simp only[List.getElem?_toArray]
                    rw[fH (by omega)]
                    rw[fH (by omega)]at hi
                    split at hi
                    · rename_i hin
                      have hel:el.length=dy:=hzs el (List.mem_of_getElem? hi)
                      have hj2:j < dy:=by rw[←hel];exact(List.getElem?_eq_some_iff.1 hj).1
                      have h1:(i' - i) * dy+i * dy=i' * dy:=by rw[←Nat.add_mul];congr 1;omega
                      have h2:(i' - i+1) * dy≤zs.length * dy:=Nat.mul_le_mul_right _ (by omega)
                      rw[Nat.add_mul]at h2
                      rw[if_pos (by rw[hvl];omega),show i' * dy+j - i * dy=(i' - i) * dy+j by omega]
                      exact hvr (i' - i) el j k hi hj
                    · rename_i hin
                      have hel:el.length=dy:=JW el (List.mem_of_getElem? hi)
                      have hj2:j < dy:=by rw[←hel];exact(List.getElem?_eq_some_iff.1 hj).1
                      have hout:¬ (i * dy≤i' * dy+j∧i' * dy+j < i * dy+vs.length):=by
                       intro hh
                       rw[hvl]at hh
                       rcases Nat.lt_or_ge i' i with hlt|hge
                       · have:(i'+1) * dy≤i * dy:=Nat.mul_le_mul_right _ hlt
                         rw[Nat.add_mul]at this
                         omega
                       · have:(i+zs.length) * dy≤i' * dy:=Nat.mul_le_mul_right _ (by omega)
                         rw[Nat.add_mul]at this
                         omega
                      rw[if_neg hout]
                      obtain⟨z,hz,hr,h1⟩:=q6 i' el j k hi hj
                      exact⟨z,by simpa using hz,hr,h1⟩)
                 refine⟨goInt ((ys.take len).length:Int),_,?_,r1,r2,RV.ofValue _ A ρ (goInt ((ys.take len).length:Int))⟩
                 have hnl:Nat.min ys.length len * dy=vs.length:=by rw[hmin,hvl]
                 simp only[Builtin.copy_,Sem.run_bind,List.getElem?_toArray,List.getElem?_cons_zero,List.getElem?_cons_succ,run_underlying hu,Result.andThen_ok,Builtin.lenOf,Builtin.firstCells,Sem.run_pure,sizeOf,typeInfo,run_program,XG,OT]
                 have afN:(ys.take len).length * dy=vs.length:=by rw[←hmin];exact hnl
                 simp only[hmin,afN,XB,Result.andThen_ok,hst,aR]
               · simp[k1]at h2
             · simp at LK
           · simp at he
         · simp at he
     · simp at he
   · simp at he
 · simp at he
end Go.aT
end
section
namespace Go.aT
open Go
variable {P:Program} {M A:Nat→Prop} {ρ:Env} {F:Nat→Prop} {st:St} {a:Act} {w:World}
theorem aI {P:Program} {α β:Type} (x:Sem α) (f:α→Sem β):aH P (x >>= f)=(aH P x).bind fun a=>aH P (f a):=by
 show aH P (x.bind f)=_
 induction x with
 |pure a=>simp[Sem.bind,aH]
 |program k ih=>simp only[Sem.bind,aH];exact ih _
 |mark m k ih=>simp only[Sem.bind,aH];exact ih
 |_=>simp[Sem.bind,aH]
theorem aD {P:Program} {α:Type} (a:α):aH P (pure a:Sem α)=some a:=rfl
theorem cW {P:Program} {α β:Type} (x:Sem α) (f:α→β):aH P (f <$> x)=(aH P x).map f:=by
 have:(f <$> x)=x >>= fun a=>pure (f a):=by simp[bind_pure_comp]
 rw[this,aI]
 cases aH P x<;>rfl
theorem aO {P:Program} {t:TypeId} {d:TypeDesc} (h:P.underlying t=some d):aH P (underlying t)=some d:=by
 simp[underlying,aI,program,aH,h,aD]
def cV (es:List (Value×C×Nat)):List MapEntry:=es.map fun p=>⟨p.1, .bool false,0⟩
def jg (P:Program) (empty:Bool) (kt:TypeId) (k:Value) (es:List (Value×C×Nat)):Option (Option Nat):=
 match aH P (Instr.checkKey empty 10000 kt k)with
 |some _=>match aH P (Instr.findKey kt k (cV es))with
  |some (some (i,_))=>some (some i)
  |some none=>some none
  |none=>none
 |none=>none
def tR (l2:List MapEntry) (i:Nat) (o1 o2:Option (Nat×Value)):Prop:=
 o1.map (·.1)=o2.map (·.1)∧ ∀j v,o2=some (j,v)→i≤j∧ ∃e,l2[j - i]? =some e∧e.val=v
theorem tR.step {l2:List MapEntry} {e:MapEntry} {i:Nat} {o1 o2:Option (Nat×Value)} (h:tR l2 (i+1) o1 o2):tR (e::l2) i o1 o2:=by
 refine⟨h.1,fun j v hj=>?_⟩
 obtain⟨h1,e',h2,h3⟩:=h.2 j v hj
 refine⟨by omega,e',?_,h3⟩
 rw[show j - i=(j - (i+1))+1 by omega]
 simpa using h2
theorem pU {d:TypeDesc} {k:Value}: ∀ {l1 l2:List MapEntry} {i:Nat},l1.map (·.key)=l2.map (·.key)→
 (Instr.findNow d k l1 i=none∧Instr.findNow d k l2 i=none)∨ ∃o1 o2,Instr.findNow d k l1 i=some o1∧Instr.findNow d k l2 i=some o2∧tR l2 i o1 o2
 | [],[],i,_=> .inr ⟨none,none,rfl,rfl,rfl,fun j v h=>by simp at h⟩
 |e1::l1,e2::l2,i,h=>by
  simp only[List.map_cons,List.cons.injEq]at h
  have ih:=pU (d:=d) (k:=k) (i:=i+1) h.2
  simp only[Instr.findNow,h.1]
  split
  · exact .inr ⟨_,_,rfl,rfl,rfl,fun j v hj=>by
     simp only[Option.some.injEq,Prod.mk.injEq]at hj
     obtain⟨rfl,rfl⟩:=hj
     exact⟨Nat.le_refl _,e2,by simp,rfl⟩⟩
  · rcases ih with ih|⟨o1,o2,h1,h2,h3⟩
    · exact .inl ih
    · exact .inr ⟨o1,o2,h1,h2,h3.step⟩
  · exact .inl ⟨rfl,rfl⟩
 | [],_::_,i,h=>by simp at h
 |_::_,[],i,h=>by simp at h
theorem lO {kt:TypeId} {k:Value}: ∀ {l1 l2:List MapEntry} {i:Nat} {o1:Option (Nat×Value)},l1.map (·.key)=l2.map (·.key)→
 aH P (Instr.findAsking kt k l1 i)=some o1→ ∃o2,aH P (Instr.findAsking kt k l2 i)=some o2∧tR l2 i o1 o2
 | [],[],i,o1,_,h=>by
   simp only[Instr.findAsking,aD,Option.some.injEq]at h
   subst h
   exact⟨none,rfl,rfl,fun j v h=>by simp at h⟩
 |e1::l1,e2::l2,i,o1,hk,h=>by
  simp only[List.map_cons,List.cons.injEq]at hk
  simp only[Instr.findAsking,aI,hk.1,Option.bind_eq_some_iff]at h
  obtain⟨b,hb,h⟩:=h
  simp only[Instr.findAsking,aI,hb,Option.bind_some]
  cases b with
  |true=>
   simp only[if_true,aD,Option.some.injEq]at h⊢
   subst h
   refine⟨_,rfl,rfl,fun j v hj=>?_⟩
   simp only[Option.some.injEq,Prod.mk.injEq]at hj
   obtain⟨rfl,rfl⟩:=hj
   exact⟨Nat.le_refl _,e2,by simp,rfl⟩
  |false=>
   simp only[Bool.false_eq_true,if_false]at h⊢
   obtain⟨o2,h1,h2⟩:=lO hk.2 h
   exact⟨o2,h1,h2.step⟩
 | [],_::_,i,o1,hk,h=>by simp at hk
 |_::_,[],i,o1,hk,h=>by simp at hk
theorem yR {kt:TypeId} {k:Value} {l1 l2:List MapEntry} {o1:Option (Nat×Value)} (hk:l1.map (·.key)=l2.map (·.key))
 (h:aH P (Instr.findKey kt k l1)=some o1): ∃o2,aH P (Instr.findKey kt k l2)=some o2∧tR l2 0 o1 o2:=by
 simp only[Instr.findKey,aI,Option.bind_eq_some_iff]at h
 obtain⟨d,hd,h⟩:=h
 rcases pU (d:=d) (k:=k) (i:=0) hk with⟨h1,h2⟩|⟨p1,p2,h1,h2,h3⟩
 · rw[h1]at h
   obtain⟨o2,h4,h5⟩:=lO hk h
   exact⟨o2,by simp only[Instr.findKey,aI,hd,Option.bind_some,h2,h4],h5⟩
 · rw[h1]at h
   simp only[aD,Option.some.injEq]at h
   subst h
   exact⟨p2,by simp only[Instr.findKey,aI,hd,Option.bind_some,h2,aD],h3⟩
theorem dP {empty:Bool} {kt:TypeId} {k:Value} {es:List (Value×C×Nat)} {en:Array MapEntry} {r:Option Nat} (h:jg P empty kt k es=some r)
 (hk:(cV es).map (·.key)=en.toList.map (·.key)) (w:World):
 (Instr.checkKey empty 10000 kt k).run P w= .ok () w∧ ∃o2,(Instr.findKey kt k en.toList).run P w= .ok o2 w∧o2.map (·.1)=r∧ ∀j v,o2=some (j,v)→ ∃e,en[j]? =some e∧e.val=v:=by
 unfold jg at h
 split at h
 · rename_i u hu
   refine⟨nN hu w,?_⟩
   have fin: ∀ {o1:Option (Nat×Value)},aH P (Instr.findKey kt k (cV es))=some o1→o1.map (·.1)=r→ ∃o2,(Instr.findKey kt k en.toList).run P w= .ok o2 w∧o2.map (·.1)=r∧ ∀j v,o2=some (j,v)→ ∃e,en[j]? =some e∧e.val=v:=by
    intro o1 h1 h2
    obtain⟨o2,h3,h4⟩:=yR hk h1
    refine⟨o2,nN h3 w,by rw[←h4.1];exact h2,fun j v hj=>?_⟩
    obtain⟨_,e,h5,h6⟩:=h4.2 j v hj
    exact⟨e,by simpa using h5,h6⟩
   split at h
   · rename_i i v hf
     simp only[Option.some.injEq]at h
     subst h
     exact fin hf rfl
   · rename_i hf
     simp only[Option.some.injEq]at h
     subst h
     exact fin hf rfl
   · simp at h
 · simp at h
theorem gG {id clock:Nat} {es:List (Value×C×Nat)} {en:Array MapEntry} (hs:en.size=es.length)
 (h: ∀ (i:Nat) (k:Value) (c:C) (n:Nat),es[i]? =some (k,c,n)→ ∃e,en[i]? =some e∧e.key=k∧e.born=n∧RC w A ρ c e.val∧Av c e.val):
 (cV es).map (·.key)=en.toList.map (·.key):=by
 apply List.ext_getElem?
 intro i
 simp only[cV,List.map_map,List.getElem?_map,Array.getElem?_toList]
 cases he:es[i]? with
 |none=>
  have:en[i]? =none:=by
   rw[Array.getElem?_eq_none_iff]
   have:=List.getElem?_eq_none_iff.1 he
   omega
  rw[this];rfl
 |some p=>
  obtain⟨k,c,n⟩:=p
  obtain⟨e,h1,h2,_⟩:=h i k c n he
  rw[h1]
  simp[h2]
theorem qw {P:Program} {w:World} {r:Nat} {es:Array MapEntry} {clock:Nat} (hb:w.heap[r]? =some (.map es clock)):(getObj r).run P w= .ok (.map es clock) w:=by
 simp[getObj,Sem.run,hb]
theorem Ho {P:Program} {w:World} {r:Nat} {es:Array MapEntry} {clock:Nat} (o:Obj) (hb:w.heap[r]? =some (.map es clock)):(setObj r o).run P w= .ok () {w with heap:=w.heap.setIfInBounds r o}:=by
 simp[setObj,Sem.run,hb]
def nq (P:Program) (t:TypeId):Option Value:=
 match P.info? t with
 |some i=>match i.zero with
  |some z=>if cH z=true then some z else none
  |none=>none
 |none=>none
theorem sC {P:Program} {t:TypeId} {z:Value} (h:nq P t=some z) (w:World):(zeroValue t).run P w= .ok z w∧cH z=true:=by
 unfold nq at h
 split at h
 · rename_i i hi
   split at h
   · rename_i z' hz
     split at h
     · rename_i hc
       simp only[Option.some.injEq]at h
       subst h
       exact⟨dW hi hz w,hc⟩
     · simp at h
   · simp at h
 · simp at h
def bT (b:Bool):W:= .one (.t (.val (.bool b)))
theorem RW.bT (b:Bool):RW w A ρ (bT b) (.bool b):=⟨.val rfl,rfl⟩
theorem GW {u0:W} {x:Value} {b:Bool} (hc:RW w A ρ u0 x):RV w A ρ (.eW [u0,Go.aT.bT b]) (.tuple #[x, .bool b]):=by
 refine⟨_,rfl,rfl,fun k u y hu hy=>?_⟩
 match k with
 |0=>simp at hu hy;subst hu;subst hy;exact hc
 |1=>simp at hu hy;subst hu;subst hy;exact RW.bT b
 |k+2=>simp at hu
theorem iR {id clock:Nat} {es:List (Value×C×Nat)} {n:Nat} {L:List (Nat×V)} {hp:List (Nat×bA)} {x:Value} (hr:Rel M A ρ F ⟨n,L,hp⟩ a w) (hf:find hp id=some (.mp es clock)) (hx:RV w A ρ (.w (.one (.map id))) x):
 ∃b en,ρ id=some (.gz b)∧x= .map (some b)∧w.heap[b]? =some (.map en clock)∧en.size=es.length∧
  ∀ (i:Nat) (k:Value) (c:C) (n:Nat),es[i]? =some (k,c,n)→ ∃e,en[i]? =some e∧e.key=k∧e.born=n∧RC w A ρ c e.val∧Av c e.val:=by
 obtain⟨b,h1,h2⟩:=hx.1
 obtain⟨b',en,k1,k2,k3,k4,k5,k6⟩:=hr.heap id _ hf
 rw[h1]at k1
 simp only[Option.some.injEq,Loc.gz.injEq]at k1
 subst k1
 exact⟨b,en,h1,h2,k4,k5,k6⟩
theorem fP {en:Array MapEntry} {es:List (Value×C×Nat)} (h:en.size=es.length):en.isEmpty=es.isEmpty:=by
 rw[Bool.eq_iff_iff,Array.isEmpty_iff_size_eq_zero,List.isEmpty_iff_length_eq_zero,h]
def iU (P:Program) (t:TypeId) (m k:V) (ok:Bool) (heap:List (Nat×bA)):Option V:=
 match m,k.val? with
 | .w (.one (.map id)),some kv=>match P.underlying t,find heap id with
   |some (.map kt et),some (.mp es _)=>match jg P es.isEmpty kt kv es with
    |some (some i)=>match es[i]? with
     |some (_,c,_)=>some (match ok with|true=> .eW [cw c,bT true]|false=> .w (cw c))
     |none=>none
    |some none=>match nq P et with
     |some z=>some (match ok with|true=> .eW [.one (.t (.val z)),bT false]|false=> .w (.one (.t (.val z))))
     |none=>none
    |none=>none
   |_,_=>none
 |_,_=>none
theorem tE {t:TypeId} {m k:V} {ok:Bool} {hp hp2:List (Nat×bA)} (h: ∀id,m= .w (.one (.map id))→find hp2 id=find hp id):iU P t m k ok hp2=iU P t m k ok hp:=by
 unfold iU
 split
 · rename_i id kv hk
   rw[h id rfl]
 · rfl
theorem tD {t:TypeId} {m k:V} {ok:Bool} {v:V} {xm xk:Value} (h:Rel M A ρ F st a w) (he:iU P t m k ok st.heap=some v) (hm:RV w A ρ m xm) (hk:RV w A ρ k xk):
 ∃x,(Instr.lookup t xm xk ok).run P w= .ok x w∧RV w A ρ v x:=by
 unfold iU at he
 split at he
 · rename_i id kv hkv
   have vk:=V.bk hkv hk
   split at he
   · rename_i kt et es clock hu hf
     obtain⟨b,en,q1,q2,q3,q4,q5⟩:=iR (n:=st.n) (L:=st.tmps) (hp:=st.heap) h hf hm
     split at he
     · rename_i i rJ
       split at he
       · rename_i kk c born Bp
         simp only[Option.some.injEq]at he
         subst he
         obtain⟨c1,o2,c2,c3,c4⟩:=dP rJ (gG (id:=id) (clock:=clock) q4 q5) w
         cases o2 with
         |none=>simp at c3
         |some p=>
          obtain⟨j,v⟩:=p
          simp only[Option.map_some,Option.some.injEq]at c3
          subst c3
          obtain⟨e0,e1,e2,e3,e4,e5⟩:=q5 j kk c born Bp
          obtain⟨e',f1,f2⟩:=c4 j v rfl
          rw[e1]at f1
          simp only[Option.some.injEq]at f1
          subst f1
          subst f2
          refine⟨if ok then .tuple #[e0.val, .bool true]else e0.val,?_,?_⟩
          · simp only[Instr.lookup,Sem.run_bind,run_underlying hu,Result.andThen_ok,q2,qw q3,Sem.run_pure,vk,fP q4,c1,c2]
          · cases ok with
            |true=>exact GW (e5.rw e4)
            |false=>exact e5.rw e4
       · simp at he
     · rename_i rJ
       split at he
       · rename_i z hz
         simp only[Option.some.injEq]at he
         subst he
         obtain⟨c1,o2,c2,c3,c4⟩:=dP rJ (gG (id:=id) (clock:=clock) q4 q5) w
         cases o2 with
         |some p=>simp at c3
         |none=>
          obtain⟨W7,w6⟩:=sC hz w
          refine⟨if ok then .tuple #[z, .bool false]else z,?_,?_⟩
          · simp only[Instr.lookup,Sem.run_bind,run_underlying hu,Result.andThen_ok,q2,qw q3,Sem.run_pure,vk,fP q4,c1,c2,W7]
          · cases ok with
            |true=>exact GW (u0:= .one (.t (.val z))) ⟨RT.val w6,w6⟩
            |false=>exact⟨RT.val w6,w6⟩
       · simp at he
     · simp at he
   · simp at he
 · simp at he
def Ae:List (List C)→Option (List Int)
 | []=>some []
 | [.t (.val (.int .u8 n))]::r=>(Ae r).map (n:: ·)
 |_::_=>none
theorem Ad: ∀ {ys:List (List C)} {ns:List Int},Ae ys=some ns→ns.length=ys.length∧ ∀ (i:Nat) (n:Int),ns[i]? =some n→ys[i]? =some [.t (.val (.int .u8 n))]
 | [],ns,h=>by simp only[Ae,Option.some.injEq]at h;subst h;simp
 |y::ys,ns,h=>by
  unfold Ae at h
  split at h
  · rename_i h0;simp at h0
  · rename_i n r h0
    simp only[List.cons.injEq]at h0
    obtain⟨rfl,rfl⟩:=h0
    simp only[Option.map_eq_some_iff]at h
    obtain⟨ms,hm,rfl⟩:=h
    obtain⟨h1,h2⟩:=Ad hm
    refine⟨by simp[h1],fun i m hi=>?_⟩
    cases i with
    |zero=>simpa using hi
    |succ i=>simpa using h2 i m (by simpa using hi)
  · simp at h
def gY (P:Program) (src dst:TypeId) (v:V) (heap:List (Nat×bA)):Option V:=
 match v with
 | .w (.one (.own id sz i len))=>match P.underlying src,P.underlying dst with
   |some (.slice e),some .string=>match P.underlying e,elems heap (.own id sz i len)with
    |some (.int .u8),some (1,y::ys)=>(Ae (y::ys)).map fun ns=> .w (.one (.t (.val (.string (strOfNums ns)))))
    |_,_=>none
   |_,_=>none
 |_=>none
theorem vB {src dst:TypeId} {v u:V} {x:Value} (h:Rel M A ρ F st a w) (he:gY P src dst v st.heap=some u) (hv:RV w A ρ v x):
 ∃y,(convert src dst x).run P w= .ok y w∧RV w A ρ u y:=by
 unfold gY at he
 split at he
 · rename_i id sz i len
   split at he
   · rename_i e hs hd
     split at he
     · rename_i y ys hu hel
       simp only[Option.map_eq_some_iff]at he
       obtain⟨ns,hn,rfl⟩:=he
       obtain⟨h1,h2⟩:=Ad hn
       obtain⟨b,o,cap,rfl,hc⟩:=jl h hel hv.1 (by simp)
       refine⟨_,run_convert_bytes_arg w src e hs hu b o (y::ys).length cap ns h1 (fun k hk=>?_) dst hd,⟨.val rfl,rfl⟩⟩
       have hk':k < ns.length:=by omega
       have hg:=h2 k ns[k] (by simp[hk'])
       obtain⟨z,hz,hr,_⟩:=hc k _ 0 _ hg rfl
       cases hr
       simp only[Nat.mul_one,Nat.add_zero]at hz
       rw[hz]
       simp[List.getD,hk']
     · simp at he
   · simp at he
 · simp at he
end Go.aT
end
section
namespace Go.aT
open Go
variable {P:Program} {M A:Nat→Prop} {ρ:Env} {F:Nat→Prop} {st:St} {a:Act} {w:World}
def gM (get:Operand→V):List (Nat×Operand)→Option (List (Nat×W))
 | []=>some []
 |(i,x)::r=>match get x,gM get r with
  | .w u,some l=>some ((i,u)::l)
  |_,_=>none
def V.ia:V→Option Bool
 | .w (.one (.t (.val (.bool b))))=>some b
 |_=>none
def yx (get:Operand→V):List Operand→Option (List (Nat×Nat×Nat×Nat))
 | []=>some []
 |x::r=>match get x,yx get r with
  | .w (.one (.ptr id sz i j)),some l=>some ((id,sz,i,j)::l)
  |_,_=>none
def Ra (v:V):Option V:=
 match v with
 | .w (.one c)=>(C.wX c).map fun(n:Nat)=>V.w (.one (.t (.val (goInt (n:Int)))))
 |_=>none
def aj (P:Program) (get:Operand→V) (heap:List (Nat×bA)) (nid:Nat) (o:Oper):Option (V×List (Nat×bA)):=
 let pure:=(aY P get o).map fun v=>(v,heap)
 match o.op with
 | .move x| .assign x=>some (get x,heap)
 | .pick c x y=>
   match(get c).ia with
   |some b=>some (if b then get x else get y,heap)
   |none=>none
 | .alloc e=>(lQ P e nid).map fun p=>(p.1,p.2::heap)
 | .box _ x=>(rP (get x) nid).map fun p=>(p.1,p.2::heap)
 | .build t ps=>match gM get ps.toList with
   |some l=>(lP P t l).map fun v=>(v,heap)
   |none=>none
 | .buildSlice t len ps=>match gM get ps.toList with
   |some l=>(dF P t len l nid).map fun p=>(p.1,p.2::heap)
   |none=>none
 | .load t x=>(eG P t (get x) heap).map fun v=>(v,heap)
 | .store t x y=>(jJ P t (get x) (get y) heap).map fun h=>(.undef,h)
 | .fieldAddr s x f=>(gy P s (get x) f).map fun v=>(v,heap)
 | .field t x f=>match oW P t (get x) f with
   |some v=>some (v,heap)
   |none=>pure
 | .indexAddr t x i=>(fh P t (get x) (get i)).map fun v=>(v,heap)
 | .slice t x lo hi none=>match oV P t (get x) (lo.map get) (hi.map get)with
   |some v=>some (v,heap)
   |none=>pure
 | .makeSlice t l c=>(gx P t (get l) (get c) nid).map fun p=>(p.1,p.2::heap)
 | .extract x k=>match get x with
   | .eW ws=>(ws[k]?).map fun u=>(.w u,heap)
   |_=>none
 | .nilCheck x=>match get x with
   | .w (.one (.ptr id sz i j))=>some (.w (.one (.ptr id sz i j)),heap)
   | .w (.one (.jx f dc))=>some (.w (.one (.jx f dc)),heap)
   |_=>pure
 | .makeFunc (.func f) first captured=>
   if first.isEmpty&& !captured.isEmpty then
    match yx get captured.toList with
    |some l=>some (.w (.one (.jx f l)),heap)
    |none=>none
   else pure
 | .call c=>
   match c.callee with
   | .builtin .len=>
     match c.args.toList,c.argTypes.toList with
     | [x],[t]=>
       match P.underlying t with
       |some (.slice _)=>(Ra (get x)).map fun v=>(v,heap)
       |_=>pure
     |_,_=>none
   | .builtin .append=>
     match c.args.toList,c.argTypes.toList with
     | [s,x],[t,t']=>if t=t' then eR P t (get s) (get x) heap nid else none
     |_,_=>none
   | .builtin .copy=>
     match c.args.toList,c.argTypes.toList with
     | [d,s],[t,_]=>dV P t (get d) (get s) heap
     |_,_=>none
   | .builtin _=>pure
   |_=>none
 | .lookup t m k ok=>(iU P t (get m) (get k) ok heap).map fun v=>(v,heap)
 | .convert src dst x=>match gY P src dst (get x) heap with
   |some v=>some (v,heap)
   |none=>pure
 | .binOp .. | .unOp .. | .index .. | .makeInterface .. =>pure
 |_=>none
theorem jA (h:Rel M A ρ F st a w): ∀ {ps:List (Nat×Operand)} {l:List (Nat×W)},gM st.get ps=some l→Ld w A ρ l (ps.map fun p=>(p.1,a.eval p.2))
 | [],l,hp=>by simp only[gM,Option.some.injEq]at hp;subst hp;trivial
 |(i,x)::r,l,hp=>by
  simp only[gM]at hp
  split at hp
  · rename_i u l' hu hl
    simp only[Option.some.injEq]at hp
    subst hp
    have:=h.get x
    rw[hu]at this
    exact⟨rfl,this,jA h hl⟩
  · simp at hp
theorem V.mN {v:V} {b:Bool} {x:Value} (h:v.ia =some b) (hr:RV w A ρ v x):x= .bool b:=by
 unfold V.ia at h
 split at h
 · simp only[Option.some.injEq]at h
   subst h
   cases hr.1
   rfl
 · simp at h
theorem wI (h:Rel M A ρ F st a w): ∀ {xs:List Operand} {l:List (Nat×Nat×Nat×Nat)},yx st.get xs=some l→
 l.length=xs.length∧ ∀ (k id sz i j:Nat) (x:Value),l[k]? =some (id,sz,i,j)→(xs.map a.eval)[k]? =some x→RP ρ id sz i j x
 | [],l,hp=>by simp only[yx,Option.some.injEq]at hp;subst hp;simp
 |x::r,l,hp=>by
  simp only[yx]at hp
  split at hp
  · rename_i id sz i j l' hu hl
    simp only[Option.some.injEq]at hp
    subst hp
    obtain⟨h1,h2⟩:=wI h hl
    refine⟨by simp[h1],fun k id' sz' i' j' y hk hy=>?_⟩
    cases k with
    |zero=>
     simp only[List.getElem?_cons_zero,Option.some.injEq,Prod.mk.injEq]at hk
     obtain⟨rfl,rfl,rfl,rfl⟩:=hk
     simp only[List.map_cons,List.getElem?_cons_zero,Option.some.injEq]at hy
     subst hy
     have:=h.get x
     rw[hu]at this
     exact this.1
    |succ k=>exact h2 k id' sz' i' j' y (by simpa using hk) (by simpa using hy)
  · simp at hp
theorem pE.of {F':Nat→Prop} {s:Sem Value} {st':St} {v:V} {y:Value} {w':World} {A':Nat→Prop} {ρ':Env} {o:Oper}
 (hx:(execOp a.eval o).run P w=(s.run P w).andThen fun v w'=> .ok (.value v) w')
 (hrun:s.run P w= .ok y w') (hr:Rel M A' ρ' F' st' a w') (hv:RV w' A' ρ' v y) (he:dj M w w') (cJ:cZ ρ ρ') (hA:bH A A' w):
 pE M A ρ F' a w ((execOp a.eval o).run P w) st' v:=
 ⟨y,w',A',ρ', .inl (by rw[hx,hrun];rfl),hr,hv,he,cJ,hA⟩
set_option maxHeartbeats 1000000 in
theorem mH {nid:Nat} {o:Oper} {v:V} {heap':List (Nat×bA)} (he:aj P st.get st.heap nid o=some (v,heap')) (hr:Rel M A ρ F st a w) (hn:F nid):
 pE M A ρ (Sub F nid) a w ((execOp a.eval o).run P w) {st with heap:=heap'} v:=by
 have hF: ∀id,Sub F nid id→F id:=fun id h=>h.1
 have hst:({st with heap:=st.heap}:St)=st:=rfl
 have fI: ∀ {v:V} {heap':List (Nat×bA)},((aY P st.get o).map fun v=>(v,st.heap))=some (v,heap')→
  pE M A ρ (Sub F nid) a w ((execOp a.eval o).run P w) {st with heap:=heap'} v:=by
  intro v heap' h
  simp only[Option.map_eq_some_iff,Prod.mk.injEq]at h
  obtain⟨u,hu,rfl,rfl⟩:=h
  exact iE hu hr hF
 obtain⟨dst,op,ty,pos,after,guard⟩:=o
 cases op with
 |move x=>
  simp only[aj,Option.some.injEq,Prod.mk.injEq]at he
  obtain⟨rfl,rfl⟩:=he
  exact pE.same hr hF (by simp[execOp]) (hr.get x)
 |assign x=>
  simp only[aj,Option.some.injEq,Prod.mk.injEq]at he
  obtain⟨rfl,rfl⟩:=he
  exact pE.same hr hF (by simp[execOp]) (hr.get x)
 |pick c x y=>
  simp only[aj]at he
  split at he
  · rename_i b hb
    simp only[Option.some.injEq,Prod.mk.injEq]at he
    obtain⟨rfl,rfl⟩:=he
    have hc:=V.mN hb (hr.get c)
    refine pE.same (x:=if b then a.eval x else a.eval y) hr hF (by simp[execOp,hc,asBool]) ?_
    cases b
    · exact hr.get y
    · exact hr.get x
  · simp at he
 |alloc e=>
  simp only[aj,Option.map_eq_some_iff,Prod.mk.injEq]at he
  obtain⟨⟨u,p⟩,hp,rfl,rfl⟩:=he
  obtain⟨y,w',A',ρ',h1,h2,h3,h4,h5,h6⟩:=vD (P:=P) hr hn hp
  exact pE.of (s:=Instr.alloc e true (.tuple #[])) (by simp[execOp]) h1 h2 h3 h4 h5 h6
 |box e x=>
  simp only[aj,Option.map_eq_some_iff,Prod.mk.injEq]at he
  obtain⟨⟨u,p⟩,hp,rfl,rfl⟩:=he
  obtain⟨y,w',A',ρ',h1,h2,h3,h4,h5,h6⟩:=yU (P:=P) (e:=e) hr hn hp (hr.get x)
  exact pE.of (s:=Instr.box e (a.eval x)) (by simp[execOp]) h1 h2 h3 h4 h5 h6
 |build t ps=>
  simp only[aj]at he
  split at he
  · rename_i l hl
    simp only[Option.map_eq_some_iff,Prod.mk.injEq]at he
    obtain⟨u,hu,rfl,rfl⟩:=he
    obtain⟨y,h1,h2⟩:=vC (P:=P) (qs:=ps.map fun p=>(p.1,a.eval p.2)) hu (by simpa using jA hr hl)
    exact pE.same hr hF (by
     show(Bind.bind (Instr.build t (ps.map fun p=>(p.1,a.eval p.2))) fun v=>Pure.pure (Next.value v)).run P w=_
     rw[Sem.run_bind,h1]
     simp only[Result.andThen_ok,Sem.run_pure]) h2
  · simp at he
 |buildSlice t len ps=>
  simp only[aj]at he
  split at he
  · rename_i l hl
    simp only[Option.map_eq_some_iff,Prod.mk.injEq]at he
    obtain⟨⟨u,p⟩,hp,rfl,rfl⟩:=he
    obtain⟨y,w',A',ρ',h1,h2,h3,h4,h5,h6⟩:=ou (P:=P) (qs:=ps.map fun p=>(p.1,a.eval p.2)) hr hn hp (by simpa using jA hr hl)
    exact pE.of (s:=Instr.buildSlice t len (ps.map fun p=>(p.1,a.eval p.2))) (by
     show(Bind.bind (Instr.buildSlice t len (ps.map fun p=>(p.1,a.eval p.2))) fun v=>Pure.pure (Next.value v)).run P w=_
     rw[Sem.run_bind]
     simp only[Sem.run_pure]) h1 h2 h3 h4 h5 h6
  · simp at he
 |load t x=>
  simp only[aj,Option.map_eq_some_iff,Prod.mk.injEq]at he
  obtain⟨u,hu,rfl,rfl⟩:=he
  obtain⟨y,h1,h2⟩:=ot hr hu (hr.get x)
  exact pE.same hr hF (by simp[execOp,h1]) h2
 |store t x y=>
  simp only[aj,Option.map_eq_some_iff,Prod.mk.injEq]at he
  obtain⟨h',hh,rfl,rfl⟩:=he
  obtain⟨w',h1,h2,h3⟩:=vv hr hh (hr.get x) (hr.get y)
  exact⟨undef,w',A,ρ, .inr ⟨by simp[execOp,h1],rfl⟩,h2.sub hF,trivial,h3,cZ.refl _,bH.refl A w⟩
 |fieldAddr s x f=>
  simp only[aj,Option.map_eq_some_iff,Prod.mk.injEq]at he
  obtain⟨u,hu,rfl,rfl⟩:=he
  obtain⟨y,h1,h2⟩:=pA hu (hr.get x)
  exact pE.same hr hF (by simp[execOp,h1]) h2
 |field t x f=>
  simp only[aj]at he
  split at he
  · rename_i u hu
    simp only[Option.some.injEq,Prod.mk.injEq]at he
    obtain⟨rfl,rfl⟩:=he
    obtain⟨y,h1,h2⟩:=vA hu (hr.get x)
    exact pE.same hr hF (by simp[execOp,h1]) h2
  · exact fI he
 |indexAddr t x i=>
  simp only[aj,Option.map_eq_some_iff,Prod.mk.injEq]at he
  obtain⟨u,hu,rfl,rfl⟩:=he
  obtain⟨y,h1,h2⟩:=pz hu (hr.get x) (hr.get i)
  exact pE.same hr hF (by simp[execOp,h1]) h2
 |slice t x lo hi mx=>
  cases mx with
  |some m=>simp[aj]at he
  |none=>
   simp only[aj]at he
   split at he
   · rename_i u hu
     simp only[Option.some.injEq,Prod.mk.injEq]at he
     obtain⟨rfl,rfl⟩:=he
     obtain⟨y,h1,h2⟩:=vw (lo':=lo.map a.eval) (hi':=hi.map a.eval) hu (hr.get x)
      (fun u hu=>by cases lo with|none=>simp at hu|some z=>simp only[Option.map_some,Option.some.injEq]at hu;subst hu;exact⟨_,rfl,hr.get z⟩) (fun h=>by cases lo<;>simp_all)
      (fun u hu=>by cases hi with|none=>simp at hu|some z=>simp only[Option.map_some,Option.some.injEq]at hu;subst hu;exact⟨_,rfl,hr.get z⟩) (fun h=>by cases hi<;>simp_all)
     exact pE.same hr hF (by simp[execOp,h1]) h2
   · exact fI he
 |makeSlice t l c=>
  simp only[aj,Option.map_eq_some_iff,Prod.mk.injEq]at he
  obtain⟨⟨u,p⟩,hp,rfl,rfl⟩:=he
  obtain⟨y,w',A',ρ',h1,h2,h3,h4,h5,h6⟩:=pw (P:=P) hr hn hp (hr.get l) (hr.get c)
  exact pE.of (s:=Instr.makeSlice t (a.eval l) (a.eval c)) (by simp[execOp]) h1 h2 h3 h4 h5 h6
 |extract x k=>
  simp only[aj]at he
  split at he
  · rename_i ws EI
    simp only[Option.map_eq_some_iff,Prod.mk.injEq]at he
    obtain⟨u,hu,rfl,rfl⟩:=he
    have hx:=hr.get x
    rw[EI]at hx
    obtain⟨vs,h1,h2,h3⟩:=hx
    have hk:k < vs.size:=by rw[←h2];exact(List.getElem?_eq_some_iff.1 hu).1
    have hv:vs[k]? =some vs[k]:=by simp[hk]
    exact pE.same hr hF (x:=vs[k]) (by simp[execOp,Instr.extract,h1,hk]) (h3 k u _ hu hv)
  · simp at he
 |nilCheck x=>
  simp only[aj]at he
  split at he
  · rename_i id sz i j hx
    simp only[Option.some.injEq,Prod.mk.injEq]at he
    obtain⟨rfl,rfl⟩:=he
    have h:=hr.get x
    rw[hx]at h
    have h':=h
    obtain⟨b,k1,k2⟩:=h.1
    exact pE.same hr hF (x:=a.eval x) (by simp only[execOp,k2,Sem.run_pure]) h'
  · rename_i f dc hx
    simp only[Option.some.injEq,Prod.mk.injEq]at he
    obtain⟨rfl,rfl⟩:=he
    have h:=hr.get x
    rw[hx]at h
    have h':=h
    obtain⟨vs,k1,k2⟩:=h.1
    exact pE.same hr hF (x:=a.eval x) (by simp only[execOp,k1,Sem.run_pure]) h'
  · exact fI he
 |makeFunc fn first captured=>
  cases fn with
  |func f=>
   simp only[aj]at he
   split at he
   · rename_i hc
     split at he
     · rename_i l hl
       simp only[Option.some.injEq,Prod.mk.injEq]at he
       obtain⟨rfl,rfl⟩:=he
       simp only[Bool.and_eq_true,Array.isEmpty_iff]at hc
       obtain⟨rfl,_⟩:=hc
       obtain⟨k1,k2⟩:=wI hr hl
       refine pE.same hr hF (x:= .func (.func f) #[] (captured.map a.eval)) (by simp[execOp,Instr.makeFunc]) ⟨⟨_,rfl,by simp[k1],fun k id sz i j x hk hx=>k2 k id sz i j x hk ?_⟩,rfl⟩
       simpa using hx
     · simp at he
   · exact fI he
  |_=>simp[aj]at he
 |call c=>
  obtain⟨callee,args,argTypes⟩:=c
  simp only[aj]at he
  split at he
  · split at he
    · rename_i x t hargs ji
      have ea:args= #[x]:=by rw[←Array.toArray_toList (xs:=args),hargs]
      have et:argTypes= #[t]:=by rw[←Array.toArray_toList (xs:=argTypes),ji]
      subst ea
      subst et
      split at he
      · rename_i e hu
        simp only[Option.map_eq_some_iff,Prod.mk.injEq]at he
        obtain⟨u,Bl,rfl,rfl⟩:=he
        unfold Ra at Bl
        split at Bl
        · rename_i c hc
          simp only[Option.map_eq_some_iff]at Bl
          obtain⟨n,hn',rfl⟩:=Bl
          have h:=hr.get x
          rw[hc]at h
          obtain⟨b,cap,hs,_⟩:=C.sZ hn' h.1
          exact pE.same hr hF (x:=goInt n) (by simp[execOp,resolve,invoke,builtin,Builtin.len_,run_underlying hu,hs]) ⟨.val rfl,rfl⟩
        · simp at Bl
      · exact fI he
    · simp at he
  · split at he
    · rename_i s x t t' hargs ji
      have ea:args= #[s,x]:=by rw[←Array.toArray_toList (xs:=args),hargs]
      have et:argTypes= #[t,t']:=by rw[←Array.toArray_toList (xs:=argTypes),ji]
      subst ea
      subst et
      split at he
      · rename_i e
        subst e
        obtain⟨y,w',A',ρ',h1,h2,h3,h4,h5,h6⟩:=tF (P:=P) (ty:=ty) hr hn he (hr.get s) (hr.get x)
        exact pE.of (s:=Builtin.append_ #[t,t] ty #[a.eval s,a.eval x]) (by simp[execOp,resolve,invoke,builtin]) h1 h2 h3 h4 h5 h6
      · simp at he
    · simp at he
  · split at he
    · rename_i d s t t' hargs ji
      have ea:args= #[d,s]:=by rw[←Array.toArray_toList (xs:=args),hargs]
      have et:argTypes= #[t,t']:=by rw[←Array.toArray_toList (xs:=argTypes),ji]
      subst ea
      subst et
      obtain⟨r,w',h1,h2,h3,h4⟩:=xA (P:=P) (t':=t') (ty:=ty) hr he (hr.get d) (hr.get s)
      exact pE.of (s:=Builtin.copy_ #[t,t'] ty #[a.eval d,a.eval s]) (by simp[execOp,resolve,invoke,builtin]) h1 (h2.sub hF) h4 h3 (cZ.refl _) (bH.refl _ _)
    · simp at he
  · exact fI he
  · simp at he
 |lookup t m k ok=>
  simp only[aj,Option.map_eq_some_iff,Prod.mk.injEq]at he
  obtain⟨u,hu,rfl,rfl⟩:=he
  obtain⟨x,h1,h2⟩:=tD hr hu (hr.get m) (hr.get k)
  exact pE.of (s:=Instr.lookup t (a.eval m) (a.eval k) ok) (by simp[execOp]) h1 (hr.sub hF) h2 (dj.refl _ _) (cZ.refl _) (bH.refl _ _)
 |binOp=>exact fI (by simpa[aj]using he)
 |unOp=>exact fI (by simpa[aj]using he)
 |convert src dst' x=>
  simp only[aj]at he
  split at he
  · rename_i u hu
    simp only[Option.some.injEq,Prod.mk.injEq]at he
    obtain⟨rfl,rfl⟩:=he
    obtain⟨y,h1,h2⟩:=vB hr hu (hr.get x)
    exact pE.of (s:=convert src dst' (a.eval x)) (by simp[execOp]) h1 (hr.sub hF) h2 (dj.refl _ _) (cZ.refl _) (bH.refl _ _)
  · exact fI he
 |index=>exact fI (by simpa[aj]using he)
 |makeInterface=>exact fI (by simpa[aj]using he)
 |_=>simp[aj]at he
end Go.aT
end
section
namespace Go.aT
open Go
abbrev bu (n:Nat):Nat→Prop:=fun id=>n≤id
abbrev HR (M A:Nat→Prop) (ρ:Env) (F:Nat→Prop) (heap:List (Nat×bA)) (w:World):Prop:=Rel M A ρ F ⟨0,[],heap⟩ ⟨#[],[]⟩ w
def BW (w:World) (A:Nat→Prop) (ρ:Env) (us:List W) (xs:List Value):Prop:=
 us.length=xs.length∧ ∀ (k:Nat) (u:W) (x:Value),us[k]? =some u→xs[k]? =some x→RW w A ρ u x
def qS (ρ:Env) (heap:List (Nat×bA)) (b:Nat):Prop:= ∃id blk,find heap id=some blk∧ρ id=some (.gz b)
def Fn (P:Program) (f:FuncId) (args:List W) (hin:List (Nat×bA)) (res:V) (hout:List (Nat×bA)):Prop:=
 ∀ (w:World) (A:Nat→Prop) (ρ:Env) (xs:Array Value),
  HR (fun b=>qS ρ hin b∨w.heap.size≤b) A ρ (bu 4) hin w→BW w A ρ args xs.toList→
  Calls P f xs w fun e w'=> ∃x A' ρ' F',e= .returned x∧RV w' A' ρ' res x∧HR (fun b=>qS ρ hin b∨w.heap.size≤b) A' ρ' F' hout w'∧
   dj (fun b=>qS ρ hin b∨w.heap.size≤b) w w'∧iZ ρ ρ'∧bH A A' w
def C.up (n:Nat):C→C
 | .own id sz i len=>if id < 4 then .own (id+n) sz i len else .any
 | .ptr id sz i j=>if id < 4 then .ptr (id+n) sz i j else .any
 | .jx f dc=>if dc.all (fun p=>p.1 < 4)then .jx f (dc.map fun p=>(p.1+n,p.2))else .any
 | .map id=>if id < 4 then .map (id+n)else .any
 | .it _=> .any
 |c=>c
def W.up (n:Nat):W→W
 | .one c=> .one (c.up n)
 | .agg cs=> .agg (cs.map (C.up n))
def V.up (n:Nat):V→V
 | .w u=> .w (u.up n)
 | .eW ws=> .eW (ws.map (W.up n))
 | .undef=> .undef
def bA.up (n:Nat):bA→bA
 | .row sz xs=> .row sz (xs.map fun e=>e.map (C.up n))
 | .mp es clock=> .mp (es.map fun p=>(p.1,p.2.1.up n,p.2.2)) clock
def gj (n:Nat):List (Nat×bA)→List (Nat×bA)
 | []=>[]
 |(id,b)::r=>if id < 4 then(id+n,b.up n)::gj n r else gj n r
variable {P:Program} {M A:Nat→Prop} {ρ:Env} {F:Nat→Prop} {st:St} {a:Act} {w:World}
theorem RC.up {ρ2:Env} {n:Nat} {c:C} {x:Value} (h:RC w A ρ c x) (hρ: ∀id l,id < 4→ρ id=some l→ρ2 (id+n)=some l):RC w A ρ2 (c.up n) x:=by
 cases c with
 |t y=>exact h
 |own id sz i len=>
  simp only[C.up]
  split
  · rename_i bN
    rcases h with⟨b,cap,q,e,h1,h2⟩|⟨h1,h2⟩
    · exact .inl ⟨b,cap,q,e,hρ _ _ bN h1,h2⟩
    · exact .inr ⟨hρ _ _ bN h1,h2⟩
  · trivial
 |ptr id sz i j=>
  simp only[C.up]
  split
  · rename_i bN
    obtain⟨b,h1,h2⟩:=h
    exact⟨b,hρ _ _ bN h1,h2⟩
  · trivial
 |uc e j=>exact h
 |jx f dc=>
  simp only[C.up]
  split
  · rename_i hall
    obtain⟨vs,h1,h2,h3⟩:=h
    refine⟨vs,h1,by simpa using h2,fun k id sz i j y hk hy=>?_⟩
    simp only[List.getElem?_map,Option.map_eq_some_iff,Prod.mk.injEq]at hk
    obtain⟨⟨id',r⟩,hk',bN,hr⟩:=hk
    simp only at bN hr
    subst hr
    have hlt:id' < 4:=by
     have:=List.all_eq_true.1 hall _ (List.mem_of_getElem? hk')
     simpa using this
    obtain⟨b,k1,k2⟩:=h3 k id' sz i j y hk' hy
    exact⟨b,bN▸hρ _ _ hlt k1,k2⟩
  · trivial
 |map id=>
  simp only[C.up]
  split
  · rename_i bN
    obtain⟨b,h1,h2⟩:=h
    exact⟨b,hρ _ _ bN h1,h2⟩
  · trivial
 |it=>trivial
 |lR f g ts=>exact h
 |pk ts=>exact h
 |any=>trivial
theorem C.Rf (n:Nat) (c:C):(c.up n).LG=c.LG:=by
 cases c<;>simp only[C.up]<;>(try split)<;>rfl
theorem Av.up {n:Nat} {c:C} {v:Value} (h:Av c v):Av (c.up n) v:=by
 unfold Av
 rw[C.Rf]
 exact h
theorem yl.up {ρ2:Env} {n:Nat} {cs:List C} {vs:Array Value} (h:yl w A ρ cs vs) (hρ: ∀id l,id < 4→ρ id=some l→ρ2 (id+n)=some l):yl w A ρ2 (cs.map (C.up n)) vs:=by
 refine⟨by simpa using h.1,fun k c x hk hx=>?_⟩
 simp only[List.getElem?_map,Option.map_eq_some_iff]at hk
 obtain⟨d,hd,rfl⟩:=hk
 obtain⟨h1,h2⟩:=h.2 k d x hd hx
 exact⟨h1.up hρ,h2⟩
theorem RW.up {ρ2:Env} {n:Nat} {u:W} {x:Value} (h:RW w A ρ u x) (hρ: ∀id l,id < 4→ρ id=some l→ρ2 (id+n)=some l):RW w A ρ2 (u.up n) x:=by
 cases u with
 |one c=>exact⟨h.1.up hρ,h.2⟩
 |agg cs=>obtain⟨vs,h1,h2⟩:=h;exact⟨vs,h1,h2.up hρ⟩
theorem RV.up {ρ2:Env} {n:Nat} {u:V} {x:Value} (h:RV w A ρ u x) (hρ: ∀id l,id < 4→ρ id=some l→ρ2 (id+n)=some l):RV w A ρ2 (u.up n) x:=by
 cases u with
 |w y=>exact RW.up h hρ
 |eW ws=>
  obtain⟨vs,h1,h2,h3⟩:=h
  refine⟨vs,h1,by simpa using h2,fun k u x hk hx=>?_⟩
  simp only[List.getElem?_map,Option.map_eq_some_iff]at hk
  obtain⟨d,hd,rfl⟩:=hk
  exact(h3 k d x hd hx).up hρ
 |undef=>trivial
theorem uC (n:Nat) (h:List (Nat×bA)) (k:Nat) (b:bA) (hf:find (gj n h) k=some b): ∃id b',id < 4∧k=id+n∧find h id=some b'∧b=b'.up n:=by
 induction h with
 |nil=>simp[gj,find]at hf
 |cons p r ih=>
  obtain⟨id,b'⟩:=p
  simp only[gj]at hf
  split at hf
  · rename_i bN
    simp only[aA]at hf
    split at hf
    · rename_i e
      simp only[Option.some.injEq]at hf
      exact⟨id,b',bN,e.symm,by simp[aA],hf.symm⟩
    · rename_i e
      obtain⟨HH,b2,h1,h2,h3,h4⟩:=ih hf
      refine⟨HH,b2,h1,h2,?_,h4⟩
      have:¬id=HH:=by omega
      simp[aA,this,h3]
  · rename_i bN
    obtain⟨HH,b2,h1,h2,h3,h4⟩:=ih hf
    refine⟨HH,b2,h1,h2,?_,h4⟩
    have:¬id=HH:=by omega
    simp[aA,this,h3]
theorem cO {α:Type} (l r:List (Nat×α)) (k:Nat):find (l++r) k=(find l k).or (find r k):=by
 induction l with
 |nil=>simp[find]
 |cons p q ih=>
  obtain⟨i,v⟩:=p
  simp only[List.cons_append,aA,ih]
  split<;>simp
def C.flat:C→Bool
 | .t (.val _)| .own .. | .ptr .. | .jx .. | .map _| .any=>true
 |_=>false
def W.flat:W→Bool
 | .one c=>c.flat
 | .agg cs=>cs.all C.flat
def V.flat:V→Bool
 | .w u=>u.flat
 | .eW ws=>ws.all W.flat
 | .undef=>true
def bA.flat:bA→Bool
 | .row _ xs=>xs.all fun e=>e.all C.flat
 | .mp es _=>es.all fun p=>p.2.1.flat
theorem RC.flat {A':Nat→Prop} {c:C} {x:Value} (h:RC w A ρ c x) (hf:c.flat=true):RC w A' ρ c x:=by
 cases c with
 |t y=>cases y with
  |val v=>cases h with|val h=>exact .val h
  |aB=>simp[C.flat]at hf
 |uc=>simp[C.flat]at hf
 |own=>exact h
 |ptr=>exact h
 |jx=>exact h
 |map=>exact h
 |lR=>simp[C.flat]at hf
 |pk=>simp[C.flat]at hf
 |it=>simp[C.flat]at hf
 |any=>trivial
theorem RW.flat {A':Nat→Prop} {u:W} {x:Value} (h:RW w A ρ u x) (hf:u.flat=true):RW w A' ρ u x:=by
 cases u with
 |one c=>exact⟨h.1.flat hf,h.2⟩
 |agg cs=>
  obtain⟨vs,h1,h2⟩:=h
  refine⟨vs,h1,h2.1,fun k c x hk hx=>⟨(h2.2 k c x hk hx).1.flat ?_,(h2.2 k c x hk hx).2⟩⟩
  exact List.all_eq_true.1 hf c (List.mem_of_getElem? hk)
theorem RV.flat {A':Nat→Prop} {u:V} {x:Value} (h:RV w A ρ u x) (hf:u.flat=true):RV w A' ρ u x:=by
 cases u with
 |w y=>exact RW.flat h hf
 |eW ws=>
  obtain⟨vs,h1,h2,h3⟩:=h
  exact⟨vs,h1,h2,fun k u x hk hx=>(h3 k u x hk hx).flat (List.all_eq_true.1 hf u (List.mem_of_getElem? hk))⟩
 |undef=>trivial
theorem RC.grow {A':Nat→Prop} {c:C} {x:Value} (h:RC w A ρ c x) (hA: ∀b,A' b→A b):RC w A' ρ c x:=
 h.keeps ⟨Nat.le_refl _,fun b _ hn=>⟨rfl,fun h=>hn (hA b h)⟩⟩ (fun _ _=>rfl) (cZ.refl _)
theorem RW.grow {A':Nat→Prop} {c:W} {x:Value} (h:RW w A ρ c x) (hA: ∀b,A' b→A b):RW w A' ρ c x:=
 h.keeps ⟨Nat.le_refl _,fun b _ hn=>⟨rfl,fun h=>hn (hA b h)⟩⟩ (fun _ _=>rfl) (cZ.refl _)
theorem RV.grow {A':Nat→Prop} {c:V} {x:Value} (h:RV w A ρ c x) (hA: ∀b,A' b→A b):RV w A' ρ c x:=
 h.keeps ⟨Nat.le_refl _,fun b _ hn=>⟨rfl,fun h=>hn (hA b h)⟩⟩ (fun _ _=>rfl) (cZ.refl _)
theorem Rel.import (h:Rel M A ρ F st a w) {nid:Nat} (hn: ∀k,nid≤k→k < nid+4→F k) {A1:Nat→Prop} {ρ1:Env} {F1:Nat→Prop} {hout:List (Nat×bA)} {w':World} {res:V} {x:Value}
 (dU:dj (fun b=>w.heap.size≤b) w w') (hr:HR (fun b=>w.heap.size≤b) A1 ρ1 F1 hout w') (hg: ∀b,b < w.heap.size→A1 b→A b) (hv:RV w' A1 ρ1 res x)
 (hfl:(∀b,A b→A1 b)∨(res.flat=true∧ ∀id blk,find hout id=some blk→blk.flat=true)):
 ∃A2 ρ2,Rel M A2 ρ2 (Sub F nid) {st with heap:=gj nid hout++st.heap} a w'∧RV w' A2 ρ2 (res.up nid) x∧dj M w w'∧cZ ρ ρ2∧bH A A2 w:=by
 let ρ2:Env:=fun k=>if nid≤k∧k < nid+4 then ρ1 (k - nid)else ρ k
 have Rm: ∀id l,id < 4→ρ1 id=some l→ρ2 (id+nid)=some l:=by
  intro id l bN hl
  simp only[ρ2]
  rw[if_pos ⟨by omega,by omega⟩,show id+nid - nid=id by omega]
  exact hl
 have cJ:cZ ρ ρ2:=by
  intro id l hl
  simp only[ρ2]
  split
  · rename_i hc
    have:=h.fresh id (hn id hc.1 hc.2)
    simp[this]at hl
  · exact hl
 have CZ:dj M w w':=dU.weaken (fun i hi ho=>by omega)
 let A2:Nat→Prop:=fun b=>A b∨A1 b
 have hgrow:bH A A2 w:=⟨fun b hb=> .inl hb,fun b hb h'=>h'.elim id (hg b hb)⟩
 have hk:eK A A2 w w':=⟨dU.size,fun b hb J4=>⟨dU.block b hb (by omega),fun h'=>h'.elim J4 (fun h1=>J4 (hg b hb h1))⟩⟩
 have hs: ∀k,k < w.heap.size→w'.shape? k=w.shape? k:=dU.shape
 have hC: ∀ {c:C} {y:Value},RC w' A1 ρ1 c y→((∀b,A b→A1 b)∨c.flat=true)→RC w' A2 ρ1 c y:=by
  intro c y hc hh
  rcases hh with hh|hh
  · exact hc.grow (fun b hb=>hb.elim (hh b) id)
  · exact hc.flat hh
 have hV:RV w' A2 ρ1 res x:=by
  rcases hfl with hh|hh
  · exact hv.grow (fun b hb=>hb.elim (hh b) id)
  · exact hv.flat hh.1
 refine⟨A2,ρ2,⟨h.size,h.defers,fun t v hv=>(h.tmps t v hv).keeps hk hs cJ,?_,?_,?_,?_,?_,h.ep.Ig CZ hgrow.2⟩,hV.up Rm,CZ,cJ,hgrow⟩
 · intro k blk hf
   simp only[cO,Option.or_eq_some_iff]at hf
   rcases hf with hf|⟨_,hf⟩
   · obtain⟨id,b',bN,rfl,hb',rfl⟩:=uC _ _ _ _ hf
     have hb:=hr.heap id b' hb'
     cases b' with
     |row sz xs=>
      obtain⟨q1,q2⟩:=hb
      refine⟨fun e he=>?_,?_⟩
      · simp only[List.mem_map]at he
        obtain⟨e',he',rfl⟩:=he
        simpa using q1 e' he'
      · rcases q2 with⟨b,c,e,k1,k2,k3,k4,k5,k6⟩|⟨k1,k2⟩
        · refine .inl ⟨b,c,e,Rm _ _ bN k1,h.may b k2, .inr k3,k4,by simpa using k5,fun i el j q hi hj=>?_⟩
          simp only[List.getElem?_map,Option.map_eq_some_iff]at hi
          obtain⟨DZ,C2,rfl⟩:=hi
          simp only[List.getElem?_map,Option.map_eq_some_iff]at hj
          obtain⟨q',F5,rfl⟩:=hj
          obtain⟨y,hy,dB,h1⟩:=k6 i DZ j q' C2 F5
          refine⟨y,hy,(hC dB ?_).up Rm,h1⟩
          rcases hfl with hh|hh
          · exact .inl hh
          · have:=hh.2 id _ hb'
            simp only[bA.flat,List.all_eq_true]at this
            exact .inr (this DZ (List.mem_of_getElem? C2) q' (List.mem_of_getElem? F5))
        · exact .inr ⟨Rm _ _ bN k1,by rw[k2];rfl⟩
     |mp es clock=>
      obtain⟨b,en,k1,k2,k3,k4,k5,k6⟩:=hb
      refine⟨b,en,Rm _ _ bN k1,h.may b k2, .inr k3,k4,by simpa using k5,fun i k c n hi=>?_⟩
      simp only[List.getElem?_map,Option.map_eq_some_iff]at hi
      obtain⟨⟨k',c',n'⟩,hi',he⟩:=hi
      simp only[Prod.mk.injEq]at he
      obtain⟨rfl,rfl,rfl⟩:=he
      obtain⟨e,h1,h2,h3,h4,h5⟩:=k6 i k' c' n' hi'
      refine⟨e,h1,h2,h3,(hC h4 ?_).up Rm,h5.up⟩
      rcases hfl with hh|hh
      · exact .inl hh
      · have:=hh.2 id _ hb'
        simp only[bA.flat,List.all_eq_true]at this
        exact .inr (this _ (List.mem_of_getElem? hi'))
   · have hb:=h.heap k blk hf
     exact hb.keeps hk hs cJ (fun b hb=> .inl hb) (fun b DW=>dU.block b (hb.lt DW).1 (by have:=(hb.lt DW).1;omega))
 · intro k k' blk gf b h1 h2 r1 r2
   simp only[cO,Option.or_eq_some_iff]at h1 h2
   have old: ∀ {q:Nat} {bl:bA},find st.heap q=some bl→ ∀ {b:Nat},ρ2 q=some (.gz b)→ρ q=some (.gz b)∧b < w.heap.size:=by
    intro q bl hq b hb
    have RY:=h.heap q bl hq
    have F5: ∃l,ρ q=some l:=by
     cases bl with
     |row sz xs=>rcases RY.2 with⟨b,c,e,k1,_⟩|⟨k1,_⟩<;>exact⟨_,k1⟩
     |mp es clock=>obtain⟨b,en,k1,_⟩:=RY;exact⟨_,k1⟩
    obtain⟨l,hl⟩:=F5
    have e1:=cJ q l hl
    rw[e1]at hb
    rw[hl,hb]
    refine⟨rfl,(RY.lt (by rw[hl,hb])).1⟩
   have new: ∀ {q:Nat} {bl:bA},find (gj nid hout) q=some bl→ ∀ {b:Nat},ρ2 q=some (.gz b)→ ∃id b',q=id+nid∧find hout id=some b'∧ρ1 id=some (.gz b)∧w.heap.size≤b:=by
    intro q bl hq b hb
    obtain⟨id,b',bN,rfl,hb',rfl⟩:=uC _ _ _ _ hq
    have RY:=hr.heap id b' hb'
    have hl: ∃l,ρ1 id=some l:=by
     cases b' with
     |row sz xs=>rcases RY.2 with⟨b,c,e,k1,_⟩|⟨k1,_⟩<;>exact⟨_,k1⟩
     |mp es clock=>obtain⟨b,en,k1,_⟩:=RY;exact⟨_,k1⟩
    obtain⟨l,hl⟩:=hl
    have e1:=Rm id l bN hl
    rw[e1]at hb
    have:ρ1 id=some (.gz b):=by rw[hl,hb]
    exact⟨id,b',rfl,hb',this,(RY.lt this).2.1⟩
   rcases h1 with h1|⟨_,h1⟩<;>rcases h2 with h2|⟨_,h2⟩
   · obtain⟨i1,b1,rfl,f1,g1,_⟩:=new h1 r1
     obtain⟨i2,b2,rfl,f2,g2,_⟩:=new h2 r2
     rw[hr.inj i1 i2 b1 b2 b f1 f2 g1 g2]
   · obtain⟨_,_,_,_,_,g1⟩:=new h1 r1
     have:=(old h2 r2).2
     omega
   · obtain⟨_,_,_,_,_,g1⟩:=new h2 r2
     have:=(old h1 r1).2
     omega
   · exact h.inj k k' blk gf b h1 h2 (old h1 r1).1 (old h2 r2).1
 · intro k hk'
   simp only[ρ2]
   rw[if_neg hk'.2]
   exact h.fresh k hk'.1
 · intro b hb
   rcases hb with hb|hb
   · exact Nat.lt_of_lt_of_le (h.bound b hb) dU.size
   · exact hr.bound b hb
 · intro b hb
   exact h.may b (Nat.le_trans dU.size hb)
def C.t?:C→Option T
 | .t x=>some x
 |_=>none
def IR:List C→Option (List T)
 | []=>some []
 |c::r=>match c.t?,IR r with
  |some x,some l=>some (x::l)
  |_,_=>none
def B8:List (List C)→Option (Lz)
 | []=>some []
 |c::r=>match IR c,B8 r with
  |some x,some l=>some (x::l)
  |_,_=>none
theorem B9: ∀ {cs:List C} {ts:List T},IR cs=some ts→cs=ts.map .t
 | [],ts,h=>by simp only[IR,Option.some.injEq]at h;subst h;rfl
 |c::r,ts,h=>by
  simp only[IR]at h
  split at h
  · rename_i x l hx hl
    simp only[Option.some.injEq]at h
    subst h
    have:=B9 hl
    cases c<;>simp[C.t?]at hx
    subst hx
    simp[this]
  · simp at h
theorem zk: ∀ {cs:List (List C)} {ts:Lz},B8 cs=some ts→cs=ts.map fun e=>e.map .t
 | [],ts,h=>by simp only[B8,Option.some.injEq]at h;subst h;rfl
 |c::r,ts,h=>by
  simp only[B8]at h
  split at h
  · rename_i x l hx hl
    simp only[Option.some.injEq]at h
    subst h
    simp[zk hl,B9 hx]
  · simp at h
def ul (heap:List (Nat×bA)) (c:C):Option C:=
 match c with
 | .t x=>some (.t x)
 | .own id sz i len=>
   match elems heap (.own id sz i len)with
   |some (sz,xs)=>(B8 xs).map fun ts=> .t (.aB sz ts)
   |none=>none
 |_=>none
theorem uj (h:Rel M A ρ F st a w) {c d:C} {x:Value} (hl:ul st.heap c=some d) (hr:RC w A ρ c x) (ρ':Env):RC w (fun _=>False) ρ' d x:=by
 unfold ul at hl
 split at hl
 · simp only[Option.some.injEq]at hl
   subst hl
   exact RT.keeps (w:=w) ⟨Nat.le_refl _,fun b _ _=>⟨rfl,fun h=>h⟩⟩ hr
 · rename_i id sz i len
   split at hl
   · rename_i sz' xs he
     simp only[Option.map_eq_some_iff]at hl
     obtain⟨ts,hts,rfl⟩:=hl
     have hm:=zk hts
     obtain⟨hsz,b0,ahW,hx0,Kb⟩:=jK h he hr
     by_cases hne:xs=[]
     · have:ts=[]:=by rw[hne]at hm;cases ts<;>simp at hm;rfl
       subst this
       subst hne
       rw[hx0]
       exact .nil
     · obtain⟨b,o,cap,rfl,hc⟩:=jl h he hr hne
       simp only[Value.slice.injEq]at hx0
       obtain⟨_,_,rfl⟩:=hx0
       have hlen:xs.length=ts.length:=by rw[hm];simp
       have hcell: ∀ (i:Nat) (e:List T) (j:Nat) (t:T),ts[i]? =some e→e[j]? =some t→ ∃y,w.cell? ⟨b,o+(i * sz'+j),none⟩=some y∧RC w A ρ (.t t) y∧cH y=true:=by
        intro i e j t hi hj
        exact hc i (e.map .t) j (.t t) (by rw[hm];simp[hi]) (by simp[hj])
       have hb:b < w.heap.size:=by
        rcases hr with⟨b',cap',q,e',k1,k2,k3,k4,k5⟩|⟨_,_,h2,h3⟩
        · simp only[Value.slice.injEq,Option.some.injEq,Addr.mk.injEq]at k2
          obtain⟨⟨rfl,_⟩,_⟩:=k2
          rcases Nat.lt_or_ge b w.heap.size with hlt|hge
          · exact hlt
          · simp[World.shape?,Array.getElem?_eq_none hge]at k4
        · simp at h3
       have hE:RT w (fun _=>False) (.aB sz' ts) (.slice (some ⟨b,o,none⟩) xs.length cap):=by
        refine .aB (fun i j=>(w.cell? ⟨b,o+(i * sz'+j),none⟩).getD undef) hlen Kb hb (fun h=>h) (fun e he'=>?_) (fun i e j t hi hj=>?_) (fun i e j t hi hj=>?_)
        · have:=hsz (e.map .t) (by rw[hm];exact List.mem_map.2 ⟨e,he',rfl⟩)
          simpa using this
        · obtain⟨y,hy,_⟩:=hcell i e j t hi hj
          rw[Nat.add_assoc,hy];rfl
        · obtain⟨y,hy,dB,_⟩:=hcell i e j t hi hj
          rw[hy]
          exact RT.keeps (w:=w) ⟨Nat.le_refl _,fun b _ _=>⟨rfl,fun h=>h⟩⟩ dB
       exact hE
   · simp at hl
 · simp at hl
def n9 (heap:List (Nat×bA)):List C→Option (List C)
 | []=>some []
 |c::r=>match ul heap c,n9 heap r with
  |some d,some l=>some (d::l)
  |_,_=>none
def rC (heap:List (Nat×bA)):W→Option W
 | .one c=>(ul heap c).map .one
 | .agg cs=>(n9 heap cs).map .agg
def jr (heap:List (Nat×bA)):List W→Option (List W)
 | []=>some []
 |c::r=>match rC heap c,jr heap r with
  |some d,some l=>some (d::l)
  |_,_=>none
theorem wW {heap:List (Nat×bA)}: ∀ {cs ds:List C},n9 heap cs=some ds→ds.length=cs.length∧ ∀ (k:Nat) (d:C),ds[k]? =some d→ ∃c,cs[k]? =some c∧ul heap c=some d
 | [],ds,h=>by simp only[n9,Option.some.injEq]at h;subst h;simp
 |c::r,ds,h=>by
  simp only[n9]at h
  split at h
  · rename_i d l hd hl
    simp only[Option.some.injEq]at h
    subst h
    obtain⟨h1,h2⟩:=wW hl
    refine⟨by simp[h1],fun k e hk=>?_⟩
    cases k with
    |zero=>simp only[List.getElem?_cons_zero,Option.some.injEq]at hk;subst hk;exact⟨c,rfl,hd⟩
    |succ k=>simpa using h2 k e (by simpa using hk)
  · simp at h
theorem wV {heap:List (Nat×bA)}: ∀ {cs ds:List W},jr heap cs=some ds→ds.length=cs.length∧ ∀ (k:Nat) (d:W),ds[k]? =some d→ ∃c,cs[k]? =some c∧rC heap c=some d
 | [],ds,h=>by simp only[jr,Option.some.injEq]at h;subst h;simp
 |c::r,ds,h=>by
  simp only[jr]at h
  split at h
  · rename_i d l hd hl
    simp only[Option.some.injEq]at h
    subst h
    obtain⟨h1,h2⟩:=wV hl
    refine⟨by simp[h1],fun k e hk=>?_⟩
    cases k with
    |zero=>simp only[List.getElem?_cons_zero,Option.some.injEq]at hk;subst hk;exact⟨c,rfl,hd⟩
    |succ k=>simpa using h2 k e (by simpa using hk)
  · simp at h
theorem CG (h:Rel M A ρ F st a w) {u d:W} {x:Value} (hl:rC st.heap u=some d) (hr:RW w A ρ u x) (ρ':Env):RW w (fun _=>False) ρ' d x:=by
 cases u with
 |one c=>
  simp only[rC,Option.map_eq_some_iff]at hl
  obtain⟨e,he,rfl⟩:=hl
  exact⟨uj h he hr.1 ρ',hr.2⟩
 |agg cs=>
  simp only[rC,Option.map_eq_some_iff]at hl
  obtain⟨e,he,rfl⟩:=hl
  obtain⟨vs,rfl,h2⟩:=hr
  obtain⟨k1,k2⟩:=wW he
  refine⟨vs,rfl,k1.trans h2.1,fun k c x hk hx=>?_⟩
  obtain⟨c',EP,hl'⟩:=k2 k c hk
  obtain⟨r1,r2⟩:=h2.2 k c' x EP hx
  exact⟨uj h hl' r1 ρ',r2⟩
def C.bL:C→Bool
 | .t _=>true
 |_=>false
def W.bL:W→Bool
 | .one c=>c.bL
 | .agg cs=>cs.all C.bL
theorem RC.bL {ρ':Env} {c:C} {x:Value} (h:RC w A ρ c x) (hc:c.bL=true):RC w A ρ' c x:=by
 cases c<;>simp[C.bL]at hc
 exact h
theorem RW.bL {ρ':Env} {c:W} {x:Value} (h:RW w A ρ c x) (hc:c.bL=true):RW w A ρ' c x:=by
 cases c with
 |one c=>exact⟨h.1.bL hc,h.2⟩
 |agg cs=>
  obtain⟨vs,h1,h2⟩:=h
  refine⟨vs,h1,h2.1,fun k c x hk hx=>⟨(h2.2 k c x hk hx).1.bL ?_,(h2.2 k c x hk hx).2⟩⟩
  exact List.all_eq_true.1 hc c (List.mem_of_getElem? hk)
def Ar (P:Program) (f:FuncId) (args:List W) (res:V) (hout:List (Nat×bA)):Prop:=
 ∀ (w:World) (A:Nat→Prop) (xs:Array Value),
  HR (fun b=>qS (fun _=>none) [] b∨w.heap.size≤b) A (fun _=>none) (bu 4) [] w→BW w A (fun _=>none) args xs.toList→
  Calls P f xs w fun e w'=> ∃x A' ρ' F',e= .returned x∧RV w' A' ρ' res x∧HR (fun b=>qS (fun _=>none) [] b∨w.heap.size≤b) A' ρ' F' hout w'∧
   dj (fun b=>qS (fun _=>none) [] b∨w.heap.size≤b) w w'∧bH A A' w
theorem Fn.toF {f:FuncId} {args:List W} {res:V} {hout:List (Nat×bA)} (h:Fn P f args [] res hout):Ar P f args res hout:=by
 intro w A xs hH hx
 refine(h w A (fun _=>none) xs hH hx).mono ?_
 rintro e w' ⟨x,A',ρ',F',h1,h2,h3,h4,_,h5⟩
 exact⟨x,A',ρ',F',h1,h2,h3,h4,h5⟩
def C.ids:C→List Nat
 | .own id .. =>[id]
 | .ptr id .. =>[id]
 | .jx _ dc=>dc.map (·.1)
 | .map id=>[id]
 | .it id=>[id]
 |_=>[]
def W.ids:W→List Nat
 | .one c=>c.ids
 | .agg cs=>cs.flatMap C.ids
def Ly (P:Program) (heap:List (Nat×bA)) (f:FuncId) (args:List W) (v:V):Prop:=
 ∀kD:List (Nat×bA),(∀id,id∈args.flatMap W.ids→find kD id=find heap id)→
  ∀ (M A:Nat→Prop) (ρ:Env) (F:Nat→Prop) (a:Act) (w:World) (n:Nat) (L:List (Nat×V)) (xs:Array Value),Rel M A ρ F ⟨n,L,kD⟩ a w→BW w A ρ args xs.toList→
   Calls P f xs w fun e w'=> ∃x A' ρ',e= .returned x∧Rel M A' ρ' F ⟨n,L,kD⟩ a w'∧RV w' A' ρ' v x∧dj M w w'∧cZ ρ ρ'∧bH A A' w
def eU (P:Program) (heap:List (Nat×bA)) (nid:Nat) (f:FuncId) (args:List W) (v:V) (heap':List (Nat×bA)):Prop:=
 (∃res hout targs,Ar P f targs res hout∧v=res.up nid∧heap'=gj nid hout++heap∧
   ((targs=args∧args.all W.bL=true)∨(jr heap args=some targs∧res.flat=true∧ ∀id blk,find hout id=some blk→blk.flat=true)))∨
 (heap'=heap∧Ly P heap f args v)
theorem eU.sound (h:Rel M A ρ F st a w) {nid:Nat} (hn: ∀k,nid≤k→k < nid+4→F k) {f:FuncId} {args:List W} {v:V} {heap':List (Nat×bA)} {xs:Array Value}
 (hc:eU P st.heap nid f args v heap') (hx:BW w A ρ args xs.toList):
 Calls P f xs w fun e w'=> ∃x A' ρ',e= .returned x∧Rel M A' ρ' (Sub F nid) {st with heap:=heap'} a w'∧RV w' A' ρ' v x∧dj M w w'∧cZ ρ ρ'∧bH A A' w:=by
 rcases hc with⟨res,hout,targs,hfn,rfl,rfl,Xy⟩|⟨rfl,hrd⟩
 case inr=>
  obtain⟨n0,uV,qR⟩:=st
  refine(hrd qR (fun _ _=>rfl) M A ρ F a w n0 uV xs h hx).mono ?_
  rintro e w' ⟨x,A',ρ',rfl,r1,r2,r3,r4,r5⟩
  exact⟨x,A',ρ',rfl,r1.sub fun id h=>h.1,r2,r3,r4,r5⟩
 have hM: ∀ (ρ0:Env),(fun b=>qS ρ0 [] b∨w.heap.size≤b)=fun b=>w.heap.size≤b:=by
  intro ρ0
  funext b
  simp[qS,find]
 have empty: ∀ (A0:Nat→Prop),(∀b,A0 b→b < w.heap.size)→(∀b,A0 b→A b)→HR (fun b=>qS (fun _=>none) [] b∨w.heap.size≤b) A0 (fun _=>none) (bu 4) [] w:=by
  intro A0 hA0 hA1
  exact⟨rfl,rfl,fun t v hv=>by simp[find]at hv,fun id b hb=>by simp[find]at hb,fun id id' b b' c hb=>by simp[find]at hb,fun _ _=>rfl,hA0,fun b hb=> .inr hb,h.ep.sub (fun b hb hm=>hm.elim (fun ho=>by obtain⟨_,_,hf,_⟩:=ho;simp[find]at hf) (fun hl=>by omega)) hA1⟩
 rcases Xy with⟨rfl,hT⟩|⟨hl,hf1,J9⟩
 · have hx':BW w A (fun _=>none) targs xs.toList:=⟨hx.1,fun k u x hu EH=>(hx.2 k u x hu EH).bL (List.all_eq_true.1 hT u (List.mem_of_getElem? hu))⟩
   refine(hfn w A xs (empty A h.bound (fun _ h=>h)) hx').mono ?_
   rintro e w' ⟨x,A1,ρ1,F1,rfl,hv,hr,dU,hg⟩
   rw[hM]at hr dU
   obtain⟨A2,ρ2,r1,r2,r3,r4,r5⟩:=h.import hn dU hr hg.2 hv (.inl hg.1)
   exact⟨x,A2,ρ2,rfl,r1,r2,r3,r4,r5⟩
 · obtain⟨k1,k2⟩:=wV hl
   have hx':BW w (fun _=>False) (fun _=>none) targs xs.toList:=⟨k1.trans hx.1,fun k u x hu EH=>by
    obtain⟨c,hc,hlc⟩:=k2 k u hu
    exact CG h hlc (hx.2 k c x hc EH) _⟩
   refine(hfn w (fun _=>False) xs (empty _ (fun _ h=>h.elim) (fun _ h=>h.elim)) hx').mono ?_
   rintro e w' ⟨x,A1,ρ1,F1,rfl,hv,hr,dU,hg⟩
   rw[hM]at hr dU
   obtain⟨A2,ρ2,r1,r2,r3,r4,r5⟩:=h.import hn dU hr (fun b hb hA=>(hg.2 b hb hA).elim) hv (.inr ⟨hf1,J9⟩)
   exact⟨x,A2,ρ2,rfl,r1,r2,r3,r4,r5⟩
end Go.aT
end
section
namespace Go.aT
open Go
def C.av (f:Nat→Option Nat):C→C
 | .own id sz i len=>match f id with
   |some k=> .own k sz i len
   |none=> .any
 | .ptr id sz i j=>match f id with
   |some k=> .ptr k sz i j
   |none=> .any
 | .jx g dc=>if dc.all (fun p=>(f p.1).isSome)then .jx g (dc.map fun p=>((f p.1).getD 0,p.2))else .any
 | .map id=>match f id with
   |some k=> .map k
   |none=> .any
 | .it _=> .any
 |c=>c
def W.av (f:Nat→Option Nat):W→W
 | .one c=> .one (c.av f)
 | .agg cs=> .agg (cs.map (C.av f))
def V.av (f:Nat→Option Nat):V→V
 | .w u=> .w (u.av f)
 | .eW ws=> .eW (ws.map (W.av f))
 | .undef=> .undef
def bA.av (f:Nat→Option Nat):bA→bA
 | .row sz xs=> .row sz (xs.map fun e=>e.map (C.av f))
 | .mp es clock=> .mp (es.map fun p=>(p.1,p.2.1.av f,p.2.2)) clock
structure Ren where
 keys:List Nat
 ids:List (Nat×Nat)
 ctr:Nat
def Ren.all (S:Ren):List (Nat×Nat):=(0,0)::(1,1)::(2,2)::(3,3)::S.ids
def swp (l:List (Nat×Nat)):List (Nat×Nat):=l.map fun p=>(p.2,p.1)
def Ren.f (S:Ren) (id:Nat):Option Nat:=find S.all id
def Ren.ok (S:Ren):Bool:=S.all.all fun p=>find (swp S.all) p.2==some p.1&&find S.all p.1==some p.2&&decide (p.2 < S.ctr)
def Ren.tm (S:Ren) (tm:List (Nat×V)):List (Nat×V):=S.keys.filterMap fun t=>(find tm t).map fun v=>(t,v.av S.f)
def Ren.hp (S:Ren) (hp:List (Nat×bA)):List (Nat×bA):=S.all.filterMap fun p=>(find hp p.1).map fun b=>(p.2,b.av S.f)
variable {P:Program} {M A:Nat→Prop} {ρ:Env} {F:Nat→Prop} {st:St} {a:Act} {w:World}
theorem RC.av {ρ2:Env} {f:Nat→Option Nat} {c:C} {x:Value} (h:RC w A ρ c x) (hρ: ∀id k l,f id=some k→ρ id=some l→ρ2 k=some l):RC w A ρ2 (c.av f) x:=by
 cases c with
 |t y=>exact h
 |own id sz i len=>
  simp only[C.av]
  split
  · rename_i k hk
    rcases h with⟨b,cap,q,e,h1,h2⟩|⟨h1,h2⟩
    · exact .inl ⟨b,cap,q,e,hρ _ _ _ hk h1,h2⟩
    · exact .inr ⟨hρ _ _ _ hk h1,h2⟩
  · trivial
 |ptr id sz i j=>
  simp only[C.av]
  split
  · rename_i k hk
    obtain⟨b,h1,h2⟩:=h
    exact⟨b,hρ _ _ _ hk h1,h2⟩
  · trivial
 |uc e j=>exact h
 |jx g dc=>
  simp only[C.av]
  split
  · rename_i hall
    obtain⟨vs,h1,h2,h3⟩:=h
    refine⟨vs,h1,by simpa using h2,fun k id sz i j y hk hy=>?_⟩
    simp only[List.getElem?_map,Option.map_eq_some_iff,Prod.mk.injEq]at hk
    obtain⟨⟨id',r⟩,hk',bN,hr⟩:=hk
    simp only at bN hr
    subst hr
    have hs:(f id').isSome=true:=by
     have:=List.all_eq_true.1 hall _ (List.mem_of_getElem? hk')
     simpa using this
    obtain⟨q,hq⟩:=Option.isSome_iff_exists.1 hs
    rw[hq]at bN
    simp only[Option.getD_some]at bN
    subst bN
    obtain⟨b,k1,k2⟩:=h3 k id' sz i j y hk' hy
    exact⟨b,hρ _ _ _ hq k1,k2⟩
  · trivial
 |map id=>
  simp only[C.av]
  split
  · rename_i k hk
    obtain⟨b,h1,h2⟩:=h
    exact⟨b,hρ _ _ _ hk h1,h2⟩
  · trivial
 |it=>trivial
 |lR f g ts=>exact h
 |pk ts=>exact h
 |any=>trivial
theorem C.MK (f:Nat→Option Nat) (c:C):(c.av f).LG=c.LG:=by
 cases c<;>simp only[C.av]<;>(try split)<;>rfl
theorem Av.av {f:Nat→Option Nat} {c:C} {v:Value} (h:Av c v):Av (c.av f) v:=by
 unfold Av
 rw[C.MK]
 exact h
theorem yl.av {ρ2:Env} {f:Nat→Option Nat} {cs:List C} {vs:Array Value} (h:yl w A ρ cs vs) (hρ: ∀id k l,f id=some k→ρ id=some l→ρ2 k=some l):yl w A ρ2 (cs.map (C.av f)) vs:=by
 refine⟨by simpa using h.1,fun k c x hk hx=>?_⟩
 simp only[List.getElem?_map,Option.map_eq_some_iff]at hk
 obtain⟨d,hd,rfl⟩:=hk
 obtain⟨h1,h2⟩:=h.2 k d x hd hx
 exact⟨h1.av hρ,h2⟩
theorem RW.av {ρ2:Env} {f:Nat→Option Nat} {u:W} {x:Value} (h:RW w A ρ u x) (hρ: ∀id k l,f id=some k→ρ id=some l→ρ2 k=some l):RW w A ρ2 (u.av f) x:=by
 cases u with
 |one c=>exact⟨h.1.av hρ,h.2⟩
 |agg cs=>obtain⟨vs,h1,h2⟩:=h;exact⟨vs,h1,h2.av hρ⟩
theorem RV.av {ρ2:Env} {f:Nat→Option Nat} {u:V} {x:Value} (h:RV w A ρ u x) (hρ: ∀id k l,f id=some k→ρ id=some l→ρ2 k=some l):RV w A ρ2 (u.av f) x:=by
 cases u with
 |w y=>exact RW.av h hρ
 |eW ws=>
  obtain⟨vs,h1,h2,h3⟩:=h
  refine⟨vs,h1,by simpa using h2,fun k u x hk hx=>?_⟩
  simp only[List.getElem?_map,Option.map_eq_some_iff]at hk
  obtain⟨d,hd,rfl⟩:=hk
  exact(h3 k d x hd hx).av hρ
 |undef=>trivial
theorem fN {α:Type}: ∀ {l:List (Nat×α)} {k:Nat} {v:α},find l k=some v→(k,v)∈l
 | [],k,v,h=>by simp[find]at h
 |(q,u)::r,k,v,h=>by
  simp only[aA]at h
  split at h
  · rename_i e
    simp only[Option.some.injEq]at h
    subst e
    subst h
    exact List.mem_cons_self
  · exact List.mem_cons_of_mem _ (fN h)
theorem Ren.rz {S:Ren} (h:S.ok=true) {o n:Nat} (hm:(o,n)∈S.all):find (swp S.all) n=some o∧find S.all o=some n∧n < S.ctr:=by
 have:=List.all_eq_true.1 h _ hm
 simp only[Bool.and_eq_true,beq_iff_eq,decide_eq_true_eq]at this
 exact⟨this.1.1,this.1.2,this.2⟩
theorem Rel.av (h:Rel M A ρ F st a w) {S:Ren} (hok:S.ok=true): ∃ρ2,Rel M A ρ2 (bu S.ctr) ⟨st.n,S.tm st.tmps,S.hp st.heap⟩ a w∧iZ ρ ρ2:=by
 let ρ2:Env:=fun k=>(find (swp S.all) k).bind ρ
 have hρ: ∀id k l,S.f id=some k→ρ id=some l→ρ2 k=some l:=by
  intro id k l hf hl
  have:=(Ren.rz hok (fN hf)).1
  simp only[ρ2,this,Option.bind_some,hl]
 have hfind: ∀ {k:Nat} {b:bA},find (S.hp st.heap) k=some b→ ∃o b',(o,k)∈S.all∧find st.heap o=some b'∧b=b'.av S.f∧ρ2 k=ρ o:=by
  intro k b hk
  have hm:=fN hk
  simp only[Ren.hp,List.mem_filterMap,Option.map_eq_some_iff,Prod.mk.injEq]at hm
  obtain⟨⟨o,n⟩,RD,b',hb',rfl,rfl⟩:=hm
  refine⟨o,b',RD,hb',rfl,?_⟩
  simp only[ρ2,(Ren.rz hok RD).1,Option.bind_some]
 refine⟨ρ2,⟨h.size,h.defers,fun t v hv=>?_,fun k b hk=>?_,fun k k' b b' q h1 h2 r1 r2=>?_,fun k hk=>?_,h.bound,h.may,h.ep⟩,fun id l bN hl=>?_⟩
 · have hm:=fN hv
   simp only[Ren.tm,List.mem_filterMap,Option.map_eq_some_iff,Prod.mk.injEq]at hm
   obtain⟨t',_,u,hu,rfl,rfl⟩:=hm
   exact(h.tmps _ u hu).av hρ
 · obtain⟨o,b',RD,hb',rfl,hr⟩:=hfind hk
   have hb:=h.heap o b' hb'
   cases b' with
   |row sz xs=>
    obtain⟨q1,q2⟩:=hb
    refine⟨fun e he=>?_,?_⟩
    · simp only[List.mem_map]at he
      obtain⟨e',he',rfl⟩:=he
      simpa using q1 e' he'
    · rcases q2 with⟨b,c,e,k1,k2,k3,k4,k5,k6⟩|⟨k1,k2⟩
      · refine .inl ⟨b,c,e,by rw[hr,k1],k2,k3,k4,by simpa using k5,fun i el j q hi hj=>?_⟩
        simp only[List.getElem?_map,Option.map_eq_some_iff]at hi
        obtain⟨DZ,C2,rfl⟩:=hi
        simp only[List.getElem?_map,Option.map_eq_some_iff]at hj
        obtain⟨q',F5,rfl⟩:=hj
        obtain⟨y,hy,dB,h1⟩:=k6 i DZ j q' C2 F5
        exact⟨y,hy,dB.av hρ,h1⟩
      · exact .inr ⟨by rw[hr,k1],by rw[k2];rfl⟩
   |mp es clock=>
    obtain⟨b,en,k1,k2,k3,k4,k5,k6⟩:=hb
    refine⟨b,en,by rw[hr,k1],k2,k3,k4,by simpa using k5,fun i k c n hi=>?_⟩
    simp only[List.getElem?_map,Option.map_eq_some_iff]at hi
    obtain⟨⟨k',c',n'⟩,hi',he⟩:=hi
    simp only[Prod.mk.injEq]at he
    obtain⟨rfl,rfl,rfl⟩:=he
    obtain⟨e,h1,h2,h3,h4,h5⟩:=k6 i k' c' n' hi'
    exact⟨e,h1,h2,h3,h4.av hρ,h5.av⟩
 · obtain⟨o,b1,RD,pn,_,e1⟩:=hfind h1
   obtain⟨o',b2,afJ,nj,_,e2⟩:=hfind h2
   rw[e1]at r1
   rw[e2]at r2
   have:=h.inj o o' b1 b2 q pn nj r1 r2
   subst this
   have g1:=(Ren.rz hok RD).2.1
   have g2:=(Ren.rz hok afJ).2.1
   rw[g1]at g2
   simpa using g2
 · simp only[ρ2]
   cases hf:find (swp S.all) k with
   |none=>rfl
   |some o=>
    exfalso
    have hm:=fN hf
    simp only[swp,List.mem_map,Prod.mk.injEq]at hm
    obtain⟨⟨o',n⟩,RD,rfl,rfl⟩:=hm
    have:=(Ren.rz hok RD).2.2
    simp only[bu]at hk
    omega
 · refine hρ id id l ?_ hl
   have:id=0∨id=1∨id=2∨id=3:=by omega
   rcases this with rfl|rfl|rfl|rfl<;>rfl
end Go.aT
end
section
namespace Go.aT
open Go
variable {P:Program} {M A:Nat→Prop} {ρ:Env} {F:Nat→Prop} {st:St} {a:Act} {w:World}
def gD (M A A':Nat→Prop) (w:World):Prop:=(∀b,A b→¬M b→A' b)∧ ∀b,b < w.heap.size→A' b→A b
theorem bH.m {A':Nat→Prop} (h:bH A A' w):gD M A A' w:=⟨fun b hb _=>h.1 b hb,h.2⟩
theorem gD.refl (M A:Nat→Prop) (w:World):gD M A A w:=⟨fun _ h _=>h,fun _ _ h=>h⟩
theorem gD.trans {A1 A2:Nat→Prop} {w1:World} (h:gD M A A1 w) (k:gD M A1 A2 w1) (hs:w.heap.size≤w1.heap.size):gD M A A2 w:=
 ⟨fun b hb hm=>k.1 b (h.1 b hb hm) hm,fun b hb h2=>h.2 b hb (k.2 b (Nat.lt_of_lt_of_le hb hs) h2)⟩
def Post (M A:Nat→Prop) (ρ:Env) (w:World) (Q:St→Nat→Prop) (a':Act) (w':World):Prop:=
 ∃st' bz A' ρ',Q st' bz∧Rel M A' ρ' (bu bz) st' a' w'∧dj M w w'∧iZ ρ ρ'∧gD M A A' w
theorem Post.trans {A1:Nat→Prop} {ρ1:Env} {w1 w':World} {Q:St→Nat→Prop} {a':Act} (h:Post M A1 ρ1 w1 Q a' w') (dU:dj M w w1) (cJ:iZ ρ ρ1) (hg:gD M A A1 w):Post M A ρ w Q a' w':=by
 obtain⟨st',c',A',ρ',h1,h2,h3,h4,h5⟩:=h
 exact⟨st',c',A',ρ',h1,h2,dU.trans h3,cJ.trans h4,hg.trans h5 dU.size⟩
theorem Post.here {Q:St→Nat→Prop} {ctr:Nat} (h:Rel M A ρ (bu ctr) st a w) (hq:Q st ctr):Post M A ρ w Q a w:=
 ⟨st,ctr,A,ρ,hq,h,dj.refl _ _,iZ.refl _,gD.refl _ _ _⟩
def aX (ops:Array Oper) (o:Oper) (tmps:List (Nat×V)):Option Bool:=
 match o.guard with
 |none=>some true
 |some (j,want)=>
  match(ops[j]?).bind (·.dst)with
  |none=>some false
  |some d=>
   match find tmps d with
   |some (.w (.one (.t (.val (.bool b)))))=>some (b==want)
   |some (.eW [])=>some false
   |_=>none
theorem da {ops:Array Oper} {o:Oper} {b:Bool} (h:Rel M A ρ F st a w) (hg:aX ops o st.tmps=some b):Region.wanted o (yielded ops a.tmps)=b:=by
 unfold aX at hg
 unfold Region.wanted
 split at hg
 · rename_i jI
   simp only[Option.some.injEq]at hg
   simp[jI, ←hg]
 · rename_i j want jI
   simp only[jI]
   split at hg
   · rename_i hd
     simp only[Option.some.injEq]at hg
     simp[yielded,hd, ←hg]
   · rename_i d hd
     split at hg
     · rename_i c hc
       simp only[Option.some.injEq]at hg
       have hr:=h.tmps d _ hc
       have hv:a.tmps.getD d undef= .bool c:=V.bk (u:= .w (.one (.t (.val (.bool c))))) rfl hr
       have hlt:d < a.tmps.size:=by
        rcases Nat.lt_or_ge d a.tmps.size with hl|hl
        · exact hl
        · rw[Array.getD_eq_getD_getElem?,Array.getElem?_eq_none hl]at hv
          simp[undef]at hv
       have hx:a.tmps[d]? =some (.bool c):=by
        rw[Array.getD_eq_getD_getElem?]at hv
        simp[hlt]at hv⊢
        exact hv
       simp only[yielded,hd,Option.bind_some,hx]
       rw[←hg]
       cases c<;>cases want<;>rfl
     · rename_i hc
       simp only[Option.some.injEq]at hg
       have hr:=h.tmps d _ hc
       obtain⟨vs,h1,h2,_⟩:=hr
       have hne: ∀q,a.tmps[d]? ≠some (.bool q):=by
        intro q hq
        simp[Array.getD_eq_getD_getElem?,hq]at h1
       have hy:yielded ops a.tmps j=none:=by
        simp only[yielded,hd,Option.bind_some]
       rw[hy, ←hg]
       rfl
     · simp at hg
def gZ (n:Nat) (dst:Option Tmp):Bool:=
 match dst with
 |some d=>decide (d < n)
 |none=>true
theorem j4 {n:Nat} {dst:Option Tmp} (h:gZ n dst=true): ∀d,dst=some d→d < n:=by
 intro d hd
 subst hd
 simpa[gZ]using h
def qf (get:Operand→V):List Operand→Option (List W)
 | []=>some []
 |x::r=>match get x,qf get r with
  | .w u,some l=>some (u::l)
  |_,_=>none
theorem lY (h:Rel M A ρ F st a w): ∀ {xs:List Operand} {us:List W},qf st.get xs=some us→BW w A ρ us (xs.map a.eval)
 | [],us,hu=>by simp only[qf,Option.some.injEq]at hu;subst hu;exact⟨rfl,by simp⟩
 |x::r,us,hu=>by
  simp only[qf]at hu
  split at hu
  · rename_i u l hx hl
    simp only[Option.some.injEq]at hu
    subst hu
    obtain⟨h1,h2⟩:=lY h hl
    refine⟨by simp[h1],fun k v y hv hy=>?_⟩
    cases k with
    |zero=>
     simp only[List.getElem?_cons_zero,Option.some.injEq]at hv
     simp only[List.map_cons,List.getElem?_cons_zero,Option.some.injEq]at hy
     subst hv
     subst hy
     have:=h.get x
     rw[hx]at this
     exact this
    |succ k=>exact h2 k v y (by simpa using hv) (by simpa using hy)
  · simp at hu
def enters (P:Program) (f:FuncId):Bool:=
 match P.funcs[f]? with
 |some fn=>fn.body.isSome&&fn.name != "runtime.NumGoroutine"
 |none=>false
theorem mu {f:FuncId} (h:enters P f=true) (xs:Array Value):(callFunc f xs).run P w= .ok (.enter f xs) w:=by
 unfold enters at h
 split at h
 · rename_i fn hf
   simp only[Bool.and_eq_true,bne_iff_ne,ne_eq]at h
   obtain⟨h1,h2⟩:=h
   simp only[callFunc,Sem.run_bind,run_program,Result.andThen_ok,hf]
   have h3:fn.body.isNone=false:=by cases hb:fn.body<;>simp_all
   have h4:(fn.name== "runtime.NumGoroutine")=false:=by simpa using h2
   simp only[h3,h4,Bool.false_eq_true,if_false,Sem.run_pure]
 · simp at h
def nR (b:Bool) (ts:List T):Option W:=
 match b,ts with
 |true,ts=>some (.agg (ts.map .t))
 |false,[t]=>some (.one (.t t))
 |_,_=>none
def bQ (get:Operand→V) (o:Oper):Option (FuncId×List W):=
 match o.op with
 | .call ⟨.value f,args,_⟩=>
   match get f,qf get args.toList with
   | .w (.one (.t (.val (.func (.func g) first dc)))),some us=>if first.isEmpty&&dc.isEmpty then some (g,us)else none
   | .w (.one (.jx g dc)),some us=>some (g,us++dc.map fun p=> .one (.ptr p.1 p.2.1 p.2.2.1 p.2.2.2))
   | .w (.one (.lR g b ts)),some us=>(nR b ts).map fun u=>(g,u::us)
   |_,_=>none
 |_=>none
theorem mM {o:Oper} {g:FuncId} {us:List W} (h:Rel M A ρ F st a w) (hc:bQ st.get o=some (g,us)) (he:enters P g=true):
 ∃xs:Array Value,(execOp a.eval o).run P w= .ok (.enter g xs) w∧BW w A ρ us xs.toList:=by
 obtain⟨dst,op,ty,pos,after,guard⟩:=o
 unfold bQ at hc
 simp only at hc
 split at hc
 · rename_i f args gF
   split at hc
   · rename_i g' first dc fU hf gO
     split at hc
     · rename_i zT
       simp only[Option.some.injEq,Prod.mk.injEq]at hc
       obtain⟨rfl,rfl⟩:=hc
       simp only[Bool.and_eq_true,Array.isEmpty_iff]at zT
       obtain⟨rfl,rfl⟩:=zT
       have hv:=V.bk (v:= .func (.func g') #[] #[]) (by rw[hf];rfl) (h.get f)
       refine⟨args.map a.eval,?_,by simpa using lY h gO⟩
       simp[execOp,resolve,hv,Deferred.ofValue,invoke,mu he]
     · simp at hc
   · rename_i g' dc fU hf gO
     simp only[Option.some.injEq,Prod.mk.injEq]at hc
     obtain⟨rfl,rfl⟩:=hc
     have hx:=h.get f
     rw[hf]at hx
     obtain⟨vs,hv,hl,hp⟩:=hx.1
     obtain⟨k1,k2⟩:=lY h gO
     refine⟨args.map a.eval++vs,by simp[execOp,resolve,hv,Deferred.ofValue,invoke,mu he],by simp only[List.length_append,List.length_map,Array.toList_append,Array.length_toList,hl,k1,Array.toList_map],fun k u x hu hx=>?_⟩
     simp only[Array.toList_append,Array.toList_map]at hx
     by_cases hk:k < fU.length
     · rw[List.getElem?_append_left hk]at hu
       rw[List.getElem?_append_left (by rw[←k1];exact hk)]at hx
       exact k2 k u x hu hx
     · rw[List.getElem?_append_right (by omega)]at hu
       rw[List.getElem?_append_right (by rw[←k1];omega), ←k1]at hx
       simp only[List.getElem?_map,Option.map_eq_some_iff]at hu
       obtain⟨⟨id,sz,i,j⟩,hq,rfl⟩:=hu
       have hpx:=hp _ id sz i j x hq (by simpa using hx)
       refine⟨hpx,?_⟩
       obtain⟨b,_,rfl⟩:=hpx
       rfl
   · rename_i g' b ts fU hf gO
     simp only[Option.map_eq_some_iff,Prod.mk.injEq]at hc
     obtain⟨u0,mC,rfl,rfl⟩:=hc
     have hx:=h.get f
     rw[hf]at hx
     obtain⟨x0,hv,hrf⟩:=hx.1
     obtain⟨k1,k2⟩:=lY h gO
     have h0:RW w A ρ u0 x0:=by
      cases b with
      |true=>
       simp only[nR,Option.some.injEq]at mC
       subst mC
       obtain⟨vs,rfl,q1,q2⟩:=hrf
       refine⟨vs,rfl,by simpa using q1,fun k c y hk hy=>?_⟩
       simp only[List.getElem?_map,Option.map_eq_some_iff]at hk
       obtain⟨t,ht,rfl⟩:=hk
       exact q2 k t y ht hy
      |false=>
       obtain⟨t,rfl,q1,q2⟩:=hrf
       simp only[nR,Option.some.injEq]at mC
       subst mC
       exact⟨q1,q2⟩
     refine⟨#[x0]++args.map a.eval,by simp[execOp,resolve,hv,Deferred.ofValue,invoke,mu he],by simp only[List.length_cons,Array.toList_append,List.length_append,Array.length_toList,Array.toList_map,List.length_map,k1];simp[Nat.add_comm],fun k u x hu hx=>?_⟩
     simp only[Array.toList_append,Array.toList_map]at hx
     cases k with
     |zero=>
      simp only[List.getElem?_cons_zero,Option.some.injEq]at hu
      subst hu
      have:x0=x:=by simpa using hx
      subst this
      exact h0
     |succ k=>exact k2 k u x (by simpa using hu) (by simpa using hx)
   · simp at hc
 · simp at hc
def gE (P:Program) (f:FuncId) (us:List W) (hp:List (Nat×bA)) (ctr:Nat) (v:V) (aG:List (Nat×bA)) (bz:Nat):Prop:=
 ∀ (M A:Nat→Prop) (ρ:Env) (a:Act) (w:World) (n:Nat) (L:List (Nat×V)) (xs:Array Value),Rel M A ρ (bu ctr) ⟨n,L,hp⟩ a w→BW w A ρ us xs.toList→
  Calls P f xs w fun e w'=> ∃x A' ρ',e= .returned x∧Rel M A' ρ' (bu bz) ⟨n,L,aG⟩ a w'∧RV w' A' ρ' v x∧dj M w w'∧cZ ρ ρ'∧bH A A' w
def gh (P:Program) (f:FuncId) (us:List W) (hp:List (Nat×bA)) (ctr:Nat) (v:V) (aG:List (Nat×bA)) (bz:Nat):Prop:=
 ∀ (M A:Nat→Prop) (ρ:Env) (a:Act) (w:World) (n:Nat) (L:List (Nat×V)) (xs:Array Value),Rel M A ρ (bu ctr) ⟨n,L,hp⟩ a w→BW w A ρ us xs.toList→
  Calls P f xs w fun e w'=> ∃x A' ρ',e= .returned x∧Rel M A' ρ' (bu bz) ⟨n,L,aG⟩ a w'∧RV w' A' ρ' v x∧dj M w w'∧cZ ρ ρ'∧gD M A A' w
theorem gE.m {f:FuncId} {us:List W} {hp aG:List (Nat×bA)} {ctr bz:Nat} {v:V} (h:gE P f us hp ctr v aG bz):gh P f us hp ctr v aG bz:=by
 intro M A ρ a w n L xs hr hx
 refine(h M A ρ a w n L xs hr hx).mono ?_
 rintro e w' ⟨x,A',ρ',h1,r1,r2,r3,r4,r5⟩
 exact⟨x,A',ρ',h1,r1,r2,r3,r4,r5.m⟩
def Ll (P:Program) (o:Oper) (n:Nat) (tm:List (Nat×V)) (hp:List (Nat×bA)) (ctr:Nat) (v:V) (aG:List (Nat×bA)):Prop:=
 ∀ (M A:Nat→Prop) (ρ:Env) (a:Act) (w:World),Rel M A ρ (bu ctr) ⟨n,tm,hp⟩ a w→pE M A ρ (bu (ctr+4)) a w ((execOp a.eval o).run P w) ⟨n,tm,aG⟩ v
def lT (P:Program) (ops:Array Oper) (i:Nat) (K:St→Nat→Prop) (st:St) (ctr:Nat):Prop:=
 match ops[i]? with
 |none=>K st ctr
 |some o=>
  gZ st.n o.dst=true∧
  match aX ops o st.tmps with
  |none=>False
  |some false=>K (st.put o.dst (.eW [])) ctr
  |some true=>
   (∃g us,bQ st.get o=some (g,us)∧enters P g=true∧ ∃v heap' c',gh P g us st.heap ctr v heap' c'∧K (St.put {st with heap:=heap'} o.dst v) c')∨
   ∃v heap',Ll P o st.n st.tmps st.heap ctr v heap'∧K (St.put {st with heap:=heap'} o.dst v) (ctr+4)
def Al (P:Program) (ops:Array Oper) (K:St→Nat→Prop):List Nat→St→Nat→Prop
 | [],st,ctr=>K st ctr
 |i::rest,st,ctr=>lT P ops i (Al P ops K rest) st ctr
theorem sF:RV w A ρ (.eW []) undef:=⟨#[],rfl,rfl,by simp⟩
theorem iw {ctr:Nat}: ∀id,bu (ctr+4) id→Sub (bu ctr) ctr id:=fun id h=>⟨by simp only[bu]at *;omega,by simp only[bu]at *;omega⟩
theorem lT.sound {ops:Array Oper} {i:Nat} {K:St→Nat→Prop} {ctr:Nat} {Q:Exit→Act→World→Prop} {K':Act→World→Prop} (h:lT P ops i K st ctr) (hr:Rel M A ρ (bu ctr) st a w)
 (hk: ∀a' w',Post M A ρ w K a' w'→K' a' w'):wpOp P ops Q i K' a w:=by
 unfold lT at h
 unfold wpOp
 split at h
 · rename_i hi
   simp only[hi]
   exact hk _ _ (Post.here hr h)
 · rename_i o hi
   simp only[hi]
   obtain⟨hd,h⟩:=h
   have Bu:=j4 hd
   split at h
   · exact h.elim
   · rename_i hg
     have:=da hr hg
     simp only[this,Bool.false_eq_true,if_false]
     exact hk _ _ (Post.here (hr.put sF Bu) h)
   · rename_i hg
     have:=da hr hg
     simp only[this,if_true]
     refine .inl ?_
     rcases h with h|h
     · obtain⟨g,us,hc,he,v,heap',c',hct,hK⟩:=h
       obtain⟨xs,hx,hxs⟩:=mM (P:=P) hr hc he
       simp only[Oper.wp,hx,Oper.upon]
       refine(hct M A ρ a w st.n st.tmps xs hr hxs).mono ?_
       rintro e w' ⟨x,A',ρ',rfl,r1,r2,r3,r4,r5⟩
       exact hk _ _ ⟨_,c',A',ρ',hK,r1.put r2 Bu,r3,r4.Oi,r5⟩
     · obtain⟨v,heap',TF,hK⟩:=h
       obtain⟨x,w',A',ρ',hrun,r1,r2,r3,r4,r5⟩:=TF M A ρ a w hr
       rcases hrun with hrun|⟨hrun,rfl⟩
       · simp only[Oper.wp,hrun,Oper.upon]
         exact hk _ _ ⟨_,ctr+4,A',ρ',hK,r1.put r2 Bu,r3,r4.Oi,r5.m⟩
       · simp only[Oper.wp,hrun,Oper.upon]
         exact hk _ _ ⟨_,ctr+4,A',ρ',hK,r1.put r2 Bu,r3,r4.Oi,r5.m⟩
theorem mI {o:Oper} {n:Nat} {tm:List (Nat×V)} {hp aG:List (Nat×bA)} {ctr:Nat} {v:V} (h:aj P (St.get ⟨n,tm,hp⟩) hp ctr o=some (v,aG)):Ll P o n tm hp ctr v aG:=by
 intro M A ρ a w hr
 obtain⟨x,w',A',ρ',hrun,r1,r2,r3,r4,r5⟩:=mH (st:=⟨n,tm,hp⟩) h hr (Nat.le_refl ctr)
 exact⟨x,w',A',ρ',hrun,r1.sub iw,r2,r3,r4,r5⟩
theorem oC {f:FuncId} {us:List W} {hp aG:List (Nat×bA)} {ctr:Nat} {v:V} (h:eU P hp ctr f us v aG):gE P f us hp ctr v aG (ctr+4):=by
 intro M A ρ a w n L xs hr hx
 refine(h.sound (st:=⟨n,L,hp⟩) hr (fun k h1 _=>h1) hx).mono ?_
 rintro e w' ⟨x,A',ρ',rfl,r1,r2,r3,r4,r5⟩
 exact⟨x,A',ρ',rfl,r1.sub iw,r2,r3,r4,r5⟩
theorem qN {f:FuncId} {us:List W} {hp aG:List (Nat×bA)} {ctr:Nat} {v:V} (h:eU P hp ctr f us v aG):gh P f us hp ctr v aG (ctr+4):=(oC h).m
theorem Al.sound {ops:Array Oper} {K:St→Nat→Prop} {Q:Exit→Act→World→Prop}: ∀ {l:List Nat} {M A:Nat→Prop} {ρ:Env} {st:St} {a:Act} {w:World} {ctr:Nat},Al P ops K l st ctr→Rel M A ρ (bu ctr) st a w→
 (∀a' w',Post M A ρ w K a' w'→Q .normal a' w')→wpOps P ops Q l a w
 | [],M,A,ρ,st,a,w,ctr,h,hr,hq=>hq _ _ (Post.here hr h)
 |i::rest,M,A,ρ,st,a,w,ctr,h,hr,hq=>by
  rw[wpOps_cons]
  refine lT.sound h hr (fun a' w' hp=>?_)
  obtain⟨st',c',A',ρ',h1,h2,h3,h4,h5⟩:=hp
  exact Al.sound h1 h2 (fun a2 w2 hp2=>hq _ _ (hp2.trans h3 h4 h5))
def Wp (P:Program) (c:Code) (Q:Exit→St→Nat→Prop) (st:St) (ctr:Nat):Prop:=
 ∀ (M A:Nat→Prop) (ρ:Env) (a:Act) (w:World),Rel M A ρ (bu ctr) st a w→c.wp P (fun e a' w'=>Post M A ρ w (Q e) a' w') a w
theorem Wp.mono {c:Code} {Q Q':Exit→St→Nat→Prop} {ctr:Nat} (h:Wp P c Q st ctr) (hq: ∀e st' c',Q e st' c'→Q' e st' c'):Wp P c Q' st ctr:=
 fun M A ρ a w hr=>wp_mono (h M A ρ a w hr) (fun e a' w' ⟨st',c',A',ρ',h1,h2⟩=>⟨st',c',A',ρ',hq _ _ _ h1,h2⟩)
theorem Wp.skip {Q:Exit→St→Nat→Prop} {ctr:Nat} (h:Q .normal st ctr):Wp P .skip Q st ctr:=fun M A ρ a w hr=>wp_skip (Post.here hr h)
theorem Wp.exit {Q:Exit→St→Nat→Prop} {ctr id:Nat} (h:Q (.exit id) st ctr):Wp P (.exit id) Q st ctr:=fun M A ρ a w hr=>wp_exit (Post.here hr h)
theorem Wp.ret {Q:Exit→St→Nat→Prop} {ctr:Nat} (h:Q .ret st ctr):Wp P .ret Q st ctr:=fun M A ρ a w hr=>wp_ret (Post.here hr h)
def IU (K:St→Nat→Prop) (Q:Exit→St→Nat→Prop):Exit→St→Nat→Prop
 | .normal=>K
 |e=>Q e
theorem Wp.seq {x y:Code} {Q:Exit→St→Nat→Prop} {ctr:Nat} (h:Wp P x (IU (Wp P y Q) Q) st ctr):Wp P (.seq x y) Q st ctr:=by
 intro M A ρ a w hr
 refine wp_seq (wp_mono (h M A ρ a w hr) ?_)
 rintro e a' w' ⟨st',c',A',ρ',h1,h2,h3,h4,h5⟩
 cases e with
 |normal=>exact wp_mono (h1 M A' ρ' a' w' h2) (fun e a2 w2 hp=>hp.trans h3 h4 h5)
 |_=>exact⟨st',c',A',ρ',h1,h2,h3,h4,h5⟩
theorem Wp.region {id:Nat} {ops:Array Oper} {Q:Exit→St→Nat→Prop} {ctr:Nat} (h:Al P ops (Q .normal) (List.range ops.size) st ctr):Wp P (.region id ops false) Q st ctr:=
 fun _ _ _ _ _ hr=>wp_region (Al.sound h hr (fun _ _ hp=>hp))
theorem Wp.cond {c:Operand} {x y:Code} {b:Bool} {Q:Exit→St→Nat→Prop} {ctr:Nat} (hc:(st.get c).ia =some b) (h:Wp P (if b then x else y) Q st ctr):Wp P (.cond c x y) Q st ctr:=
 fun M A ρ a w hr=>wp_cond (V.mN hc (hr.get c)) (h M A ρ a w hr)
def tM (id:Nat) (Q:Exit→St→Nat→Prop):Exit→St→Nat→Prop
 | .exit id'=>if id'=id then Q .normal else Q (.exit id')
 |e=>Q e
theorem Wp.block {id:Nat} {c:Code} {Q:Exit→St→Nat→Prop} {ctr:Nat} (h:Wp P c (tM id Q) st ctr):Wp P (.block id c) Q st ctr:=by
 intro M A ρ a w hr
 refine wp_block (wp_mono (h M A ρ a w hr) ?_)
 rintro e a' w' ⟨st',c',A',ρ',h1,h2⟩
 cases e with
 |exit id'=>
  simp only[Exit.inBlock]
  simp only[tM]at h1
  split
  · rename_i e;rw[if_pos e]at h1;exact⟨st',c',A',ρ',h1,h2⟩
  · rename_i e;rw[if_neg e]at h1;exact⟨st',c',A',ρ',h1,h2⟩
 |_=>exact⟨st',c',A',ρ',h1,h2⟩
theorem Wp.loop {c:Code} {Q:Exit→St→Nat→Prop} (I:Nat→St→Nat→Prop)
 (round: ∀n st ctr,I n st ctr→Wp P c (IU (fun st' c'=> ∃m,m < n∧I m st' c') Q) st ctr):
 ∀ (n:Nat) (st:St) (ctr:Nat),I n st ctr→Wp P (.loop c) Q st ctr:=by
 intro n st ctr h0 M A ρ a w hr b k cs
 have key: ∀n st ctr A ρ a w,I n st ctr→Rel M A ρ (bu ctr) st a w→
  ∃e a' w',Post M A ρ w (Q e) a' w'∧Arrives P (lone (b.at a (.code c:: .inLoop c::k)) cs w) b k cs e a' w':=by
  intro n
  induction n using Nat.strongRecOn with
  |_ n ih=>
   intro st ctr A ρ a w hI hr
   obtain⟨e,a1,w1,hq,ki⟩:=round n st ctr hI M A ρ a w hr b (.inLoop c::k) cs
   obtain⟨st',c',A',ρ',h1,h2,h3,h4,h5⟩:=hq
   cases e with
   |normal=>
    obtain⟨m,hm,XX⟩:=h1
    obtain⟨e2,a2,w2,hp2,C5⟩:=ih m hm st' c' A' ρ' a1 w1 XX h2
    exact⟨e2,a2,w2,hp2.trans h3 h4 h5, .of_steps (Steps.trans ki (.one step_inLoop)) C5⟩
   |exit id=>exact⟨_,a1,w1,⟨st',c',A',ρ',h1,h2,h3,h4,h5⟩, .pass (x:= .inLoop c) rfl (fun _ _=> .inl (by simp)) ki⟩
   |goto l=>exact⟨_,a1,w1,⟨st',c',A',ρ',h1,h2,h3,h4,h5⟩, .pass (x:= .inLoop c) rfl (fun _ _=> .inl (by simp)) ki⟩
   |ret=>exact⟨_,a1,w1,⟨st',c',A',ρ',h1,h2,h3,h4,h5⟩, .pass (x:= .inLoop c) rfl (fun _ _=> .inl (by simp)) ki⟩
   |panic ch=>exact⟨_,a1,w1,⟨st',c',A',ρ',h1,h2,h3,h4,h5⟩, .pass (x:= .inLoop c) rfl (fun _ _=> .inl (by simp)) ki⟩
   |outgrown=>exact⟨_,a1,w1,⟨st',c',A',ρ',h1,h2,h3,h4,h5⟩, .pass (x:= .inLoop c) rfl (fun _ _=> .inl (by simp)) ki⟩
 obtain⟨e,a',w',hq,ki⟩:=key n st ctr A ρ a w h0 hr
 exact⟨e,a',w',hq, .of_steps (.one step_loop) ki⟩
theorem Wp.forget {c:Code} {Q:Exit→St→Nat→Prop} {ctr bz:Nat} {st':St} (h:Wp P c Q st' bz) (hc:ctr≤bz) (hn:st'.n=st.n)
 (ht: ∀t v,find st'.tmps t=some v→find st.tmps t=some v) (hh: ∀id b,find st'.heap id=some b→find st.heap id=some b):Wp P c Q st ctr:=
 fun M A ρ a w hr=>h M A ρ a w ((hr.forget hn ht hh).sub (fun id hi=>Nat.le_trans hc hi))
def cz (P:Program) (heap:List (Nat×bA)) (tmps:List (Nat×V)):ResultVar→Option W
 | .tmp t=>match find tmps t with
   |some (.w u)=>some u
   |_=>none
 | .cell t ty=>match find tmps t with
   |some v=>match eG P ty v heap with
    |some (.w u)=>some u
    |_=>none
   |none=>none
def aN (P:Program) (heap:List (Nat×bA)) (tmps:List (Nat×V)):List ResultVar→Option (List W)
 | []=>some []
 |r::rs=>match cz P heap tmps r,aN P heap tmps rs with
  |some u,some us=>some (u::us)
  |_,_=>none
def aL:List W→V
 | [u]=> .w u
 |us=> .eW us
theorem eY (h:Rel M A ρ F st a w): ∀ {rs:List ResultVar} {us:List W},aN P st.heap st.tmps rs=some us→
 ∃vs:List Value,(rs.mapM fun(r:ResultVar)=>match r with
  | .tmp t=>pure (a.tmps.getD t undef)
  | .cell b t=>do loadVar t (←asAddr (a.tmps.getD b undef))).run P w= .ok vs w∧BW w A ρ us vs
 | [],us,hu=>by
   simp only[aN,Option.some.injEq]at hu
   subst hu
   exact⟨[],by simp,rfl,by simp⟩
 |r::rs,us,hu=>by
  simp only[aN]at hu
  split at hu
  · rename_i u fU hr eO
    simp only[Option.some.injEq]at hu
    subst hu
    obtain⟨vs,h1,h2,h3⟩:=eY h eO
    have one: ∃v,(match r with
     | .tmp t=>(pure (a.tmps.getD t undef):Sem Value)
     | .cell b t=>do loadVar t (←asAddr (a.tmps.getD b undef))).run P w= .ok v w∧RW w A ρ u v:=by
     cases r with
     |tmp t=>
      simp only[cz]at hr
      split at hr
      · rename_i u' hf
        simp only[Option.some.injEq]at hr
        subst hr
        exact⟨_,rfl,h.tmps t _ hf⟩
      · simp at hr
     |cell b t=>
      simp only[cz]at hr
      split at hr
      · rename_i v hf
        split at hr
        · rename_i u' hl
          simp only[Option.some.injEq]at hr
          subst hr
          have hv:=h.tmps b v hf
          obtain⟨y,hy,hry⟩:=ot h hl hv
          refine⟨y,?_,hry⟩
          unfold eG at hl
          split at hl
          · rename_i c
            split at hl
            · rename_i cs j hd
              obtain⟨b',o,hx,_⟩:=uL h hd hv.1
              simp only[Instr.loadAt,Instr.sureAddr,hx,Sem.run_bind,Sem.run_pure,Result.andThen_ok]at hy
              simp only[asAddr,hx,Sem.run_bind,Sem.run_pure,Result.andThen_ok]
              exact hy
            · simp at hl
          · simp at hl
        · simp at hr
      · simp at hr
    obtain⟨v,hv,LJ⟩:=one
    refine⟨v::vs,?_,by simp[h2],fun k u x hu hx=>?_⟩
    · rw[List.mapM_cons,Sem.run_bind,hv,Result.andThen_ok,Sem.run_bind,h1]
      rfl
    · cases k with
      |zero=>
       simp only[List.getElem?_cons_zero,Option.some.injEq]at hu hx
       subst hu
       subst hx
       exact LJ
      |succ k=>exact h3 k u x (by simpa using hu) (by simpa using hx)
  · simp at hu
def df (n:Nat):List W→List (Nat×V)
 | []=>[]
 |u::r=>(n, .w u)::df (n+1) r
theorem fg: ∀ (us:List W) (n t:Nat) (v:V),find (df n us) t=some v→n≤t∧ ∃u,us[t - n]? =some u∧v= .w u
 | [],n,t,v,h=>by simp[df,find]at h
 |u::r,n,t,v,h=>by
  simp only[df,aA]at h
  split at h
  · rename_i e
    subst e
    simp only[Option.some.injEq]at h
    exact⟨Nat.le_refl _,u,by simp,h.symm⟩
  · rename_i e
    obtain⟨h1,u',h2,h3⟩:=fg r (n+1) t v h
    refine⟨by omega,u',?_,h3⟩
    rw[show t - n=(t - (n+1))+1 by omega]
    simpa using h2
theorem zV {ρ:Env} {A A':Nat→Prop} {w:World} (hb: ∀b,A b→b < w.heap.size) (h:gD (fun b=>qS ρ [] b∨w.heap.size≤b) A A' w):bH A A' w:=by
 refine⟨fun b hA=>h.1 b hA ?_,h.2⟩
 rintro(⟨id,blk,hf,_⟩|hs)
 · simp[find]at hf
 · have:=hb b hA
   omega
end Go.aT
end
section
namespace Go.aT
open Go
variable {P:Program}
theorem sO (d:Nat) (t:TypeId) (xs ys:Array Value) {fs:Array Field} (ht:P.underlying t=some (.struct fs)) (hp:P.stoodInHeld t=false):
 aH P (Op.equalIn (d+1) t (.agg xs) (.agg ys))=aH P (Op.eqFields d xs ys fs.toList):=by
 have J1:aH P program=some P:=rfl
 simp only[Op.equalIn,aI,aO ht,Option.bind_some,J1,hp,Bool.false_eq_true,if_false]
 rw[←Array.forIn_toList]
 generalize fs.toList=l
 clear ht
 induction l with
 |nil=>simp[Op.eqFields,aD]
 |cons f l ih=>
  simp only[List.forIn_cons,Op.eqFields,aI]
  split
  · simp only[aI]
    cases h1:aH P (part f.type xs f.offset)with
    |none=>simp
    |some a=>
     simp only[Option.bind_some]
     cases h2:aH P (part f.type ys f.offset)with
     |none=>simp
     |some b=>
      simp only[Option.bind_some]
      cases h3:aH P (Op.equalIn d f.type a b)with
      |none=>simp
      |some r=>
       cases r
       · simp[aD]
       · simp only[Option.bind_some,Bool.not_true,Bool.false_eq_true,if_false,aD]
         rw[←ih]
  · simp only[aD,Option.bind_some]
    rw[←ih]
def um (P:Program) (t:TypeId):Option Nat:=
 match aH P (isAgg t)with
 |some false=>match P.underlying t with
  |some (.int _)=>some 0
  |some .bool=>some 1
  |some .string=>some 2
  |_=>none
 |_=>none
def kV (P:Program):Nat→List Field→Option (List Nat)
 |_,[]=>some []
 |off,f::r=>if f.name≠ "_" ∧f.offset=off then
   match um P f.type,kV P (off+1) r with
   |some k,some ks=>some (k::ks)
   |_,_=>none
  else none
def rQ:List Nat→List C→List C→Option Bool
 | [],[],[]=>some true
 |0::ks, .t (.val (.int k a))::r, .t (.val (.int k' b))::s=>if k=k' then(rQ ks r s).map fun e=>(a==b)&&e else none
 |1::ks, .t (.val (.bool a))::r, .t (.val (.bool b))::s=>(rQ ks r s).map fun e=>(a==b)&&e
 |2::ks, .t (.val (.string a))::r, .t (.val (.string b))::s=>(rQ ks r s).map fun e=>(a==b)&&e
 |_,_,_=>none
theorem zG {t:TypeId} {k off:Nat} {xs:Array Value} {v:Value} (hk:um P t=some k) (hv:xs[off]? =some v):aH P (part t xs off)=some v:=by
 unfold um at hk
 split at hk
 · rename_i ha
   simp only[part,aI,ha,Option.bind_some,Bool.false_eq_true,if_false,hv]
   rfl
 · simp at hk
theorem JL {t:TypeId} {k:Nat} (hk:um P t=some k):(k=0∧ ∃q,P.underlying t=some (.int q))∨(k=1∧P.underlying t=some .bool)∨(k=2∧P.underlying t=some .string):=by
 unfold um at hk
 split at hk
 · split at hk
   · rename_i q hq;simp only[Option.some.injEq]at hk;exact .inl ⟨hk.symm,q,hq⟩
   · rename_i hq;simp only[Option.some.injEq]at hk;exact .inr (.inl ⟨hk.symm,hq⟩)
   · rename_i hq;simp only[Option.some.injEq]at hk;exact .inr (.inr ⟨hk.symm,hq⟩)
   · simp at hk
 · simp at hk
theorem pX {d:Nat} {xs ys:Array Value}: ∀ {fs:List Field} {ks:List Nat} {off:Nat} {cs ds:List C} {b:Bool},kV P off fs=some ks→rQ ks cs ds=some b→
 (∀ (i:Nat) (c:C),cs[i]? =some c→ ∃v,c= .t (.val v)∧xs[off+i]? =some v)→(∀ (i:Nat) (c:C),ds[i]? =some c→ ∃v,c= .t (.val v)∧ys[off+i]? =some v)→
 aH P (Op.eqFields (d+1) xs ys fs)=some b
 | [],ks,off,cs,ds,b,hf,he,hx,hy=>by
   simp only[kV,Option.some.injEq]at hf
   subst hf
   unfold rQ at he
   split at he<;>simp_all[Op.eqFields,aD]
 |f::fs,ks,off,cs,ds,b,hf,he,hx,hy=>by
  simp only[kV]at hf
  split at hf
  · rename_i hc
    split at hf
    · rename_i k ks' hk hks
      simp only[Option.some.injEq]at hf
      subst hf
      have step: ∀ {v u:Value} {r s:List C} {q e:Bool},cs= .t (.val v)::r→ds= .t (.val u)::s→aH P (Op.equalIn (d+1) f.type v u)=some q→rQ ks' r s=some e→b=(q&&e)→
       aH P (Op.eqFields (d+1) xs ys (f::fs))=some b:=by
       intro v u r s q e h1 h2 h3 h4 h5
       subst h1
       subst h2
       obtain⟨v',e1,hv⟩:=hx 0 _ rfl
       obtain⟨u',e2,hu⟩:=hy 0 _ rfl
       cases e1
       cases e2
       have ih:=pX (d:=d) (xs:=xs) (ys:=ys) hks h4 (fun i c hi=>by
        obtain⟨z,z1,z2⟩:=hx (i+1) c (by simpa using hi)
        exact⟨z,z1,by rw[show off+1+i=off+(i+1) by omega];exact z2⟩) (fun i c hi=>by
        obtain⟨z,z1,z2⟩:=hy (i+1) c (by simpa using hi)
        exact⟨z,z1,by rw[show off+1+i=off+(i+1) by omega];exact z2⟩)
       simp only[Op.eqFields,if_pos hc.1,aI,hc.2]
       rw[zG hk (by simpa using hv),zG hk (by simpa using hu)]
       simp only[Option.bind_some,h3]
       cases q
       · simp[aD,h5]
       · simp only[Bool.not_true,Bool.false_eq_true,if_false,ih,h5,Bool.true_and]
      rcases JL hk with⟨rfl,q,hu⟩|⟨rfl,hu⟩|⟨rfl,hu⟩
      · unfold rQ at he
        split at he
        · simp_all
        · rename_i ks2 kk a r kk' b' s e0
          simp only[List.cons.injEq,true_and]at e0
          subst e0
          split at he
          · rename_i hkk
            subst hkk
            simp only[Option.map_eq_some_iff]at he
            obtain⟨e,h4,h5⟩:=he
            exact step rfl rfl (by simp[Op.equalIn,aI,aO hu,aD]) h4 h5.symm
          · simp at he
        · simp_all
        · simp_all
        · simp at he
      · unfold rQ at he
        split at he
        · simp_all
        · simp_all
        · rename_i ks2 a r b' s e0
          simp only[List.cons.injEq,true_and]at e0
          subst e0
          simp only[Option.map_eq_some_iff]at he
          obtain⟨e,h4,h5⟩:=he
          exact step rfl rfl (by simp[Op.equalIn,aI,aO hu,aD]) h4 h5.symm
        · simp_all
        · simp at he
      · unfold rQ at he
        split at he
        · simp_all
        · simp_all
        · simp_all
        · rename_i ks2 a r b' s e0
          simp only[List.cons.injEq,true_and]at e0
          subst e0
          simp only[Option.map_eq_some_iff]at he
          obtain⟨e,h4,h5⟩:=he
          exact step rfl rfl (by simp[Op.equalIn,aI,aO hu,aD]) h4 h5.symm
        · simp at he
    · simp at hf
  · simp at hf
def qK (P:Program) (t:TypeId):Option (List Nat):=
 match P.underlying t with
 |some (.struct fs)=>if P.stoodInHeld t=false∧P.eqGuardType P.depth t=false then kV P 0 fs.toList else none
 |_=>none
theorem wh: ∀ {cs:List C} {vs:List Value},gQ cs=some vs→ ∀ (i:Nat) (c:C),cs[i]? =some c→ ∃v,c= .t (.val v)∧vs[i]? =some v
 | [],vs,h,i,c,hc=>by simp at hc
 |x::cs,vs,h,i,c,hc=>by
  simp only[gQ]at h
  split at h
  · rename_i v us hv gO
    simp only[Option.some.injEq]at h
    subst h
    cases i with
    |zero=>
     simp only[List.getElem?_cons_zero,Option.some.injEq]at hc
     subst hc
     refine⟨v,?_,rfl⟩
     unfold C.val? at hv
     split at hv
     · simp only[Option.some.injEq]at hv;subst hv;rfl
     · simp at hv
    |succ i=>simpa using wh gO i c (by simpa using hc)
  · simp at h
theorem oZ: ∀ {ks:List Nat} {cs ds:List C} {b:Bool},rQ ks cs ds=some b→(∃vs,gQ cs=some vs)∧ ∃us,gQ ds=some us
 |ks,cs,ds,b,h=>by
  unfold rQ at h
  split at h
  · exact⟨⟨[],rfl⟩,⟨[],rfl⟩⟩
  · split at h
    · simp only[Option.map_eq_some_iff]at h
      obtain⟨e,he,_⟩:=h
      obtain⟨⟨vs,h1⟩,⟨us,h2⟩⟩:=oZ he
      exact⟨⟨_,by simp only[gQ,C.val?,h1];rfl⟩,⟨_,by simp only[gQ,C.val?,h2];rfl⟩⟩
    · simp at h
  · simp only[Option.map_eq_some_iff]at h
    obtain⟨e,he,_⟩:=h
    obtain⟨⟨vs,h1⟩,⟨us,h2⟩⟩:=oZ he
    exact⟨⟨_,by simp only[gQ,C.val?,h1];rfl⟩,⟨_,by simp only[gQ,C.val?,h2];rfl⟩⟩
  · simp only[Option.map_eq_some_iff]at h
    obtain⟨e,he,_⟩:=h
    obtain⟨⟨vs,h1⟩,⟨us,h2⟩⟩:=oZ he
    exact⟨⟨_,by simp only[gQ,C.val?,h1];rfl⟩,⟨_,by simp only[gQ,C.val?,h2];rfl⟩⟩
  · simp at h
theorem nO {t:TypeId} {ks:List Nat} {cs ds:List C} {vs us:List Value} {b:Bool} (hi:qK P t=some ks) (he:rQ ks cs ds=some b) (h1:gQ cs=some vs) (h2:gQ ds=some us):
 aH P (Op.equal t (.agg vs.toArray) (.agg us.toArray))=some b∧P.eqGuardType P.depth t=false:=by
 unfold qK at hi
 split at hi
 · rename_i fs hu
   split at hi
   · rename_i hc
     refine⟨?_,hc.2⟩
     show aH P (Op.equalIn (9998+1+1) t _ _)=_
     rw[sO _ t _ _ hu hc.1]
     exact pX hi he (fun i c hc=>by simpa using wh h1 i c hc) (fun i c hc=>by simpa using wh h2 i c hc)
   · simp at hi
 · simp at hi
end Go.aT
end
section
namespace Go.aT
open Go
inductive ej where
 |t (n:Nat)
 |c (v:V)
inductive Ro where
 |WI (x:ej)
 |pick (c x y:ej)
 |alloc (z:List C)
 |box (x:ej)
 |build (z:List C) (ps:List (Nat×Nat×ej))
 |xR (z:List C) (len:Nat) (ps:List (Nat×ej))
 |load (n:Option Nat) (x:ej)
 |store (n:Nat) (x y:ej)
 |Dg (off:Nat) (x:ej)
 |field (off:Nat) (n:Option Nat) (x:ej)
 |CS (size:Nat) (x i:ej)
 |w5 (len size:Nat) (x i:ej)
 |slice (size:Nat) (x:ej) (lo hi:Option ej)
 |make (z:List C) (bytes:Nat) (l c:ej)
 |extract (x:ej) (k:Nat)
 |jx (f:FuncId) (dc:List ej)
 |len (x:ej)
 |append (size bytes:Nat) (s x:ej)
 |bin (op:BinOp) (x y:ej)
 |KU (op:BinOp) (x y:ej)
 |not (x:ej)
 |neg (x:ej)
 |conv (k:IntKind) (x:ej)
 |KS (x:ej)
 |Ss (neg:Bool) (ks:List Nat) (x y:ej)
 |G2 (x y:ej)
 |G3 (x y:ej)
 |G4 (x:ej)
 |I3 (x i:ej)
 |call (f:FuncId) (args:List ej)
 |kJ (x:ej) (args:List ej)
 |raw (op:Op) (ty:TypeId)
structure lU where
 dst:Option Nat
 guard:Option (Nat×Bool)
 op:Ro
def dz:Operand→ej
 | .tmp t=> .t t
 | .const v=> .c (V.ofValue v)
 | .global g=> .c (Kf g)
 | .func f=> .c (V.ofValue (.func (.func f) #[] #[]))
def ej.get (tm:List (Nat×V)):ej→V
 | .t n=>(find tm n).getD .undef
 | .c v=>v
theorem bi (st:St) (x:Operand):(dz x).get st.tmps=st.get x:=by cases x<;>rfl
def D9 (P:Program) (t:TypeId):Option (Option Nat):=
 match ju P t with
 |some true=>match cF P t with
  |some n=>some (some n)
  |none=>none
 |some false=>some none
 |none=>none
def nW (place:Nat→Option (Nat×Nat)):List (Nat×Operand)→Option (List (Nat×Nat×ej))
 | []=>some []
 |(i,x)::r=>match place i,nW place r with
  |some (off,size),some l=>some ((off,size,dz x)::l)
  |_,_=>none
def Et (P:Program) (t:TypeId):Bool:=
 match P.underlying t with
 |some (.int _)|some .string=>true
 |_=>false
def aK (P:Program) (o:Oper):Option Ro:=
 match o.op with
 | .move x| .assign x=>some (.WI (dz x))
 | .pick c x y=>some (.pick (dz c) (dz x) (dz y))
 | .alloc e=>(jL P e).map .alloc
 | .box _ x=>some (.box (dz x))
 | .build t ps=>
   match jL P t,P.underlying t with
   |some z,some (.struct fields)=>
    match placesOf P fields.toList with
    |some l=>(nW (fun i=>l[i]?) ps.toList).map (.build z)
    |none=>none
   |some z,some (.array _ e)=>
    match cF P e with
    |some size=>(nW (fun i=>some (i * size,size)) ps.toList).map (.build z)
    |none=>none
   |_,_=>none
 | .buildSlice t len ps=>
   match P.underlying t with
   |some (.slice e)=>
    match jL P e with
    |some z=>if len * z.length≤16777216∧0 < z.length then some (.xR z len (ps.toList.map fun p=>(p.1,dz p.2)))else none
    |none=>none
   |_=>none
 | .load t x=>(D9 P t).map fun n=> .load n (dz x)
 | .store t x y=>(cF P t).map fun n=> .store n (dz x) (dz y)
 | .fieldAddr s x f=>
   match P.underlying s with
   |some (.struct fields)=>
    match fields[f]? with
    |some fd=>
     match cF P fd.type with
     |some (_+1)=>some (.Dg fd.offset (dz x))
     |_=>none
    |none=>none
   |_=>none
 | .field t x f=>
   match P.underlying t with
   |some (.struct fields)=>
    match fields[f]? with
    |some fd=>(D9 P fd.type).map fun n=> .field fd.offset n (dz x)
    |none=>none
   |_=>none
 | .indexAddr t x i=>
   match P.underlying t with
   |some (.slice elem)=>(cF P elem).map fun size=> .CS size (dz x) (dz i)
   |some (.array len elem)=>(cF P elem).map fun size=> .w5 len size (dz x) (dz i)
   |_=>none
 | .slice t x lo hi none=>
   match P.underlying t with
   |some (.slice elem)=>(cF P elem).map fun size=> .slice size (dz x) (lo.map dz) (hi.map dz)
   |_=>none
 | .makeSlice t l c=>
   match P.underlying t with
   |some (.slice e)=>
    match jL P e,ov P e with
    |some z,some (_,bytes)=>some (.make z bytes (dz l) (dz c))
    |_,_=>none
   |_=>none
 | .extract x k=>some (.extract (dz x) k)
 | .makeFunc (.func f) first captured=>if first.isEmpty&& !captured.isEmpty then some (.jx f (captured.toList.map dz))else none
 | .call c=>
   match c.callee with
   | .builtin .len=>
     match c.args.toList,c.argTypes.toList with
     | [x],[t]=>
       match P.underlying t with
       |some (.slice _)=>some (.len (dz x))
       |some .string=>some (.G4 (dz x))
       |_=>none
     |_,_=>none
   | .builtin .min=>
     match c.args.toList with
     | [x,y]=>some (.G2 (dz x) (dz y))
     |_=>none
   | .builtin .max=>
     match c.args.toList with
     | [x,y]=>some (.G3 (dz x) (dz y))
     |_=>none
   | .builtin .append=>
     match c.args.toList,c.argTypes.toList with
     | [s,x],[t,t']=>
       if t=t' then
        match P.underlying t with
        |some (.slice e)=>match ov P e with
         |some (size,bytes)=>some (.append size bytes (dz s) (dz x))
         |none=>none
        |_=>none
       else none
     |_,_=>none
   | .value (.func f)=>if enters P f then some (.call f (c.args.toList.map dz))else none
   |_=>none
 | .binOp op t x y _=>
   if Et P t then some (.bin op (dz x) (dz y))else
   match P.underlying t with
   |some .bool=>some (.KU op (dz x) (dz y))
   |some (.struct _)=>match op,qK P t with
    | .eql,some ks=>some (.Ss false ks (dz x) (dz y))
    | .neq,some ks=>some (.Ss true ks (dz x) (dz y))
    |_,_=>none
   |_=>none
 | .index t x i=>
   match P.underlying t with
   |some .string=>some (.I3 (dz x) (dz i))
   |_=>none
 | .unOp .not _ x=>some (.not (dz x))
 | .unOp .neg _ x=>some (.neg (dz x))
 | .convert src dst x=>
   match P.underlying src,P.underlying dst with
   |some (.int _),some (.int k)=>some (.conv k (dz x))
   |some (.slice e),some .string=>match P.underlying e with
    |some (.int .u8)=>some (.KS (dz x))
    |_=>none
   |_,_=>none
 |_=>none
def Cl (o:Oper):Ro:=
 match o.op with
 | .call ⟨.value (.tmp t),args,_⟩=> .kJ (.t t) (args.toList.map dz)
 |op=> .raw op o.type
def MJ (op:Op):Bool:=
 match op with
 | .buildSlice t len _=>Wf t len
 | .slice t (.tmp x) none (some (.tmp h)) none=>We t x h
 |_=>false
def mw (P:Program) (o:Oper):Option Ro:=
 match MJ o.op with
 |true=>none
 |false=>aK P o
theorem dO {P:Program} {o:Oper} {r:Ro} (h:mw P o=some r):aK P o=some r:=by
 unfold mw at h
 split at h
 · simp at h
 · exact h
def aZ (P:Program) (o:Oper):Option Ro:=
 match mw P o with
 |some r=>some r
 |none=>some (Cl o)
theorem lB (o:Oper):(∃t args gF,o.op= .call ⟨.value (.tmp t),args,gF⟩∧Cl o= .kJ (.t t) (args.toList.map dz))∨Cl o= .raw o.op o.type:=by
 unfold Cl
 split
 · rename_i t args gF h
   exact .inl ⟨t,args,gF,h,rfl⟩
 · exact .inr rfl
def SN (op:BinOp) (k:IntKind) (x y:Int):Option Value:=
 match op with
 | .add=>some (.int k (k.wrap (x+y)))
 | .sub=>some (.int k (k.wrap (x - y)))
 | .mul=>some (.int k (k.wrap (x * y)))
 | .eql=>some (.bool (x==y))
 | .neq=>some (.bool (x !=y))
 | .lss=>some (.bool (decide (x < y)))
 | .leq=>some (.bool (decide (x≤y)))
 | .gtr=>some (.bool (decide (x > y)))
 | .geq=>some (.bool (decide (x≥y)))
 |_=>none
abbrev iV (k:IntKind) (n:Int):V:= .w (.one (.t (.val (.int k n))))
abbrev bV (b:Bool):V:= .w (.one (.t (.val (.bool b))))
def yO {α:Sort _} (c:C) (k:C→α):α:=
 match c with
 | .t (.val (.int j n))=>k (.t (.val (.int j n)))
 | .t (.val (.bool b))=>k (.t (.val (.bool b)))
 | .t (.val (.string s))=>k (.t (.val (.string s)))
 | .t (.val v)=>k (.t (.val v))
 | .t (.aB sz xs)=>k (.t (.aB sz xs))
 | .own id sz i len=>k (.own id sz i len)
 | .ptr id sz i j=>k (.ptr id sz i j)
 | .uc e j=>k (.uc e j)
 | .jx f dc=>k (.jx f dc)
 | .map id=>k (.map id)
 | .it id=>k (.it id)
 | .lR f g ts=>k (.lR f g ts)
 | .pk ts=>k (.pk ts)
 | .any=>k .any
theorem kF {α:Sort _} (c:C) (k:C→α):yO c k=k c:=by
 unfold yO
 split<;>rfl
def uB {α:Sort _} (v:V) (k:V→α):α:=
 match v with
 | .w (.one c)=>yO c fun c=>k (.w (.one c))
 | .w (.agg cs)=>k (.w (.agg cs))
 | .eW ws=>k (.eW ws)
 | .undef=>k .undef
theorem dZ {α:Sort _} (v:V) (k:V→α):uB v k=k v:=by
 unfold uB
 split
 · rw[kF]
 all_goals rfl
abbrev TS:=List (Nat×V)
abbrev HS:=List (Nat×bA)
def fk (tm:TS) (dst:Option Nat) (v:V):TS:=
 match dst with
 |some d=>(d,v)::tm
 |none=>tm
theorem vO (st:St) (dst:Option Tmp) (v:V) (hp:HS):St.put {st with heap:=hp} dst v=⟨st.n,fk st.tmps dst v,hp⟩:=by cases dst<;>rfl
theorem lC (st:St) (dst:Option Tmp) (v:V):St.put st dst v=⟨st.n,fk st.tmps dst v,st.heap⟩:=by cases dst<;>rfl
end Go.aT
end
section
namespace Go.aT
open Go
def ii {α:Type} {β:Sort _}:List α→(List α→β)→β
 | [],k=>k []
 |x::r,k=>ii r fun r=>k (x::r)
theorem cD {α:Type} {β:Sort _}: ∀ (l:List α) (k:List α→β),ii l k=k l
 | [],_=>rfl
 |x::r,k=>by simp only[ii];rw[cD r]
def br (b:Bool) (x y:Prop):Prop:=match b with|true=>x|false=>y
theorem aF {b:Bool} {x y:Prop} (hx:b=true→x) (hy:b=false→y):br b x y:=by
 cases b
 · exact hy rfl
 · exact hx rfl
theorem jG {b:Bool} {x y:Prop} (h:br b x y):(b=true∧x)∨(b=false∧y):=by
 cases b
 · exact .inr ⟨rfl,h⟩
 · exact .inl ⟨rfl,h⟩
def Ir (v:Option V) (d:Nat) (K:Nat→Prop):Prop:=
 match v with
 |none=>K d
 |some v=>match v.gb with
  |some (_,n)=>0≤n∧K n.toNat
  |none=>False
theorem DD {v:Option V} {d:Nat} {K:Nat→Prop} (h:Ir v d K): ∃l,gl v d=some l∧K l:=by
 unfold Ir at h
 split at h
 · exact⟨d,rfl,h⟩
 · split at h
   · rename_i k n hn
     exact⟨n.toNat,by simp only[gl,hn,if_pos h.1],h.2⟩
   · exact h.elim
theorem Gv {v:Option V} {d l:Nat} {K:Nat→Prop} (h:gl v d=some l) (hk:K l):Ir v d K:=by
 unfold gl at h
 unfold Ir
 split at h
 · simp only[Option.some.injEq]at h;subst h;exact hk
 · split at h
   · rename_i k n hn
     split at h
     · rename_i h0
       simp only[Option.some.injEq]at h
       subst h
       try simp only[hn]
       exact⟨h0,hk⟩
     · simp at h
   · simp at h
def sV (tm:List (Nat×V)):List (Nat×ej)→Option (List (Nat×W))
 | []=>some []
 |(i,x)::r=>match x.get tm,sV tm r with
  | .w u,some l=>some ((i,u)::l)
  |_,_=>none
def xz (tm:List (Nat×V)) (cells:List C):List (Nat×Nat×ej)→Option (List C)
 | []=>some cells
 |(off,size,x)::rest=>
  match x.get tm with
  | .w u=>if(cellsOf u).length=size∧off+size≤cells.length then xz tm (aR cells off (cellsOf u)) rest else none
  |_=>none
def Ac (tm:List (Nat×V)):List ej→Option (List (Nat×Nat×Nat×Nat))
 | []=>some []
 |x::r=>match x.get tm,Ac tm r with
  | .w (.one (.ptr id sz i j)),some l=>some ((id,sz,i,j)::l)
  |_,_=>none
def uf (n:Option Nat) (cs:List C) (j:Nat) (K:V→Prop):Prop:=
 match n with
 |some n=>if j+n≤cs.length then ii ((cs.drop j).take n) fun l=>K (.w (.agg l))else False
 |none=>match cs[j]? with
  |some c=>yO c fun c=>K (.w (.one c))
  |none=>False
def BG (hp:List (Nat×bA)) (x:C):Option (Nat×List (List C)):=
 match x with
 | .t (.val (.slice none 0 0))=>some (0,[])
 |x=>elems hp x
theorem Il (hp:List (Nat×bA)) (x:C):BG hp x=if isNil x then some (0,[])else elems hp x:=by
 unfold BG
 split
 · rfl
 · rename_i hne
   have:isNil x=false:=by
    unfold isNil
    split
    · exact absurd rfl hne
    · rfl
   rw[this];rfl
def qu (xs:List (List C)) (i:Nat) (K:List C→Prop):Prop:=
 match xs[i]? with
 |some el=>K el
 |none=>False
def xJ (c:C) (l h:Nat) (K:C→Prop):Prop:=
 match BL c l h with
 |some d=>K d
 |none=>False
def XR (r:Ro) (tm:List (Nat×V)) (hp:List (Nat×bA)) (nid:Nat) (K:V→List (Nat×bA)→Prop):Prop:=
 match r with
 | .WI x=>uB (x.get tm) fun v=>K v hp
 | .pick c x y=>match(c.get tm).ia with
   |some b=>br b (uB (x.get tm) fun v=>K v hp) (uB (y.get tm) fun v=>K v hp)
   |none=>False
 | .alloc z=>K (.w (.one (.ptr nid z.length 0 0))) ((nid, .row z.length [z])::hp)
 | .box x=>match x.get tm with
   | .w u=>ii (cellsOf u) fun cs=>K (.w (.one (.ptr nid cs.length 0 0))) ((nid, .row cs.length [cs])::hp)
   |_=>False
 | .build z ps=>match xz tm z ps with
   |some cs=>ii cs fun cs=>K (.w (.agg cs)) hp
   |none=>False
 | .xR z len ps=>match sV tm ps with
   |some l=>match pW z.length (List.replicate len z) l with
    |some xs=>ii xs fun xs=>K (.w (.one (.own nid z.length 0 len))) ((nid, .row z.length xs)::hp)
    |none=>False
   |none=>False
 | .load n x=>match x.get tm with
   | .w (.one (.ptr id sz i j))=>match find hp id with
     |some (.row sz' xs)=>if sz'=sz then qu xs i fun cs=>uf n cs j fun v=>K v hp else False
     |_=>False
   | .w (.one c)=>match deref hp c with
     |some (cs,j)=>uf n cs j fun v=>K v hp
     |none=>False
   |_=>False
 | .store n x y=>match x.get tm,y.get tm with
   | .w (.one (.ptr id sz i j)), .w u=>match find hp id with
     |some (.row sz' xs)=>qu xs i fun el=>if sz'=sz∧(cellsOf u).length=n∧j+n≤el.length then
       ii (aR el j (cellsOf u)) fun DZ=>ii (jN hp id (.row sz (xs.set i DZ))) fun h=>K .undef h
       else False
     |_=>False
   |_,_=>False
 | .Dg off x=>match x.get tm with
   | .w (.one (.ptr id sz i j))=>K (.w (.one (.ptr id sz i (j+off)))) hp
   | .w (.one (.uc e j))=>K (.w (.one (.uc e (j+off)))) hp
   |_=>False
 | .field off n x=>match x.get tm with
   | .w (.agg cs)=>uf n cs off fun v=>K v hp
   |_=>False
 | .CS size x i=>match x.get tm,(i.get tm).gb with
   | .w (.one (.own id sz i0 len)),some (_,n)=>if sz=size then(0≤n∧n < len)∧K (.w (.one (.ptr id sz (i0+n.toNat) 0))) hp else False
   | .w (.one (.t (.aB sz xs))),some (_,n)=>if sz=size then 0≤n∧ ∃e,xs[n.toNat]? =some e∧K (.w (.one (.uc e 0))) hp else False
   |_,_=>False
 | .w5 len size x i=>match x.get tm,(i.get tm).gb with
   | .w (.one c),some (_,n)=>match c.shift (n.toNat * size)with
     |some d=>(0≤n∧n < len)∧K (.w (.one d)) hp
     |none=>False
   |_,_=>False
 | .slice size x lo hi=>match x.get tm with
   | .w (.one c)=>match c.wX,c.Qt with
     |some len,some sz=>if sz=size then Ir (lo.map (·.get tm)) 0 fun l=>Ir (hi.map (·.get tm)) len fun h=>(l≤h∧h≤len)∧xJ c l h fun d=>K (.w (.one d)) hp
      else False
     |_,_=>False
   |_=>False
 | .make z bytes l c=>match(l.get tm).gb,(c.get tm).gb with
   |some (_,l),some (_,c)=>(0≤l∧l≤c∧c≤4611686018427387904∧c * bytes≤281474976710656)∧
     K (.w (.one (.own nid z.length 0 l.toNat))) ((nid, .row z.length (List.replicate l.toNat z))::hp)
   |_,_=>False
 | .extract x k=>match x.get tm with
   | .eW ws=>match ws[k]? with
     |some u=>uB (.w u) fun v=>K v hp
     |none=>False
   |_=>False
 | .jx f dc=>match Ac tm dc with
   |some l=>K (.w (.one (.jx f l))) hp
   |none=>False
 | .len x=>match x.get tm with
   | .w (.one c)=>match c.wX with
     |some n=>K (iV .i64 (n:Int)) hp
     |none=>False
   |_=>False
 | .append size bytes s x=>match s.get tm,x.get tm with
   | .w (.one s), .w (.one x)=>match BG hp x with
     |some (_,[])=>match s.wX with
      |some _=>yO s fun s=>K (.w (.one s)) hp
      |none=>False
     |some (sz,y::ys)=>match s with
      | .own id sz' 0 len=>match find hp id with
        |some (.row dy xs)=>
         if sz=size∧sz'=size∧dy=size then(len=xs.length∧(xs.length+(ys.length+1)) * bytes≤aW∧xs.length+(ys.length+1)≤maxLen)∧
          ii (del hp id) fun hp=>K (.w (.one (.own nid size 0 (xs.length+(ys.length+1))))) ((nid, .row size (xs++y::ys))::hp)
         else False
        |_=>False
      | .t (.val (.slice none 0 0))=>if sz=size then((ys.length+1) * bytes≤aW∧ys.length+1≤maxLen)∧
         K (.w (.one (.own nid size 0 (ys.length+1)))) ((nid, .row size (y::ys))::hp)else False
      |_=>False
     |none=>False
   |_,_=>False
 | .bin op x y=>match x.get tm,y.get tm with
   | .w (.one (.t (.val (.int k a)))), .w (.one (.t (.val (.int k' b))))=>
     if k=k' then match op with
      | .quo=>b≠0∧K (iV k (k.wrap (a.tdiv b))) hp
      | .rem=>b≠0∧K (iV k (a.tmod b)) hp
      | .shl=>0≤b∧K (iV k (k.wrap (a * 2 ^ (min b.toNat k.bits)))) hp
      | .shr=>0≤b∧K (iV k (a.fdiv (2 ^ (min b.toNat k.bits)))) hp
      | .and=>K (iV k (k.wrap (BitVec.ofInt k.bits a&&& BitVec.ofInt k.bits b).toNat)) hp
      | .or=>K (iV k (k.wrap (BitVec.ofInt k.bits a|||BitVec.ofInt k.bits b).toNat)) hp
      |op=>match SN op k a b with
       |some (.int j n)=>K (iV j n) hp
       |some (.bool c)=>K (bV c) hp
       |_=>False
     else match op with
      | .shl=>0≤b∧K (iV k (k.wrap (a * 2 ^ (min b.toNat k.bits)))) hp
      | .shr=>0≤b∧K (iV k (a.fdiv (2 ^ (min b.toNat k.bits)))) hp
      |_=>False
   | .w (.one (.t (.val (.string a)))), .w (.one (.t (.val (.string b))))=>match op with
     | .add=>a.size+b.size≤9223372036854775807∧K (.w (.one (.t (.val (.string (a++b)))))) hp
     | .eql=>K (bV (a.toList==b.toList)) hp
     | .neq=>K (bV (!(a.toList==b.toList))) hp
     |_=>False
   |_,_=>False
 | .KU op x y=>match(x.get tm).ia,(y.get tm).ia with
   |some a,some b=>match op with
    | .eql=>K (bV (a==b)) hp
    | .neq=>K (bV (!(a==b))) hp
    |_=>False
   |_,_=>False
 | .Ss neg ks x y=>match x.get tm,y.get tm with
   | .w (.agg cs), .w (.agg ds)=>match rQ ks cs ds with
     |some b=>match neg with
      |true=>K (bV (!b)) hp
      |false=>K (bV b) hp
     |none=>False
   |_,_=>False
 | .G2 x y=>match(x.get tm).gb,(y.get tm).gb with
   |some (k,a),some (_,b)=>K (iV k (if b < a then b else a)) hp
   |_,_=>False
 | .G3 x y=>match(x.get tm).gb,(y.get tm).gb with
   |some (k,a),some (_,b)=>K (iV k (if b > a then b else a)) hp
   |_,_=>False
 | .G4 x=>match x.get tm with
   | .w (.one (.t (.val (.string s))))=>K (iV .i64 (s.size:Int)) hp
   |_=>False
 | .I3 x i=>match x.get tm,(i.get tm).gb with
   | .w (.one (.t (.val (.string s)))),some (_,n)=>0≤n∧ ∃b,s[n.toNat]? =some b∧K (iV .u8 (b.toNat:Int)) hp
   |_,_=>False
 | .not x=>match(x.get tm).ia with
   |some b=>K (bV (!b)) hp
   |none=>False
 | .neg x=>match(x.get tm).gb with
   |some (k,n)=>K (iV k (k.wrap (0 - n))) hp
   |none=>False
 | .conv k x=>match(x.get tm).gb with
   |some (_,n)=>K (iV k (k.wrap n)) hp
   |none=>False
 | .KS x=>match x.get tm with
   | .w (.one (.own id sz i len))=>match elems hp (.own id sz i len)with
     |some (1,y::ys)=>match Ae (y::ys)with
      |some ns=>K (.w (.one (.t (.val (.string (strOfNums ns)))))) hp
      |none=>False
     |_=>False
   |_=>False
 |_=>False
variable {P:Program} {st:St}
theorem zD (st:St): ∀ (ps:List (Nat×Operand)),sV st.tmps (ps.map fun p=>(p.1,dz p.2))=gM st.get ps
 | []=>rfl
 |(i,x)::r=>by simp only[List.map_cons,sV,gM,bi,zD st r]<;>rfl
theorem om {place:Nat→Option (Nat×Nat)}: ∀ {ps:List (Nat×Operand)} {l:List (Nat×Nat×ej)} {z cs:List C},nW place ps=some l→xz st.tmps z l=some cs→
 ∃us,gM st.get ps=some us∧uE place z us=some cs
 | [],l,z,cs,h,hf=>by
   simp only[nW,Option.some.injEq]at h
   subst h
   simp only[xz,Option.some.injEq]at hf
   subst hf
   exact⟨[],rfl,rfl⟩
 |(i,x)::r,l,z,cs,h,hf=>by
  simp only[nW]at h
  split at h
  · rename_i off size l' hp hl
    simp only[Option.some.injEq]at h
    subst h
    simp only[xz,bi]at hf
    split at hf
    · rename_i u hu
      split at hf
      · rename_i hc
        obtain⟨us,h1,h2⟩:=om hl hf
        exact⟨(i,u)::us,by simp only[gM,hu,h1],by simp only[uE,hp,if_pos hc,h2]⟩
      · simp at hf
    · simp at hf
  · simp at h
theorem Dz (st:St): ∀ (xs:List Operand),Ac st.tmps (xs.map dz)=yx st.get xs
 | []=>rfl
 |x::r=>by simp only[List.map_cons,Ac,yx,bi,Dz st r]<;>rfl
theorem kw {t:TypeId} {n:Option Nat} {cs:List C} {j:Nat} {K:V→Prop} (hn:D9 P t=some n) (h:uf n cs j K): ∃u,jR P t cs j=some u∧K (.w u):=by
 unfold D9 at hn
 split at hn
 · rename_i hagg
   split at hn
   · rename_i m hm
     simp only[Option.some.injEq]at hn
     subst hn
     simp only[uf]at h
     split at h
     · rename_i hle
       rw[cD]at h
       exact⟨_,by simp only[jR,hagg,hm,if_pos hle],h⟩
     · exact h.elim
   · simp at hn
 · rename_i hagg
   simp only[Option.some.injEq]at hn
   subst hn
   simp only[uf]at h
   split at h
   · rename_i c hc
     rw[kF]at h
     exact⟨.one c,by simp only[jR,hagg,hc,Option.map_some],h⟩
   · exact h.elim
 · simp at hn
theorem lI {v:V} {k:IntKind} {n:Int} (hb:v.gb =some (k,n)):v=iV k n:=by
 unfold V.gb at hb
 split at hb
 · simp only[Option.some.injEq,Prod.mk.injEq]at hb
   obtain⟨rfl,rfl⟩:=hb
   rfl
 · simp at hb
theorem Ag {v:V} {b:Bool} (hb:v.ia =some b):v=bV b:=by
 unfold V.ia at hb
 split at hb
 · simp only[Option.some.injEq]at hb
   subst hb
   rfl
 · simp at hb
theorem nS {P:Program} {get:Operand→V} {o:Oper} {op:BinOp} {t t':TypeId} {x y:Operand} {a b v:Value} (ho:o.op= .binOp op t x y t') (hx:(get x).val? =some a) (hy:(get y).val? =some b)
 (h:aH P (execOp (fun x=>((get x).val?).getD undef) o)=some (.value v)):aY P get o=some (V.ofValue v):=by
 have hall:(fL o.op&&o.op.operands.toList.all fun x=>(get x).val?.isSome)=true:=by simp[ho,fL,Op.operands,hx,hy]
 simp only[aY,hall,if_true,h]
theorem Iu {o:Oper} {r:Ro} {nid:Nat} {K:V→List (Nat×bA)→Prop} (hr:aK P o=some r) (h:XR r st.tmps st.heap nid K):
 bQ st.get o=none∧ ∃v heap',aj P st.get st.heap nid o=some (v,heap')∧K v heap':=by
 obtain⟨dst,op,ty,pos,after,guard⟩:=o
 cases op with
 |move x=>
  simp only[aK,Option.some.injEq]at hr
  subst hr
  simp only[XR,dZ,bi]at h
  exact⟨rfl,_,_,rfl,h⟩
 |assign x=>
  simp only[aK,Option.some.injEq]at hr
  subst hr
  simp only[XR,dZ,bi]at h
  exact⟨rfl,_,_,rfl,h⟩
 |pick c x y=>
  simp only[aK,Option.some.injEq]at hr
  subst hr
  simp only[XR,dZ,bi]at h
  split at h
  · rename_i b hb
    refine⟨rfl,if b then st.get x else st.get y,st.heap,by simp only[aj,hb],?_⟩
    rcases jG h with⟨rfl,h⟩|⟨rfl,h⟩
    · exact h
    · exact h
  · exact h.elim
 |alloc e=>
  simp only[aK,Option.map_eq_some_iff]at hr
  obtain⟨z,hz,rfl⟩:=hr
  simp only[XR]at h
  exact⟨rfl,_,_,by simp only[aj,lQ,hz,Option.map_some],h⟩
 |box e x=>
  simp only[aK,Option.some.injEq]at hr
  subst hr
  simp only[XR,cD,bi]at h
  split at h
  · rename_i u hu
    exact⟨rfl,_,_,by simp only[aj,rP,hu,Option.map_some],h⟩
  · exact h.elim
 |build t ps=>
  simp only[aK]at hr
  split at hr
  · rename_i z fields hz hu
    split at hr
    · rename_i l hl
      simp only[Option.map_eq_some_iff]at hr
      obtain⟨qs,hq,rfl⟩:=hr
      simp only[XR,cD]at h
      split at h
      · rename_i cs hcs
        obtain⟨us,h1,h2⟩:=om hq hcs
        exact⟨rfl,_,_,by simp only[aj,lP,h1,hz,hu,hl,h2,Option.map_some],h⟩
      · exact h.elim
    · simp at hr
  · rename_i z n e hz hu
    split at hr
    · rename_i size hs
      simp only[Option.map_eq_some_iff]at hr
      obtain⟨qs,hq,rfl⟩:=hr
      simp only[XR,cD]at h
      split at h
      · rename_i cs hcs
        obtain⟨us,h1,h2⟩:=om hq hcs
        exact⟨rfl,_,_,by simp only[aj,lP,h1,hz,hu,hs,h2,Option.map_some],h⟩
      · exact h.elim
    · simp at hr
  · simp at hr
 |buildSlice t len ps=>
  simp only[aK]at hr
  split at hr
  · rename_i e hu
    split at hr
    · rename_i z hz
      split at hr
      · rename_i hc
        simp only[Option.some.injEq]at hr
        subst hr
        simp only[XR,cD,zD]at h
        split at h
        · rename_i l hl
          split at h
          · rename_i xs hxs
            exact⟨rfl,_,_,by simp only[aj,dF,hl,hu,hz,if_pos hc,hxs,Option.map_some],h⟩
          · exact h.elim
        · exact h.elim
      · simp at hr
    · simp at hr
  · simp at hr
 |load t x=>
  simp only[aK,Option.map_eq_some_iff]at hr
  obtain⟨n,hn,rfl⟩:=hr
  simp only[XR,bi]at h
  split at h
  · rename_i id sz i j hc
    split at h
    · rename_i sz' xs hf
      split at h
      · rename_i hs
        unfold qu at h
        split at h
        · rename_i el hel
          have hd:deref st.heap (.ptr id sz i j)=some (el,j):=by simp only[deref,hf,if_pos hs,hel,Option.map_some]
          obtain⟨u,hu,hK⟩:=kw hn h
          exact⟨rfl,_,_,by simp only[aj,eG,hc,hd,hu,Option.map_some],hK⟩
        · exact h.elim
      · exact h.elim
    · exact h.elim
  · rename_i c _ hc
    split at h
    · rename_i cs j hd
      obtain⟨u,hu,hK⟩:=kw hn h
      exact⟨rfl,_,_,by simp only[aj,eG,hc,hd,hu,Option.map_some],hK⟩
    · exact h.elim
  · exact h.elim
 |store t x y=>
  simp only[aK,Option.map_eq_some_iff]at hr
  obtain⟨n,hn,rfl⟩:=hr
  simp only[XR,bi,cD]at h
  split at h
  · rename_i id sz i j u hx hy
    split at h
    · rename_i sz' xs hf
      unfold qu at h
      split at h
      · rename_i el hel
        split at h
        · rename_i hc
          exact⟨rfl,_,_,by simp only[aj,jJ,hx,hy,hf,hn,hel,if_pos hc,Option.map_some],h⟩
        · exact h.elim
      · exact h.elim
    · exact h.elim
  · exact h.elim
 |fieldAddr s x f=>
  simp only[aK]at hr
  split at hr
  · rename_i fields hu
    split at hr
    · rename_i fd LM
      split at hr
      · rename_i m hm
        simp only[Option.some.injEq]at hr
        subst hr
        simp only[XR,bi]at h
        split at h
        · rename_i id sz i j hx
          exact⟨rfl,_,_,by simp only[aj,gy,hx,hu,LM,hm,C.shift,Option.map_some],h⟩
        · rename_i e j hx
          exact⟨rfl,_,_,by simp only[aj,gy,hx,hu,LM,hm,C.shift,Option.map_some],h⟩
        · exact h.elim
      · simp at hr
    · simp at hr
  · simp at hr
 |field t x f=>
  simp only[aK]at hr
  split at hr
  · rename_i fields hu
    split at hr
    · rename_i fd LM
      simp only[Option.map_eq_some_iff]at hr
      obtain⟨n,hn,rfl⟩:=hr
      simp only[XR,bi]at h
      split at h
      · rename_i cs hx
        obtain⟨u,hp,hK⟩:=kw hn h
        exact⟨rfl,_,_,by simp only[aj,oW,hx,hu,LM,hp,Option.map_some],hK⟩
      · exact h.elim
    · simp at hr
  · simp at hr
 |indexAddr t x i=>
  simp only[aK]at hr
  split at hr
  · rename_i elem hu
    simp only[Option.map_eq_some_iff]at hr
    obtain⟨size,hs,rfl⟩:=hr
    simp only[XR,bi]at h
    split at h
    · rename_i id sz i0 len k n hx hi
      split at h
      · rename_i hsz
        obtain⟨hb,hK⟩:=h
        refine⟨rfl,_,_,?_,hK⟩
        simp only[aj,fh,hx,hi,hu,hs,elemAt,if_pos (⟨hsz,hb⟩:sz=size∧0≤n∧n < (len:Int)),Option.map_some]
      · exact h.elim
    · rename_i sz xs k n hx hi
      split at h
      · rename_i hsz
        obtain⟨h0,e,he,hK⟩:=h
        have hlt:n < (xs.length:Int):=by
         have:=(List.getElem?_eq_some_iff.1 he).1
         omega
        refine⟨rfl,_,_,?_,hK⟩
        simp only[aj,fh,hx,hi,hu,hs,elemAt,if_pos (⟨hsz,h0,hlt⟩:sz=size∧0≤n∧n < (xs.length:Int)),he,Option.map_some]
      · exact h.elim
    · exact h.elim
  · rename_i len elem hu
    simp only[Option.map_eq_some_iff]at hr
    obtain⟨size,hs,rfl⟩:=hr
    simp only[XR,bi]at h
    split at h
    · rename_i c k n hx hi
      split at h
      · rename_i d hd
        obtain⟨hb,hK⟩:=h
        refine⟨rfl,_,_,?_,hK⟩
        simp only[aj,fh,hx,hi,hu,hs,if_pos hb,hd,Option.map_some]
      · exact h.elim
    · exact h.elim
  · simp at hr
 |slice t x lo hi mx=>
  cases mx with
  |some m=>simp[aK]at hr
  |none=>
   simp only[aK]at hr
   split at hr
   · rename_i elem hu
     simp only[Option.map_eq_some_iff]at hr
     obtain⟨size,hs,rfl⟩:=hr
     have e1: ∀ (q:Option Operand),(q.map dz).map (·.get st.tmps)=q.map st.get:=by intro q;cases q<;>simp[bi]
     simp only[XR,bi,e1]at h
     split at h
     · rename_i c hx
       split at h
       · rename_i len sz hlen hsz
         split at h
         · rename_i hss
           obtain⟨l,hl,h⟩:=DD h
           obtain⟨hh,hhh,h⟩:=DD h
           obtain⟨⟨c1,c2⟩,h⟩:=h
           unfold xJ at h
           split at h
           · rename_i d hd
             refine⟨rfl,_,_,?_,h⟩
             simp only[aj,oV,hx,hu,hlen,hl,hhh,hs,if_pos (⟨c1,c2,by rw[hsz,hss]⟩:l≤hh∧hh≤len∧c.Qt =some size),hd,Option.map_some]
           · exact h.elim
         · exact h.elim
       · exact h.elim
     · exact h.elim
   · simp at hr
 |makeSlice t l c=>
  simp only[aK]at hr
  split at hr
  · rename_i e hu
    split at hr
    · rename_i z size bytes hz hT
      simp only[Option.some.injEq]at hr
      subst hr
      simp only[XR,bi]at h
      split at h
      · rename_i k1 l' k2 c' hl hc
        obtain⟨zT,hK⟩:=h
        refine⟨rfl,_,_,?_,hK⟩
        simp only[aj,gx,hu,hl,hc,hz,hT,if_pos zT,Option.map_some]
      · exact h.elim
    · simp at hr
  · simp at hr
 |extract x k=>
  simp only[aK,Option.some.injEq]at hr
  subst hr
  simp only[XR,bi,dZ]at h
  split at h
  · rename_i ws hx
    split at h
    · rename_i u hu
      exact⟨rfl,_,_,by simp only[aj,hx,hu,Option.map_some],h⟩
    · exact h.elim
  · exact h.elim
 |makeFunc fn first captured=>
  cases fn with
  |func f=>
   simp only[aK]at hr
   split at hr
   · rename_i hc
     simp only[Option.some.injEq]at hr
     subst hr
     simp only[XR,Dz]at h
     split at h
     · rename_i l hl
       exact⟨rfl,_,_,by simp only[aj,if_pos hc,hl],h⟩
     · exact h.elim
   · simp at hr
  |_=>simp[aK]at hr
 |unOp op t x=>
  cases op with
  |not=>
   simp only[aK,Option.some.injEq]at hr
   subst hr
   simp only[XR,bi]at h
   split at h
   · rename_i b hb
     have hv:(st.get x).val? =some (.bool b):=by
      unfold V.ia at hb
      split at hb
      · rename_i c heq
        simp only[Option.some.injEq]at hb
        subst hb
        rw[heq];rfl
      · simp at hb
     refine⟨rfl,_,_,?_,h⟩
     simp[aj,aY,fL,Op.operands,hv,execOp,Op.unary,aH,bind,Sem.bind,pure,V.ofValue]
   · exact h.elim
  |neg=>
   simp only[aK,Option.some.injEq]at hr
   subst hr
   simp only[XR,bi]at h
   split at h
   · rename_i k n hb
     have hv:(st.get x).val? =some (.int k n):=by
      unfold V.gb at hb
      split at hb
      · rename_i k' n' heq
        simp only[Option.some.injEq,Prod.mk.injEq]at hb
        obtain⟨rfl,rfl⟩:=hb
        rw[heq];rfl
      · simp at hb
     refine⟨rfl,_,_,?_,h⟩
     simp[aj,aY,fL,Op.operands,hv,execOp,Op.unary,Op.intArith,aH,bind,Sem.bind,pure,V.ofValue]
   · exact h.elim
  |_=>simp[aK]at hr
 |convert src dst' x=>
  simp only[aK]at hr
  split at hr
  · rename_i j k hs hu
    simp only[Option.some.injEq]at hr
    subst hr
    simp only[XR,bi]at h
    split at h
    · rename_i k' n hb
      have hv:=lI hb
      refine⟨rfl,_,_,?_,h⟩
      simp[aj,gY,aY,fL,Op.operands,hv,V.val?,W.val?,C.val?,execOp,convert,aI,aO hs,aO hu,Conv.intToInt,aD,V.ofValue]
    · exact h.elim
  · rename_i e hs hu
    split at hr
    · rename_i he
      simp only[Option.some.injEq]at hr
      subst hr
      simp only[XR,bi]at h
      split at h
      · rename_i id sz i len hx
        split at h
        · rename_i y ys hel
          split at h
          · rename_i ns hns
            exact⟨rfl,_,_,by simp only[aj,gY,hx,hs,hu,he,hel,hns,Option.map_some],h⟩
          · exact h.elim
        · exact h.elim
      · exact h.elim
    · simp at hr
  · simp at hr
 |binOp op t x y t'=>
  simp only[aK]at hr
  split at hr
  · simp only[Option.some.injEq]at hr
    subst hr
    simp only[XR,bi]at h
    split at h
    · rename_i k a k' b hx hy
      split at h
      · rename_i hk
        subst hk
        have key: ∀ {v:Value},aH P (binOp op t (.int k a) (.int k b))=some v→cH v=true→aj P st.get st.heap nid ⟨dst, .binOp op t x y t',ty,pos,after,guard⟩=some (.w (.one (.t (.val v))),st.heap):=by
         intro v hv hc
         have hg:aH P (eqGuard op t x y (.int k a) (.int k b))=some ():=by
          unfold eqGuard
          cases op<;>rfl
         have h1:aH P (execOp (fun x=>((st.get x).val?).getD undef) ⟨dst, .binOp op t x y t',ty,pos,after,guard⟩)=some (.value v):=by
          simp only[execOp,hx,hy,V.val?,W.val?,C.val?,Option.getD_some,aI,hg,Option.bind_some,hv,aD]
         have h2:=nS (P:=P) (get:=st.get) (o:=⟨dst, .binOp op t x y t',ty,pos,after,guard⟩) rfl (a:= .int k a) (b:= .int k b) (by rw[hx];rfl) (by rw[hy];rfl) h1
         have h3:V.ofValue v= .w (.one (.t (.val v))):=by cases v<;>first|rfl|(simp[Value.oneCell']at hc)
         simp only[aj,h2,Option.map_some,h3]
        split at h
        · obtain⟨h0,hK⟩:=h
          exact⟨rfl,_,_,key (v:= .int k (k.wrap (a.tdiv b))) (by simp[binOp,Op.intDiv,h0,aD]) rfl,hK⟩
        · obtain⟨h0,hK⟩:=h
          exact⟨rfl,_,_,key (v:= .int k (a.tmod b)) (by simp[binOp,Op.intDiv,h0,aD]) rfl,hK⟩
        · obtain⟨h0,hK⟩:=h
          have hn:¬b < 0:=by omega
          exact⟨rfl,_,_,key (v:= .int k (k.wrap (a * 2 ^ (min b.toNat k.bits)))) (by simp[binOp,Op.shift,hn,aD]) rfl,hK⟩
        · obtain⟨h0,hK⟩:=h
          have hn:¬b < 0:=by omega
          exact⟨rfl,_,_,key (v:= .int k (a.fdiv (2 ^ (min b.toNat k.bits)))) (by simp[binOp,Op.shift,hn,aD]) rfl,hK⟩
        · exact⟨rfl,_,_,key (v:= .int k (k.wrap (BitVec.ofInt k.bits a&&& BitVec.ofInt k.bits b).toNat)) (by simp[binOp,Op.intBits,aD]) rfl,h⟩
        · exact⟨rfl,_,_,key (v:= .int k (k.wrap (BitVec.ofInt k.bits a|||BitVec.ofInt k.bits b).toNat)) (by simp[binOp,Op.intBits,aD]) rfl,h⟩
        · have XT: ∀v,SN op k a b=some v→aH P (binOp op t (.int k a) (.int k b))=some v:=by
           intro v hv
           cases op<;>simp[SN]at hv<;>subst hv<;>simp[binOp,Op.intArith,Op.intCmp,aD]
          split at h
          · rename_i j n hb
            exact⟨rfl,_,_,key (XT _ hb) rfl,h⟩
          · rename_i c hb
            exact⟨rfl,_,_,key (XT _ hb) rfl,h⟩
          · exact h.elim
      · have key: ∀ {v:Value},aH P (binOp op t (.int k a) (.int k' b))=some v→cH v=true→(op= .shl∨op= .shr)→aj P st.get st.heap nid ⟨dst, .binOp op t x y t',ty,pos,after,guard⟩=some (.w (.one (.t (.val v))),st.heap):=by
         intro v hv hc hop
         have hg:aH P (eqGuard op t x y (.int k a) (.int k' b))=some ():=by
          unfold eqGuard
          rcases hop with rfl|rfl<;>rfl
         have h1:aH P (execOp (fun x=>((st.get x).val?).getD undef) ⟨dst, .binOp op t x y t',ty,pos,after,guard⟩)=some (.value v):=by
          simp only[execOp,hx,hy,V.val?,W.val?,C.val?,Option.getD_some,aI,hg,Option.bind_some,hv,aD]
         have h2:=nS (P:=P) (get:=st.get) (o:=⟨dst, .binOp op t x y t',ty,pos,after,guard⟩) rfl (a:= .int k a) (b:= .int k' b) (by rw[hx];rfl) (by rw[hy];rfl) h1
         have h3:V.ofValue v= .w (.one (.t (.val v))):=by cases v<;>first|rfl|(simp[Value.oneCell']at hc)
         simp only[aj,h2,Option.map_some,h3]
        split at h
        · obtain⟨h0,hK⟩:=h
          have hn:¬b < 0:=by omega
          exact⟨rfl,_,_,key (v:= .int k (k.wrap (a * 2 ^ (min b.toNat k.bits)))) (by simp[binOp,Op.shift,hn,aD]) rfl (.inl rfl),hK⟩
        · obtain⟨h0,hK⟩:=h
          have hn:¬b < 0:=by omega
          exact⟨rfl,_,_,key (v:= .int k (a.fdiv (2 ^ (min b.toNat k.bits)))) (by simp[binOp,Op.shift,hn,aD]) rfl (.inr rfl),hK⟩
        · exact h.elim
    · rename_i a b hx hy
      have key: ∀ {v:Value},aH P (binOp op t (.string a) (.string b))=some v→cH v=true→aj P st.get st.heap nid ⟨dst, .binOp op t x y t',ty,pos,after,guard⟩=some (.w (.one (.t (.val v))),st.heap):=by
       intro v hv hc
       have hg:aH P (eqGuard op t x y (.string a) (.string b))=some ():=by
        unfold eqGuard
        cases op<;>rfl
       have h1:aH P (execOp (fun x=>((st.get x).val?).getD undef) ⟨dst, .binOp op t x y t',ty,pos,after,guard⟩)=some (.value v):=by
        simp only[execOp,hx,hy,V.val?,W.val?,C.val?,Option.getD_some,aI,hg,Option.bind_some,hv,aD]
       have h2:=nS (P:=P) (get:=st.get) (o:=⟨dst, .binOp op t x y t',ty,pos,after,guard⟩) rfl (a:= .string a) (b:= .string b) (by rw[hx];rfl) (by rw[hy];rfl) h1
       have h3:V.ofValue v= .w (.one (.t (.val v))):=by cases v<;>first|rfl|(simp[Value.oneCell']at hc)
       simp only[aj,h2,Option.map_some,h3]
      split at h
      · obtain⟨h0,hK⟩:=h
        have hn:¬ ((a.size+b.size:Nat):Int) > IntKind.i64.max:=by simp[IntKind.max,IntKind.bits,IntKind.signed];omega
        exact⟨rfl,_,_,key (v:= .string (a++b)) (by simp only[binOp,Op.stringOp,if_neg hn,aD]) rfl,hK⟩
      · exact⟨rfl,_,_,key (v:= .bool (a.toList==b.toList)) (by simp[binOp,Op.stringOp,aD]) rfl,h⟩
      · exact⟨rfl,_,_,key (v:= .bool (!(a.toList==b.toList))) (by simp[binOp,Op.stringOp,aD]) rfl,h⟩
      · exact h.elim
    · exact h.elim
  · split at hr
    · rename_i hu
      simp only[Option.some.injEq]at hr
      subst hr
      simp only[XR,bi]at h
      split at h
      · rename_i a b hx hy
        have hx:=Ag hx
        have hy:=Ag hy
        have key: ∀ {v:Value},aH P (binOp op t (.bool a) (.bool b))=some v→cH v=true→aj P st.get st.heap nid ⟨dst, .binOp op t x y t',ty,pos,after,guard⟩=some (.w (.one (.t (.val v))),st.heap):=by
         intro v hv hc
         have hg:aH P (eqGuard op t x y (.bool a) (.bool b))=some ():=by
          unfold eqGuard
          cases op<;>rfl
         have h1:aH P (execOp (fun x=>((st.get x).val?).getD undef) ⟨dst, .binOp op t x y t',ty,pos,after,guard⟩)=some (.value v):=by
          simp only[execOp,hx,hy,V.val?,W.val?,C.val?,Option.getD_some,aI,hg,Option.bind_some,hv,aD]
         have h2:=nS (P:=P) (get:=st.get) (o:=⟨dst, .binOp op t x y t',ty,pos,after,guard⟩) rfl (a:= .bool a) (b:= .bool b) (by rw[hx];rfl) (by rw[hy];rfl) h1
         have h3:V.ofValue v= .w (.one (.t (.val v))):=by cases v<;>first|rfl|(simp[Value.oneCell']at hc)
         simp only[aj,h2,Option.map_some,h3]
        have heq:aH P (Op.equal t (.bool a) (.bool b))=some (a==b):=by
         show aH P (Op.equalIn 10000 t (.bool a) (.bool b))=_
         unfold Op.equalIn
         rw[aI,aO hu]
         rfl
        split at h
        · exact⟨rfl,_,_,key (v:= .bool (a==b)) (by simp[binOp,cW,heq]) rfl,h⟩
        · exact⟨rfl,_,_,key (v:= .bool (!(a==b))) (by simp[binOp,cW,heq]) rfl,h⟩
        · exact h.elim
      · exact h.elim
    · rename_i fs hu
      have both: ∀ {neg:Bool} {ks:List Nat},qK P t=some ks→XR (.Ss neg ks (dz x) (dz y)) st.tmps st.heap nid K→(op=if neg then .neq else .eql)→
       bQ st.get ⟨dst, .binOp op t x y t',ty,pos,after,guard⟩=none∧ ∃v heap',aj P st.get st.heap nid ⟨dst, .binOp op t x y t',ty,pos,after,guard⟩=some (v,heap')∧K v heap':=by
       intro neg ks hks h hop
       simp only[XR,bi]at h
       split at h
       · rename_i cs ds hx hy
         split at h
         · rename_i b hb
           obtain⟨⟨vs,hvs⟩,⟨us,gO⟩⟩:=oZ hb
           obtain⟨heq,hgt⟩:=nO hks hb hvs gO
           have hxv:(st.get x).val? =some (.agg vs.toArray):=by rw[hx];simp only[V.val?,W.val?,hvs,Option.map_some]
           have Zl:(st.get y).val? =some (.agg us.toArray):=by rw[hy];simp only[V.val?,W.val?,gO,Option.map_some]
           have key: ∀ {c:Bool},aH P (binOp op t (.agg vs.toArray) (.agg us.toArray))=some (.bool c)→aj P st.get st.heap nid ⟨dst, .binOp op t x y t',ty,pos,after,guard⟩=some (bV c,st.heap):=by
            intro c hv
            have J1:aH P program=some P:=rfl
            have hg:aH P (eqGuard op t x y (.agg vs.toArray) (.agg us.toArray))=some ():=by
             unfold eqGuard
             cases neg<;>simp only[hop]<;>simp[aI,J1,hgt,aD]
            have h1:aH P (execOp (fun x=>((st.get x).val?).getD undef) ⟨dst, .binOp op t x y t',ty,pos,after,guard⟩)=some (.value (.bool c)):=by
             simp only[execOp,hxv,Zl,Option.getD_some,aI,hg,Option.bind_some,hv,aD]
            have h2:=nS (P:=P) (get:=st.get) (o:=⟨dst, .binOp op t x y t',ty,pos,after,guard⟩) rfl hxv Zl h1
            simp only[aj,h2,Option.map_some]
            rfl
           cases neg with
           |true=>
            simp only[if_true]at hop
            subst hop
            exact⟨rfl,_,_,key (c:= !b) (by simp[binOp,cW,heq]),h⟩
           |false=>
            simp only[Bool.false_eq_true,if_false]at hop
            subst hop
            exact⟨rfl,_,_,key (c:=b) (by simp[binOp,cW,heq]),h⟩
         · exact h.elim
       · exact h.elim
      split at hr
      · rename_i ks hks
        simp only[Option.some.injEq]at hr
        subst hr
        exact both hks h rfl
      · rename_i ks hks
        simp only[Option.some.injEq]at hr
        subst hr
        exact both hks h rfl
      · simp at hr
    · simp at hr
 |index t x i=>
  simp only[aK]at hr
  split at hr
  · rename_i hu
    simp only[Option.some.injEq]at hr
    subst hr
    simp only[XR,bi]at h
    split at h
    · rename_i s k n hx hi
      have hi:=lI hi
      obtain⟨h0,b,hb,hK⟩:=h
      refine⟨rfl,_,_,?_,hK⟩
      have hall:(fL (Op.index t x i)&& (Op.index t x i).operands.toList.all fun x=>(st.get x).val?.isSome)=true:=by
       simp[fL,Op.operands,hx,hi,V.val?,W.val?,C.val?]
      have J0:aY P st.get ⟨dst, .index t x i,ty,pos,after,guard⟩=some (iV .u8 (b.toNat:Int)):=by
       simp only[aY,hall,if_true]
       simp[execOp,hx,hi,V.val?,W.val?,C.val?,Instr.index,asIntOf,aI,aD,cW,aO hu,h0,hb,V.ofValue]
      simp only[aj,J0,Option.map_some]
    · exact h.elim
  · simp at hr
 |call c=>
  obtain⟨callee,args,argTypes⟩:=c
  simp only[aK]at hr
  split at hr
  · split at hr
    · rename_i x t hargs ji
      split at hr
      · rename_i e hu
        simp only[Option.some.injEq]at hr
        subst hr
        simp only[XR,bi]at h
        split at h
        · rename_i c hc
          split at h
          · rename_i n hn
            refine⟨rfl,_,_,?_,h⟩
            simp only[aj,hargs,ji,hu,Ra,hc,hn,Option.map_some]
            rfl
          · exact h.elim
        · exact h.elim
      · rename_i hu
        simp only[Option.some.injEq]at hr
        subst hr
        simp only[XR,bi]at h
        split at h
        · rename_i s hs
          refine⟨rfl,_,_,?_,h⟩
          have hall:(fL (Op.call ⟨.builtin .len,args,argTypes⟩)&& (Op.call ⟨.builtin .len,args,argTypes⟩).operands.toList.all fun x=>(st.get x).val?.isSome)=true:=by
           simp[fL,Op.operands,Call.operands,hargs,hs,V.val?,W.val?,C.val?]
          have ea:args= #[x]:=by rw[←Array.toArray_toList (xs:=args),hargs]
          have et:argTypes= #[t]:=by rw[←Array.toArray_toList (xs:=argTypes),ji]
          have J0:aY P st.get ⟨dst, .call ⟨.builtin .len,args,argTypes⟩,ty,pos,after,guard⟩=some (iV .i64 (s.size:Int)):=by
           subst ea
           subst et
           simp only[aY,hall,if_true]
           simp[execOp,resolve,hs,V.val?,W.val?,C.val?,invoke,builtin,Builtin.len_,aI,aD,aO hu,cW,goInt,V.ofValue]
          simp only[aj,hargs,ji,hu,J0,Option.map_some]
        · exact h.elim
      · simp at hr
    · simp at hr
  · split at hr
    · rename_i x y hargs
      simp only[Option.some.injEq]at hr
      subst hr
      simp only[XR,bi]at h
      split at h
      · rename_i k a k' b hx hy
        have hx:=lI hx
        have hy:=lI hy
        refine⟨rfl,_,_,?_,h⟩
        have hall:(fL (Op.call ⟨.builtin .min,args,argTypes⟩)&& (Op.call ⟨.builtin .min,args,argTypes⟩).operands.toList.all fun x=>(st.get x).val?.isSome)=true:=by
         simp[fL,Op.operands,Call.operands,hargs,hx,hy,V.val?,W.val?,C.val?]
        have ea:args= #[x,y]:=by rw[←Array.toArray_toList (xs:=args),hargs]
        have J0:aY P st.get ⟨dst, .call ⟨.builtin .min,args,argTypes⟩,ty,pos,after,guard⟩=some (iV k (if b < a then b else a)):=by
         subst ea
         simp only[aY,hall,if_true]
         simp[execOp,resolve,hx,hy,V.val?,W.val?,C.val?,invoke,builtin,Builtin.min_,Builtin.min2,aI,aD,cW,V.ofValue]
        simp only[aj,J0,Option.map_some]
      · exact h.elim
    · simp at hr
  · split at hr
    · rename_i x y hargs
      simp only[Option.some.injEq]at hr
      subst hr
      simp only[XR,bi]at h
      split at h
      · rename_i k a k' b hx hy
        have hx:=lI hx
        have hy:=lI hy
        refine⟨rfl,_,_,?_,h⟩
        have hall:(fL (Op.call ⟨.builtin .max,args,argTypes⟩)&& (Op.call ⟨.builtin .max,args,argTypes⟩).operands.toList.all fun x=>(st.get x).val?.isSome)=true:=by
         simp[fL,Op.operands,Call.operands,hargs,hx,hy,V.val?,W.val?,C.val?]
        have ea:args= #[x,y]:=by rw[←Array.toArray_toList (xs:=args),hargs]
        have J0:aY P st.get ⟨dst, .call ⟨.builtin .max,args,argTypes⟩,ty,pos,after,guard⟩=some (iV k (if b > a then b else a)):=by
         subst ea
         simp only[aY,hall,if_true]
         simp[execOp,resolve,hx,hy,V.val?,W.val?,C.val?,invoke,builtin,Builtin.max_,Builtin.max2,aI,aD,cW,V.ofValue]
        simp only[aj,J0,Option.map_some]
      · exact h.elim
    · simp at hr
  · split at hr
    · rename_i s x t t' hargs ji
      split at hr
      · rename_i htt
        subst htt
        split at hr
        · rename_i e hu
          split at hr
          · rename_i size bytes hT
            simp only[Option.some.injEq]at hr
            subst hr
            simp only[XR,bi,cD,kF,Il]at h
            split at h
            · rename_i s' x' hs hx
              split at h
              · rename_i sz hel
                split at h
                · rename_i ln XC
                  refine⟨rfl,_,_,?_,h⟩
                  simp only[aj,hargs,ji,if_true,eR,hs,hx,hu,hT,hel,List.isEmpty_nil,XC,Option.isSome_some]
                · exact h.elim
              · rename_i sz y ys hel
                split at h
                · rename_i id sz' len
                  split at h
                  · rename_i dy xs hf
                    split at h
                    · rename_i hc
                      obtain⟨rfl,rfl,rfl⟩:=hc
                      obtain⟨⟨c1,c2,c3⟩,hK⟩:=h
                      refine⟨rfl,_,_,?_,hK⟩
                      simp only[aj,hargs,ji,if_true,eR,hs,hx,hu,hT,Bool.false_eq_true,if_false,hel,List.isEmpty_cons,hf,List.length_cons]
                      rw[if_pos ⟨trivial,trivial,c1,c2,c3⟩]
                    · exact h.elim
                  · exact h.elim
                · split at h
                  · rename_i hc
                    subst hc
                    obtain⟨⟨c2,c3⟩,hK⟩:=h
                    refine⟨rfl,_,_,?_,hK⟩
                    simp only[aj,hargs,ji,if_true,eR,hs,hx,hu,hT,Bool.false_eq_true,if_false,hel,List.isEmpty_cons,List.length_cons]
                    rw[if_pos ⟨rfl,c2,c3⟩]
                  · exact h.elim
                · exact h.elim
              · exact h.elim
            · exact h.elim
          · simp at hr
        · simp at hr
      · simp at hr
    · simp at hr
  · split at hr
    · simp only[Option.some.injEq]at hr
      subst hr
      exact h.elim
    · simp at hr
  · simp at hr
 |_=>simp[aK]at hr
theorem SX {o:Oper} {tm:List (Nat×V)} {hp:List (Nat×bA)} {nid:Nat} {K:V→List (Nat×bA)→Prop} (h:XR (Cl o) tm hp nid K):False:=by
 rcases lB o with⟨t,args,gF,_,e⟩|e
 · rw[e]at h;exact h
 · rw[e]at h;exact h
theorem xY {o:Oper} {r:Ro} {nid:Nat} {K:V→List (Nat×bA)→Prop} (hr:aZ P o=some r) (h:XR r st.tmps st.heap nid K):
 bQ st.get o=none∧ ∃v heap',aj P st.get st.heap nid o=some (v,heap')∧K v heap':=by
 unfold aZ at hr
 split at hr
 · rename_i r' dB
   replace dB:=dO dB
   simp only[Option.some.injEq]at hr
   subst hr
   exact Iu dB h
 · simp only[Option.some.injEq]at hr
   subst hr
   exact(SX h).elim
end Go.aT
end
section
namespace Go.aT
open Go
variable {P:Program}
theorem Qm {get get':Operand→V} {o:Oper} (h: ∀x,x∈o.op.operands→get x=get' x):aY P get o=aY P get' o:=by
 unfold aY
 have h1:(o.op.operands.toList.all fun x=>(get x).val?.isSome)=(o.op.operands.toList.all fun x=>(get' x).val?.isSome):=by
  rw[Bool.eq_iff_iff,List.all_eq_true,List.all_eq_true]
  constructor
  · intro hh x hx;rw[←h x (by simpa using hx)];exact hh x hx
  · intro hh x hx;rw[h x (by simpa using hx)];exact hh x hx
 rw[h1]
 split
 · rename_i hc
   have hs: ∀cs b,o.op≠ .select cs b:=by
    intro cs b e
    simp[e,fL]at hc
   rw[execOp_congr o hs (ρ:=fun x=>((get x).val?).getD undef) (ρ':=fun x=>((get' x).val?).getD undef) (fun x hx=>by rw[h x hx])]
 · rfl
theorem mz {get get':Operand→V}: ∀ {ps:List (Nat×Operand)},(∀p,p∈ps→get p.2=get' p.2)→gM get ps=gM get' ps
 | [],_=>rfl
 |(i,x)::r,h=>by
  have h1:=h (i,x) (by simp)
  simp only at h1
  simp only[gM,h1,mz (ps:=r) (fun p hp=>h p (by simp[hp]))]
theorem wJ {get get':Operand→V}: ∀ {xs:List Operand},(∀x,x∈xs→get x=get' x)→yx get xs=yx get' xs
 | [],_=>rfl
 |x::r,h=>by simp only[yx,h x (by simp),wJ (xs:=r) (fun y hy=>h y (by simp[hy]))]
theorem vZ {get get':Operand→V}: ∀ {xs:List Operand},(∀x,x∈xs→get x=get' x)→qf get xs=qf get' xs
 | [],_=>rfl
 |x::r,h=>by simp only[qf,h x (by simp),vZ (xs:=r) (fun y hy=>h y (by simp[hy]))]
theorem rO {get get':Operand→V} {heap:List (Nat×bA)} {nid:Nat} {o:Oper} (h: ∀x,x∈o.op.operands→get x=get' x):aj P get heap nid o=aj P get' heap nid o:=by
 have hp:=Qm (P:=P) h
 obtain⟨dst,op,ty,pos,after,guard⟩:=o
 simp only at h
 cases op with
 |move x=>simp only[aj,h x (by simp[Op.operands])]
 |assign x=>simp only[aj,h x (by simp[Op.operands])]
 |pick c x y=>simp only[aj,h c (by simp[Op.operands]),h x (by simp[Op.operands]),h y (by simp[Op.operands])]
 |box e x=>simp only[aj,h x (by simp[Op.operands])]
 |build t ps=>simp only[aj,mz (ps:=ps.toList) (fun p hp=>h p.2 (by simp[Op.operands];exact⟨p.1,by simpa using hp⟩))]
 |buildSlice t len ps=>simp only[aj,mz (ps:=ps.toList) (fun p hp=>h p.2 (by simp[Op.operands];exact⟨p.1,by simpa using hp⟩))]
 |load t x=>simp only[aj,h x (by simp[Op.operands])]
 |store t x y=>simp only[aj,h x (by simp[Op.operands]),h y (by simp[Op.operands])]
 |fieldAddr s x f=>simp only[aj,h x (by simp[Op.operands])]
 |field t x f=>simp only[aj,h x (by simp[Op.operands]),hp]
 |indexAddr t x i=>simp only[aj,h x (by simp[Op.operands]),h i (by simp[Op.operands])]
 |slice t x lo hi mx=>
  cases mx with
  |some m=>rfl
  |none=>
   have e1:lo.map get=lo.map get':=by cases lo with|none=>rfl|some z=>simp only[Option.map_some];rw[h z (by simp[Op.operands])]
   have e2:hi.map get=hi.map get':=by cases hi with|none=>rfl|some z=>simp only[Option.map_some];rw[h z (by simp[Op.operands])]
   simp only[aj,h x (by simp[Op.operands]),e1,e2,hp]
 |makeSlice t l c=>simp only[aj,h l (by simp[Op.operands]),h c (by simp[Op.operands])]
 |extract x k=>simp only[aj,h x (by simp[Op.operands])]
 |nilCheck x=>simp only[aj,h x (by simp[Op.operands]),hp]
 |makeFunc fn first captured=>
  cases fn with
  |func f=>simp only[aj,wJ (xs:=captured.toList) (fun x hx=>h x (by simp[Op.operands];exact .inr (by simpa using hx))),hp]
  |_=>rfl
 |call c=>
  obtain⟨callee,args,argTypes⟩:=c
  have ha: ∀x,x∈args→get x=get' x:=fun x hx=>h x (by simp[Op.operands,Call.operands];exact .inr hx)
  cases callee with
  |builtin b=>
   cases b with
   |len=>
    simp only[aj]
    split
    · rename_i x t hx ht
      have hm:x∈args:=by
       have:x∈args.toList:=by rw[hx];simp
       simpa using this
      rw[ha x hm,hp]
    · rfl
   |append=>
    simp only[aj]
    split
    · rename_i s x t t' hx ht
      have hs:s∈args:=by
       have:s∈args.toList:=by rw[hx];simp
       simpa using this
      have hm:x∈args:=by
       have:x∈args.toList:=by rw[hx];simp
       simpa using this
      rw[ha s hs,ha x hm]
    · rfl
   |copy=>
    simp only[aj]
    split
    · rename_i s x t t' hx ht
      have hs:s∈args:=by
       have:s∈args.toList:=by rw[hx];simp
       simpa using this
      have hm:x∈args:=by
       have:x∈args.toList:=by rw[hx];simp
       simpa using this
      rw[ha s hs,ha x hm]
    · rfl
   |_=>simp only[aj,hp]
  |_=>rfl
 |lookup t m k ok=>simp only[aj];rw[h m (by simp[Op.operands]),h k (by simp[Op.operands])]
 |binOp=>simp only[aj,hp]
 |unOp=>simp only[aj,hp]
 |convert src dst' x=>simp only[aj,hp];rw[h x (by simp[Op.operands])]
 |index=>simp only[aj,hp]
 |makeInterface=>simp only[aj,hp]
 |_=>rfl
theorem rV {get get':Operand→V} {o:Oper} (h: ∀x,x∈o.op.operands→get x=get' x):bQ get o=bQ get' o:=by
 unfold bQ
 split
 · rename_i f args gF ho
   rw[ho]at h
   rw[h f (by simp[Op.operands,Call.operands]),vZ (xs:=args.toList) (fun x hx=>h x (by simp[Op.operands,Call.operands];exact .inr (by simpa using hx)))]
 · rfl
def looks:Op→Bool
 | .load .. | .store .. | .call .. | .lookup .. | .convert .. =>true
 |_=>false
theorem BE {get:Operand→V} {heap:List (Nat×bA)} {nid:Nat} {o:Oper} {v:V} {aG:List (Nat×bA)} (hl:looks o.op=false) (h:aj P get heap nid o=some (v,aG)):
 ∃pre:List (Nat×bA),(∀p,p∈pre→p.1=nid)∧aG=pre++heap∧ ∀kD,aj P get kD nid o=some (v,pre++kD):=by
 have pc:((aY P get o).map fun v=>(v,heap))=some (v,aG)→ ∃pre:List (Nat×bA),(∀p,p∈pre→p.1=nid)∧aG=pre++heap∧ ∀kD,((aY P get o).map fun v=>(v,kD))=some (v,pre++kD):=by
  intro h
  simp only[Option.map_eq_some_iff,Prod.mk.injEq]at h
  obtain⟨u,hu,rfl,rfl⟩:=h
  exact⟨[],by simp,rfl,fun kD=>by simp[hu]⟩
 obtain⟨dst,op,ty,pos,after,guard⟩:=o
 simp only at hl
 cases op with
 |move x=>
  simp only[aj,Option.some.injEq,Prod.mk.injEq]at h
  obtain⟨rfl,rfl⟩:=h
  exact⟨[],by simp,rfl,fun _=>rfl⟩
 |assign x=>
  simp only[aj,Option.some.injEq,Prod.mk.injEq]at h
  obtain⟨rfl,rfl⟩:=h
  exact⟨[],by simp,rfl,fun _=>rfl⟩
 |pick c x y=>
  simp only[aj]at h⊢
  split at h
  · rename_i b hb
    simp only[Option.some.injEq,Prod.mk.injEq]at h
    obtain⟨rfl,rfl⟩:=h
    exact⟨[],by simp,rfl,fun _=>by rfl⟩
  · simp at h
 |alloc e=>
  simp only[aj,Option.map_eq_some_iff,Prod.mk.injEq]at h
  obtain⟨⟨u,p⟩,hp,rfl,rfl⟩:=h
  refine⟨[p],?_,rfl,fun _=>by simp only[aj,hp,Option.map_some];rfl⟩
  unfold lQ at hp
  split at hp
  · simp only[Option.some.injEq,Prod.mk.injEq]at hp
    obtain⟨_,rfl⟩:=hp
    simp
  · simp at hp
 |box e x=>
  simp only[aj,Option.map_eq_some_iff,Prod.mk.injEq]at h
  obtain⟨⟨u,p⟩,hp,rfl,rfl⟩:=h
  refine⟨[p],?_,rfl,fun _=>by simp only[aj,hp,Option.map_some];rfl⟩
  unfold rP at hp
  split at hp
  · simp only[Option.some.injEq,Prod.mk.injEq]at hp
    obtain⟨_,rfl⟩:=hp
    simp
  · simp at hp
 |build t ps=>
  simp only[aj]at h⊢
  split at h
  · rename_i l hl'
    simp only[Option.map_eq_some_iff,Prod.mk.injEq]at h
    obtain⟨u,hu,rfl,rfl⟩:=h
    exact⟨[],by simp,rfl,fun _=>by simp[hu]⟩
  · simp at h
 |buildSlice t len ps=>
  simp only[aj]at h⊢
  split at h
  · rename_i l hl'
    simp only[Option.map_eq_some_iff,Prod.mk.injEq]at h
    obtain⟨⟨u,p⟩,hp,rfl,rfl⟩:=h
    refine⟨[p],?_,rfl,fun _=>by simp[hp]⟩
    unfold dF at hp
    split at hp
    · split at hp
      · split at hp
        · simp only[Option.map_eq_some_iff,Prod.mk.injEq]at hp
          obtain⟨_,_,_,rfl⟩:=hp
          simp
        · simp at hp
      · simp at hp
    · simp at hp
  · simp at h
 |fieldAddr s x f=>
  simp only[aj,Option.map_eq_some_iff,Prod.mk.injEq]at h
  obtain⟨u,hu,rfl,rfl⟩:=h
  exact⟨[],by simp,rfl,fun _=>by simp[aj,hu]⟩
 |field t x f=>
  simp only[aj]at h⊢
  split at h
  · rename_i u hu
    simp only[Option.some.injEq,Prod.mk.injEq]at h
    obtain⟨rfl,rfl⟩:=h
    exact⟨[],by simp,rfl,fun _=>rfl⟩
  · exact pc h
 |indexAddr t x i=>
  simp only[aj,Option.map_eq_some_iff,Prod.mk.injEq]at h
  obtain⟨u,hu,rfl,rfl⟩:=h
  exact⟨[],by simp,rfl,fun _=>by simp[aj,hu]⟩
 |slice t x lo hi mx=>
  cases mx with
  |some m=>simp[aj]at h
  |none=>
   simp only[aj]at h⊢
   split at h
   · rename_i u hu
     simp only[Option.some.injEq,Prod.mk.injEq]at h
     obtain⟨rfl,rfl⟩:=h
     exact⟨[],by simp,rfl,fun _=>rfl⟩
   · exact pc h
 |makeSlice t l c=>
  simp only[aj,Option.map_eq_some_iff,Prod.mk.injEq]at h
  obtain⟨⟨u,p⟩,hp,rfl,rfl⟩:=h
  refine⟨[p],?_,rfl,fun _=>by simp only[aj,hp,Option.map_some];rfl⟩
  unfold gx at hp
  split at hp
  · split at hp
    · split at hp
      · simp only[Option.some.injEq,Prod.mk.injEq]at hp
        obtain⟨_,rfl⟩:=hp
        simp
      · simp at hp
    · simp at hp
  · simp at hp
 |extract x k=>
  simp only[aj]at h⊢
  split at h
  · rename_i ws EI
    simp only[Option.map_eq_some_iff,Prod.mk.injEq]at h
    obtain⟨u,hu,rfl,rfl⟩:=h
    exact⟨[],by simp,rfl,fun _=>by simp[hu]⟩
  · simp at h
 |nilCheck x=>
  simp only[aj]at h⊢
  split at h
  · simp only[Option.some.injEq,Prod.mk.injEq]at h
    obtain⟨rfl,rfl⟩:=h
    exact⟨[],by simp,rfl,fun _=>rfl⟩
  · simp only[Option.some.injEq,Prod.mk.injEq]at h
    obtain⟨rfl,rfl⟩:=h
    exact⟨[],by simp,rfl,fun _=>rfl⟩
  · exact pc h
 |makeFunc fn first captured=>
  cases fn with
  |func f=>
   simp only[aj]at h⊢
   split at h
   · rename_i hc
     split at h
     · rename_i l hl'
       simp only[Option.some.injEq,Prod.mk.injEq]at h
       obtain⟨rfl,rfl⟩:=h
       exact⟨[],by simp,rfl,fun _=>by rw[if_pos hc];rfl⟩
     · simp at h
   · rename_i hc
     obtain⟨pre,h1,h2,h3⟩:=pc h
     exact⟨pre,h1,h2,fun kD=>by rw[if_neg hc];exact h3 kD⟩
  |_=>simp[aj]at h
 |binOp=>exact pc (by simpa[aj]using h)
 |unOp=>exact pc (by simpa[aj]using h)
 |convert=>simp[looks]at hl
 |index=>exact pc (by simpa[aj]using h)
 |makeInterface=>exact pc (by simpa[aj]using h)
 |load=>simp[looks]at hl
 |store=>simp[looks]at hl
 |call=>simp[looks]at hl
 |lookup=>simp[looks]at hl
 |_=>simp[aj]at h
end Go.aT
end
section
namespace Go.aT
open Go
variable {P:Program}
def V.ids:V→List Nat
 | .w u=>u.ids
 | .eW ws=>ws.flatMap W.ids
 | .undef=>[]
def jv (get:Operand→V) (o:Oper):List Nat:=if looks o.op then o.op.operands.toList.flatMap fun x=>(get x).ids else []
def writes:Op→Bool
 | .store .. =>true
 | .call ⟨.builtin .append,_,_⟩=>true
 | .call ⟨.builtin .copy,_,_⟩=>true
 |_=>false
def four (nid:Nat):List Nat:=[nid,nid+1,nid+2,nid+3]
theorem JD {nid id:Nat}:id∈four nid↔nid≤id∧id < nid+4:=by simp[four];omega
def vL (get:Operand→V) (nid:Nat) (o:Oper):List Nat:=four nid++if writes o.op then jv get o else []
def Alike (wr:List Nat) (hp aG hp2 ob:List (Nat×bA)):Prop:=
 (∀id,id∈wr→find ob id=find aG id)∧(∀id,¬id∈wr→find aG id=find hp id∧find ob id=find hp2 id)
theorem Alike.pre {wr:List Nat} {hp hp2 pre:List (Nat×bA)} (hw: ∀id,id∈wr→find hp2 id=find hp id) (hpre: ∀p,p∈pre→p.1∈wr):Alike wr hp (pre++hp) hp2 (pre++hp2):=by
 refine⟨fun id bN=>?_,fun id bN=>?_⟩
 · rw[cO,cO,hw id bN]
 · have:find pre id=none:=by
    cases hf:find pre id with
    |none=>rfl
    |some b=>exact absurd (hpre _ (fN hf)) bN
   rw[cO,cO,this]
   simp
theorem Dn {hp hp2:List (Nat×bA)} {c:C} (h: ∀id,id∈c.ids→find hp2 id=find hp id):deref hp2 c=deref hp c:=by
 cases c with
 |ptr id sz i j=>simp only[deref,h id (by simp[C.ids])]
 |_=>rfl
theorem kH {hp hp2:List (Nat×bA)} {c:C} (h: ∀id,id∈c.ids→find hp2 id=find hp id):elems hp2 c=elems hp c:=by
 cases c with
 |own id sz i len=>simp only[elems,h id (by simp[C.ids])]
 |t x=>cases x<;>rfl
 |_=>rfl
theorem uk {hp hp2:List (Nat×bA)} {c:C} (h: ∀id,id∈c.ids→find hp2 id=find hp id):ul hp2 c=ul hp c:=by
 cases c with
 |own id sz i len=>simp only[ul,kH (c:= .own id sz i len) h]
 |_=>rfl
theorem rD {hp hp2:List (Nat×bA)}: ∀ {cs:List C},(∀id,id∈cs.flatMap C.ids→find hp2 id=find hp id)→n9 hp2 cs=n9 hp cs
 | [],_=>rfl
 |c::r,h=>by simp only[n9,uk (c:=c) (fun id bN=>h id (by simp[bN])),rD (cs:=r) (fun id bN=>h id (by simp at bN⊢;exact .inr bN))]
theorem CH {hp hp2:List (Nat×bA)} {u:W} (h: ∀id,id∈u.ids→find hp2 id=find hp id):rC hp2 u=rC hp u:=by
 cases u with
 |one c=>simp only[rC,uk (c:=c) h]
 |agg cs=>simp only[rC,rD (cs:=cs) h]
theorem rB {hp hp2:List (Nat×bA)}: ∀ {us:List W},(∀id,id∈us.flatMap W.ids→find hp2 id=find hp id)→jr hp2 us=jr hp us
 | [],_=>rfl
 |u::r,h=>by simp only[jr,CH (u:=u) (fun id bN=>h id (by simp[bN])),rB (us:=r) (fun id bN=>h id (by simp at bN⊢;exact .inr bN))]
theorem qT {get:Operand→V}: ∀ {xs:List Operand} {us:List W},qf get xs=some us→ ∀id,id∈us.flatMap W.ids→id∈xs.flatMap fun x=>(get x).ids
 | [],us,h,id,bN=>by simp only[qf,Option.some.injEq]at h;subst h;simp at bN
 |x::r,us,h,id,bN=>by
  simp only[qf]at h
  split at h
  · rename_i u l hx hl
    simp only[Option.some.injEq]at h
    subst h
    simp only[List.flatMap_cons,List.mem_append]at bN⊢
    rcases bN with bN|bN
    · exact .inl (by rw[hx];exact bN)
    · exact .inr (qT hl id bN)
  · simp at h
theorem xQ {get:Operand→V} {o:Oper} {g:FuncId} {us:List W} (h:bQ get o=some (g,us)):looks o.op=true∧ ∀id,id∈us.flatMap W.ids→id∈jv get o:=by
 unfold bQ at h
 split at h
 · rename_i f args gF ho
   have hlk:looks o.op=true:=by rw[ho];rfl
   refine⟨hlk,?_⟩
   have ht:jv get o=(get f).ids++args.toList.flatMap fun x=>(get x).ids:=by
    rw[jv,if_pos hlk,ho]
    simp[Op.operands,Call.operands]
   rw[ht]
   split at h
   · rename_i g' first dc fU hf gO
     split at h
     · simp only[Option.some.injEq,Prod.mk.injEq]at h
       obtain⟨_,rfl⟩:=h
       intro id bN
       exact List.mem_append.2 (.inr (qT gO id bN))
     · simp at h
   · rename_i g' dc fU hf gO
     simp only[Option.some.injEq,Prod.mk.injEq]at h
     obtain⟨_,rfl⟩:=h
     intro id bN
     simp only[List.flatMap_append,List.mem_append]at bN
     rcases bN with bN|bN
     · exact List.mem_append.2 (.inr (qT gO id bN))
     · refine List.mem_append.2 (.inl ?_)
       rw[hf]
       simp only[List.mem_flatMap,List.mem_map,W.ids,C.ids]at bN
       obtain⟨w,⟨p,hp,rfl⟩,bN⟩:=bN
       simp only[C.ids,List.mem_singleton]at bN
       simp only[V.ids,W.ids,C.ids,List.mem_map]
       exact⟨p,hp,bN.symm⟩
   · rename_i g' b ts fU hf gO
     simp only[Option.map_eq_some_iff,Prod.mk.injEq]at h
     obtain⟨u0,mC,_,rfl⟩:=h
     intro id bN
     simp only[List.flatMap_cons,List.mem_append]at bN
     rcases bN with bN|bN
     · exfalso
       cases b with
       |true=>
        simp only[nR,Option.some.injEq]at mC
        subst mC
        simp only[W.ids,List.mem_flatMap,List.mem_map]at bN
        obtain⟨c,⟨t,_,rfl⟩,bN⟩:=bN
        simp[C.ids]at bN
       |false=>
        unfold nR at mC
        split at mC
        · simp at *
        · simp only[Option.some.injEq]at mC
          subst mC
          simp[W.ids,C.ids]at bN
        · simp at mC
     · exact List.mem_append.2 (.inr (qT gO id bN))
   · simp at h
 · simp at h
theorem qj {nid:Nat}: ∀ {hout:List (Nat×bA)} {p:Nat×bA},p∈gj nid hout→p.1∈four nid
 | [],p,h=>by simp[gj]at h
 |(id,b)::r,p,h=>by
  simp only[gj]at h
  split at h
  · rename_i bN
    rcases List.mem_cons.1 h with rfl|h
    · rw[JD];simp;omega
    · exact qj h
  · exact qj h
theorem tG {t:TypeId} {s x v:V} {hp aG hp2:List (Nat×bA)} {nid:Nat} {wr:List Nat} (h:eR P t s x hp nid=some (v,aG))
 (hs: ∀id,id∈s.ids→id∈wr) (hx: ∀id,id∈x.ids→id∈wr) (hn:nid∈wr) (hw: ∀id,id∈wr→find hp2 id=find hp id):
 ∃ob,eR P t s x hp2 nid=some (v,ob)∧Alike wr hp aG hp2 ob:=by
 unfold eR at h⊢
 split at h
 · rename_i s x
   have hel:elems hp2 x=elems hp x:=kH (fun id bN=>hw id (hx id bN))
   split at h
   · rename_i e hu
     split at h
     · rename_i size bytes sz ys hT hys
       have aeA:(if isNil x=true then some (0,[])else elems hp2 x)=some (sz,ys):=by rw[hel];exact hys
       simp only[aeA,hT]
       split at h
       · rename_i Br
         rw[if_pos Br]
         split at h
         · rename_i hlen
           simp only[Option.some.injEq,Prod.mk.injEq]at h
           obtain⟨rfl,rfl⟩:=h
           exact⟨hp2,by rw[if_pos hlen],⟨fun id bN=>hw id bN,fun id _=>⟨rfl,rfl⟩⟩⟩
         · simp at h
       · rename_i Br
         rw[if_neg Br]
         split at h
         · rename_i hsz
           rw[if_pos hsz]
           split at h
           · rename_i id sz' len
             have bN:id∈wr:=hs id (by simp[V.ids,W.ids,C.ids])
             have J9:=hw id bN
             split at h
             · rename_i dy xs hf
               split at h
               · rename_i hc
                 simp only[Option.some.injEq,Prod.mk.injEq]at h
                 obtain⟨rfl,rfl⟩:=h
                 refine⟨(nid, .row size (xs++ys))::del hp2 id,by simp only[J9,hf,if_pos hc],⟨fun k hk=>?_,fun k hk=>?_⟩⟩
                 · simp only[aA,dh,hw k hk]
                 · have h1:¬nid=k:=fun e=>hk (e▸hn)
                   have h2:¬k=id:=fun e=>hk (e▸bN)
                   simp only[aA,dh,h1,h2,if_false]
                   exact⟨trivial,trivial⟩
               · simp at h
             · simp at h
           · rename_i hne
             split at h
             · rename_i hc
               simp only[Option.some.injEq,Prod.mk.injEq]at h
               obtain⟨rfl,rfl⟩:=h
               refine⟨_,by rw[if_pos hc],?_⟩
               exact Alike.pre (pre:=[_]) hw (by simp;exact hn)
             · simp at h
         · simp at h
     · simp at h
   · simp at h
 · simp at h
theorem xB {t:TypeId} {d s v:V} {hp aG hp2:List (Nat×bA)} {wr:List Nat} (h:dV P t d s hp=some (v,aG))
 (hd: ∀id,id∈d.ids→id∈wr) (hs: ∀id,id∈s.ids→id∈wr) (hw: ∀id,id∈wr→find hp2 id=find hp id): ∃ob,dV P t d s hp2=some (v,ob)∧Alike wr hp aG hp2 ob:=by
 unfold dV at h
 split at h
 · rename_i id sz i len x
   have e1:elems hp2 x=elems hp x:=kH fun k hk=>hw k (hs k (by simpa[V.ids,W.ids]using hk))
   have e2:find hp2 id=find hp id:=hw id (hd id (by simp[V.ids,W.ids,C.ids]))
   split at h
   · rename_i e hu
     split at h
     · rename_i size dy ys hsz hys
       split at h
       · rename_i h0
         simp only[Option.some.injEq,Prod.mk.injEq]at h
         obtain⟨rfl,rfl⟩:=h
         exact⟨hp2,by simp only[dV,hu,e1,hsz,hys,if_pos h0],⟨hw,fun _ _=>⟨rfl,rfl⟩⟩⟩
       · rename_i h0
         split at h
         · rename_i sz' xs hf
           split at h
           · rename_i hc
             simp only[Option.some.injEq,Prod.mk.injEq]at h
             obtain⟨rfl,rfl⟩:=h
             refine⟨jN hp2 id (.row size (aR xs i (ys.take len))),by simp only[dV,hu,e1,hsz,hys,if_neg h0,e2,hf,if_pos hc],⟨fun k hk=>?_,fun k hk=>?_⟩⟩
             · simp only[bO,e2,hw k hk]
             · have:¬k=id:=fun e=>hk (e▸hd id (by simp[V.ids,W.ids,C.ids]))
               simp only[bO,this,if_false]
               exact⟨trivial,trivial⟩
           · simp at h
         · simp at h
     · simp at h
   · simp at h
 · simp at h
def fR (P:Program) (ops:Array Oper) (o:Oper) (n:Nat) (tm:List (Nat×V)) (hp:List (Nat×bA)) (nid:Nat) (v:V) (aG:List (Nat×bA)):Prop:=
 gZ n o.dst=true∧
 match aX ops o tm with
 |none=>False
 |some false=>v= .eW []∧aG=hp
 |some true=>
  match bQ (St.get ⟨n,tm,hp⟩) o with
  |some (g,us)=>enters P g=true∧eU P hp nid g us v aG
  |none=>aj P (St.get ⟨n,tm,hp⟩) hp nid o=some (v,aG)
def names (ops:Array Oper) (o:Oper):List Nat:=
 (o.op.operands.toList.filterMap fun| .tmp t=>some t|_=>none)++
 match o.guard with
 |some (j,_)=>((ops[j]?).bind (·.dst)).toList
 |none=>[]
theorem get_congr {ops:Array Oper} {o:Oper} {n n2:Nat} {tm tm2:List (Nat×V)} {hp hp2:List (Nat×bA)} (h: ∀t,t∈names ops o→find tm2 t=find tm t) (x:Operand) (hx:x∈o.op.operands):
 St.get ⟨n2,tm2,hp2⟩ x=St.get ⟨n,tm,hp⟩ x:=by
 cases x with
 |tmp t=>
  simp only[St.get]
  rw[h t]
  simp only[names,List.mem_append,List.mem_filterMap]
  exact .inl ⟨.tmp t,by simpa using hx,rfl⟩
 |_=>rfl
theorem guard_congr {ops:Array Oper} {o:Oper} {tm tm2:List (Nat×V)} (h: ∀t,t∈names ops o→find tm2 t=find tm t):aX ops o tm2=aX ops o tm:=by
 unfold aX
 split
 · rfl
 · rename_i j want hg
   split
   · rfl
   · rename_i d hd
     rw[h d (by simp[names,hg,hd])]
theorem fR.loc {ops:Array Oper} {o:Oper} {n nid:Nat} {tm tm2:List (Nat×V)} {hp aG hp2:List (Nat×bA)} {v:V} (h:fR P ops o n tm hp nid v aG)
 (ht: ∀t,t∈names ops o→find tm2 t=find tm t) (hh: ∀id,id∈jv (St.get ⟨n,tm,hp⟩) o→find hp2 id=find hp id) (hf: ∀id,id∈four nid→find hp2 id=find hp id):
 ∃ob,fR P ops o n tm2 hp2 nid v ob∧Alike (vL (St.get ⟨n,tm,hp⟩) nid o) hp aG hp2 ob:=by
 have hg:=guard_congr (ops:=ops) (o:=o) ht
 have EO:=fun x hx=>get_congr (ops:=ops) (o:=o) (n:=n) (n2:=n) (hp:=hp) (hp2:=hp2) ht x hx
 have hw: ∀id,id∈vL (St.get ⟨n,tm,hp⟩) nid o→find hp2 id=find hp id:=by
  intro id bN
  simp only[vL,List.mem_append]at bN
  rcases bN with bN|bN
  · exact hf id bN
  · split at bN
    · exact hh id bN
    · simp at bN
 have h4: ∀id,id∈four nid→id∈vL (St.get ⟨n,tm,hp⟩) nid o:=fun id bN=>by simp only[vL,List.mem_append];exact .inl bN
 obtain⟨hd,h⟩:=h
 unfold fR
 rw[hg]
 split at h
 · exact h.elim
 · obtain⟨rfl,rfl⟩:=h
   exact⟨hp2,⟨hd,rfl,rfl⟩,⟨hw,fun id _=>⟨rfl,rfl⟩⟩⟩
 · rename_i hgt
   clear hgt
   have yN:=rV (get:=St.get ⟨n,tm2,hp2⟩) (get':=St.get ⟨n,tm,hp⟩) (o:=o) EO
   rw[yN]
   split at h
   · rename_i g us iN
     obtain⟨he,⟨res,hout,targs,k1,rfl,rfl,k4⟩|⟨rfl,hrd⟩⟩:=h
     case inr=>
      refine⟨hp2,⟨hd,he, .inr ⟨rfl,fun kD h2=>hrd kD fun id bN=>?_⟩⟩,⟨hw,fun id _=>⟨rfl,rfl⟩⟩⟩
      rw[h2 id bN]
      exact hh id ((xQ iN).2 id bN)
     refine⟨gj nid hout++hp2,⟨hd,he, .inl ⟨res,hout,targs,k1,rfl,rfl,?_⟩⟩,Alike.pre hw (fun p hp=>h4 _ (qj hp))⟩
     rcases k4 with k4|⟨q1,q2⟩
     · exact .inl k4
     · refine .inr ⟨?_,q2⟩
       rw[rB (fun id bN=>hh id ((xQ iN).2 id bN))]
       exact q1
   · rename_i hcn
     clear hcn
     have dU:=rO (P:=P) (get:=St.get ⟨n,tm2,hp2⟩) (get':=St.get ⟨n,tm,hp⟩) (heap:=hp2) (nid:=nid) (o:=o) EO
     simp only[dU]
     cases hlk:looks o.op with
     |false=>
      obtain⟨pre,p1,rfl,p3⟩:=BE hlk h
      exact⟨pre++hp2,⟨hd,p3 hp2⟩,Alike.pre hw (fun p hp=>by rw[p1 p hp];exact h4 _ (by simp[four]))⟩
     |true=>
      have qD:jv (St.get ⟨n,tm,hp⟩) o=o.op.operands.toList.flatMap fun x=>(St.get ⟨n,tm,hp⟩ x).ids:=by rw[jv,if_pos hlk]
      obtain⟨dst,op,ty,pos,after,guard⟩:=o
      simp only at hlk qD h hh hw h4
      cases op<;>simp[looks]at hlk
      case load t x=>
       simp only[aj,Option.map_eq_some_iff,Prod.mk.injEq]at h
       obtain⟨u,hu,rfl,rfl⟩:=h
       refine⟨hp2,⟨hd,?_⟩,⟨hw,fun id _=>⟨rfl,rfl⟩⟩⟩
       unfold eG at hu
       simp only[aj,eG]
       split at hu
       · rename_i c hc
         have:deref hp2 c=deref hp c:=Dn (fun id bN=>hh id (by rw[qD];simp[Op.operands,hc,V.ids,W.ids,bN]))
         rw[this]
         simp only[hu,Option.map_some]
       · simp at hu
      case convert src dst' x=>
       have hsame:gY P src dst' (St.get ⟨n,tm,hp⟩ x) hp2=gY P src dst' (St.get ⟨n,tm,hp⟩ x) hp:=by
        unfold gY
        split
        · rename_i id sz i len hx
          rw[kH (hp:=hp) (fun id' bN=>hh id' (by rw[qD];simp only[Op.operands,List.mem_flatMap];exact⟨x,by simp,by rw[hx];exact bN⟩))]
        · rfl
       simp only[aj]at h
       split at h
       · rename_i u hu
         simp only[Option.some.injEq,Prod.mk.injEq]at h
         obtain⟨rfl,rfl⟩:=h
         exact⟨hp2,⟨hd,by simp only[aj,hsame,hu]⟩,⟨hw,fun id _=>⟨rfl,rfl⟩⟩⟩
       · rename_i hu
         simp only[Option.map_eq_some_iff,Prod.mk.injEq]at h
         obtain⟨u,hpu,rfl,rfl⟩:=h
         exact⟨hp2,⟨hd,by simp only[aj,hsame,hu,hpu,Option.map_some]⟩,⟨hw,fun id _=>⟨rfl,rfl⟩⟩⟩
      case lookup t m k ok=>
       simp only[aj,Option.map_eq_some_iff,Prod.mk.injEq]at h
       obtain⟨u,hu,rfl,rfl⟩:=h
       refine⟨hp2,⟨hd,?_⟩,⟨hw,fun id _=>⟨rfl,rfl⟩⟩⟩
       simp only[aj]
       rw[tE (hp:=hp) (fun id bN=>hh id (by rw[qD];simp[Op.operands,bN,V.ids,W.ids,C.ids])),hu]
       rfl
      case store t x y=>
       simp only[aj,Option.map_eq_some_iff,Prod.mk.injEq]at h
       obtain⟨hq,hu,rfl,rfl⟩:=h
       unfold jJ at hu
       split at hu
       · rename_i id sz i j u hx hy
         have bN:id∈jv (St.get ⟨n,tm,hp⟩) ⟨dst, .store t x y,ty,pos,after,guard⟩:=by rw[qD];simp[Op.operands,hx,V.ids,W.ids,C.ids]
         have afZ:id∈vL (St.get ⟨n,tm,hp⟩) nid ⟨dst, .store t x y,ty,pos,after,guard⟩:=by simp only[vL,writes,if_true,List.mem_append];exact .inr bN
         have J9:=hh id bN
         split at hu
         · rename_i sz' xs m LM hm
           split at hu
           · rename_i el hel
             split at hu
             · rename_i hc
               simp only[Option.some.injEq]at hu
               subst hu
               refine⟨jN hp2 id (.row sz (xs.set i (aR el j (cellsOf u)))),⟨hd,?_⟩,⟨fun k hk=>?_,fun k hk=>?_⟩⟩
               · simp only[aj,jJ,hx,hy,J9,LM,hm,hel,if_pos hc,Option.map_some]
               · simp only[bO,J9,hw k hk]
               · have:¬k=id:=fun e=>hk (e▸afZ)
                 simp only[bO,this,if_false]
                 exact⟨trivial,trivial⟩
             · simp at hu
           · simp at hu
         · simp at hu
       · simp at hu
      case call c=>
       obtain⟨callee,args,argTypes⟩:=c
       simp only[aj]at h
       have same: ∀ {q:Option V},(q.map fun v=>(v,hp))=some (v,aG)→(q.map fun v=>(v,hp2))=some (v,hp2)∧aG=hp:=by
        intro q hq
        simp only[Option.map_eq_some_iff,Prod.mk.injEq]at hq
        obtain⟨u,rfl,rfl,rfl⟩:=hq
        exact⟨rfl,rfl⟩
       split at h
       · split at h
         · rename_i x t hargs ji
           split at h
           · rename_i e hu
             obtain⟨k1,rfl⟩:=same h
             exact⟨hp2,⟨hd,by simp only[aj,hargs,ji,hu];exact k1⟩,⟨hw,fun id _=>⟨rfl,rfl⟩⟩⟩
           · rename_i hu
             obtain⟨k1,rfl⟩:=same h
             refine⟨hp2,⟨hd,?_⟩,⟨hw,fun id _=>⟨rfl,rfl⟩⟩⟩
             simp only[aj,hargs,ji]
             exact k1
         · simp at h
       · split at h
         · rename_i s x t t' hargs ji
           split at h
           · rename_i htt
             subst htt
             have hsub: ∀ (z:Operand),z∈args.toList→ ∀id,id∈ (St.get ⟨n,tm,hp⟩ z).ids→id∈vL (St.get ⟨n,tm,hp⟩) nid ⟨dst, .call ⟨.builtin .append,args,argTypes⟩,ty,pos,after,guard⟩:=by
              intro z hz id bN
              simp only[vL,writes,if_true,List.mem_append]
              refine .inr ?_
              rw[qD]
              simp only[Op.operands,Call.operands,List.mem_flatMap]
              exact⟨z,by simpa using hz,bN⟩
             obtain⟨ob,k1,k2⟩:=tG h (hsub s (by rw[hargs];simp)) (hsub x (by rw[hargs];simp)) (h4 nid (by simp[four])) hw
             exact⟨ob,⟨hd,by simp only[aj,hargs,ji,if_true];exact k1⟩,k2⟩
           · simp at h
         · simp at h
       · split at h
         · rename_i d s t t' hargs ji
           have hsub: ∀ (z:Operand),z∈args.toList→ ∀id,id∈ (St.get ⟨n,tm,hp⟩ z).ids→id∈vL (St.get ⟨n,tm,hp⟩) nid ⟨dst, .call ⟨.builtin .copy,args,argTypes⟩,ty,pos,after,guard⟩:=by
            intro z hz id bN
            simp only[vL,writes,if_true,List.mem_append]
            refine .inr ?_
            rw[qD]
            simp only[Op.operands,Call.operands,List.mem_flatMap]
            exact⟨z,by simpa using hz,bN⟩
           obtain⟨ob,k1,k2⟩:=xB h (hsub d (by rw[hargs];simp)) (hsub s (by rw[hargs];simp)) hw
           exact⟨ob,⟨hd,by simp only[aj,hargs,ji];exact k1⟩,k2⟩
         · simp at h
       · rename_i b pn nj OX
         obtain⟨k1,rfl⟩:=same h
         refine⟨hp2,⟨hd,?_⟩,⟨hw,fun id _=>⟨rfl,rfl⟩⟩⟩
         simp only[aj]
         exact k1
       · simp at h
end Go.aT
end
