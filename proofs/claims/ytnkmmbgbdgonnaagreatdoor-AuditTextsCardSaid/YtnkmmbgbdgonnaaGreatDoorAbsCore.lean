import Derived.Orders
import Derived.Test.YtnkmmbgbdgonnaaGreatDoorAbsTab
import Derived.Below
import Derived.KernelRfl
import Derived.Laws.AppendOwn
namespace Go.Abs
open Go

inductive T where
  | val (v : Value)
  | lst (sz : Nat) (xs : List (List T))
  deriving Inhabited

inductive Loc where
  | virt
  | cel (b : Nat)

abbrev isCell : Value → Bool := Value.oneCell'

inductive RT (w : World) (A : Nat → Prop) : T → Value → Prop
  | val {v : Value} (h : isCell v = true) : RT w A (.val v) v
  | nil {sz : Nat} {a : Option Addr} {cap : Nat} : RT w A (.lst sz []) (.slice a 0 cap)
  | lst {sz : Nat} {xs : List (List T)} {b off len cap : Nat} (f : Nat → Nat → Value) (hl : len = xs.length) (hcap : len ≤ cap)
      (hb : b < w.heap.size) (hA : ¬ A b) (hsz : ∀ e, e ∈ xs → e.length = sz)
      (hc : ∀ (i : Nat) (e : List T) (j : Nat) (c : T), xs[i]? = some e → e[j]? = some c → w.cell? ⟨b, off + i * sz + j, none⟩ = some (f i j))
      (hr : ∀ (i : Nat) (e : List T) (j : Nat) (c : T), xs[i]? = some e → e[j]? = some c → RT w A c (f i j)) : RT w A (.lst sz xs) (.slice (some ⟨b, off, none⟩) len cap)

theorem RT.cell {w : World} {A : Nat → Prop} {t : T} {x : Value} (h : RT w A t x) : isCell x = true := by
  cases h with
  | val h => exact h
  | nil => rfl
  | lst => rfl

/-- What may become of a world: outside the blocks O nothing that was there changes. -/
structure Evo (O : Nat → Prop) (w w' : World) : Prop where
  os : w'.os = w.os
  tape : w'.tape = w.tape
  output : w'.output = w.output
  size : w.heap.size ≤ w'.heap.size
  block : ∀ k, k < w.heap.size → ¬ O k → w'.heap[k]? = w.heap[k]?
  shape : ∀ k, k < w.heap.size → w'.shape? k = w.shape? k

theorem Evo.refl (O : Nat → Prop) (w : World) : Evo O w w := ⟨rfl, rfl, rfl, Nat.le_refl _, fun _ _ _ => rfl, fun _ _ => rfl⟩

theorem Evo.trans {O : Nat → Prop} {a b c : World} (h : Evo O a b) (k : Evo O b c) : Evo O a c :=
  ⟨k.os.trans h.os, k.tape.trans h.tape, k.output.trans h.output, Nat.le_trans h.size k.size,
   fun i hi ho => (k.block i (Nat.lt_of_lt_of_le hi h.size) ho).trans (h.block i hi ho),
   fun i hi => (k.shape i (Nat.lt_of_lt_of_le hi h.size)).trans (h.shape i hi)⟩

/-- A step over a larger set of blocks, of which the new ones did not exist at the beginning. -/
theorem Evo.trans' {O O' : Nat → Prop} {a b c : World} (h : Evo O a b) (k : Evo O' b c) (hO : ∀ i, i < a.heap.size → O' i → O i) : Evo O a c :=
  ⟨k.os.trans h.os, k.tape.trans h.tape, k.output.trans h.output, Nat.le_trans h.size k.size,
   fun i hi ho => (k.block i (Nat.lt_of_lt_of_le hi h.size) (fun h' => ho (hO i hi h'))).trans (h.block i hi ho),
   fun i hi => (k.shape i (Nat.lt_of_lt_of_le hi h.size)).trans (h.shape i hi)⟩

theorem Evo.weaken {O O' : Nat → Prop} {a b : World} (h : Evo O a b) (hO : ∀ i, i < a.heap.size → O i → O' i) : Evo O' a b :=
  ⟨h.os, h.tape, h.output, h.size, fun i hi ho => h.block i hi (fun h' => ho (hO i hi h')), h.shape⟩

theorem Evo.alloc (O : Nat → Prop) (w : World) (o : Obj) : Evo O w (w.alloc o) :=
  ⟨rfl, rfl, rfl, by simp, fun k hk _ => RowKit.Below.heap_alloc w o k hk, fun k hk => by
    have := RowKit.Below.heap_alloc w o k hk
    simp only [World.shape?, this]⟩

theorem Evo.drew (O : Nat → Prop) (w : World) : Evo O w { w with drawn := w.drawn + 1 } :=
  ⟨rfl, rfl, rfl, Nat.le_refl _, fun _ _ _ => rfl, fun _ _ => rfl⟩

theorem shape_setCell (w : World) (a : Addr) (u : Value) (k : Nat) : (w.setCell a u).shape? k = w.shape? k := by
  simp only [World.shape?, World.setCell, Array.getElem?_modify]
  by_cases hk : a.block = k
  · subst hk
    cases h : w.heap[a.block]? with
    | none => simp
    | some o => cases o <;> simp <;> split <;> simp
  · simp [hk]

theorem Evo.setCell {O : Nat → Prop} (w : World) (a : Addr) (u : Value) (h : O a.block) : Evo O w (w.setCell a u) :=
  ⟨rfl, rfl, rfl, by simp [World.setCell], fun k _ ho => RowKit.Below.heap_setCell w a u k (fun e => ho (e ▸ h)), fun k _ => shape_setCell w a u k⟩

/-- What a tree's relation needs of a change. -/
def Keeps (A A' : Nat → Prop) (w w' : World) : Prop :=
  w.heap.size ≤ w'.heap.size ∧ ∀ b, b < w.heap.size → ¬ A b → (w'.heap[b]? = w.heap[b]? ∧ ¬ A' b)

theorem cell_of_block {w w' : World} {a : Addr} (h : w'.heap[a.block]? = w.heap[a.block]?) : w'.cell? a = w.cell? a := by simp [World.cell?, h]

theorem RT.keeps {A A' : Nat → Prop} {w w' : World} (hk : Keeps A A' w w') {t : T} {x : Value} (h : RT w A t x) : RT w' A' t x := by
  induction h with
  | val h => exact .val h
  | nil => exact .nil
  | lst f hl hcap hb hA hsz hc hr ih =>
    obtain ⟨h1, h2⟩ := hk.2 _ hb hA
    refine .lst f hl hcap (Nat.lt_of_lt_of_le hb hk.1) h2 hsz (fun i e j c he hj => ?_) ih
    rw [cell_of_block (w := w) h1]
    exact hc i e j c he hj

theorem Keeps.of_evo {O A A' : Nat → Prop} {w w' : World} (h : Evo O w w') (hO : ∀ b, b < w.heap.size → O b → A b)
    (hA : ∀ b, b < w.heap.size → A' b → A b) : Keeps A A' w w' :=
  ⟨h.size, fun b hb hn => ⟨h.block b hb (fun ho => hn (hO b hb ho)), fun ha => hn (hA b hb ha)⟩⟩

inductive C where
  | t (x : T)
  | own (id sz i len : Nat)
  | ptr (id sz i j : Nat)
  | roe (e : List T) (j : Nat)
  | clo (f : FuncId) (caps : List (Nat × Nat × Nat × Nat))
  | map (id : Nat)
  | it (id : Nat)
  | bnd (f : FuncId) (g : Bool) (ts : List T)
  | any
  deriving Inhabited

abbrev Env := Nat → Option Loc

def RP (ρ : Env) (id sz i j : Nat) (x : Value) : Prop :=
  ∃ b, ρ id = some (.cel b) ∧ x = .pointer (some ⟨b, i * sz + j, none⟩)

/-- A receiver: one cell, or some. -/
def RF (w : World) (A : Nat → Prop) (g : Bool) (ts : List T) (x : Value) : Prop :=
  match g with
  | true => ∃ vs : Array Value, x = .agg vs ∧ ts.length = vs.size ∧ ∀ (k : Nat) (t : T) (y : Value), ts[k]? = some t → vs[k]? = some y → RT w A t y ∧ isCell y = true
  | false => ∃ t, ts = [t] ∧ RT w A t x ∧ isCell x = true

theorem RF.keeps {A A' : Nat → Prop} {w w' : World} (hk : Keeps A A' w w') {g : Bool} {ts : List T} {x : Value} (h : RF w A g ts x) : RF w' A' g ts x := by
  cases g with
  | true =>
    obtain ⟨vs, h1, h2, h3⟩ := h
    exact ⟨vs, h1, h2, fun k t y ht hy => ⟨(h3 k t y ht hy).1.keeps hk, (h3 k t y ht hy).2⟩⟩
  | false =>
    obtain ⟨t, h1, h2, h3⟩ := h
    exact ⟨t, h1, h2.keeps hk, h3⟩

def RC (w : World) (A : Nat → Prop) (ρ : Env) : C → Value → Prop
  | .t x, v => RT w A x v
  | .own id sz i len, v =>
      (∃ b cap n e, ρ id = some (.cel b) ∧ v = .slice (some ⟨b, i * sz, none⟩) len cap ∧ len ≤ cap ∧
        w.shape? b = some (e, n) ∧ i * sz + cap * sz ≤ n) ∨
      (ρ id = some .virt ∧ i = 0 ∧ len = 0 ∧ v = .slice none 0 0)
  | .ptr id sz i j, v => RP ρ id sz i j v
  | .roe e j, v => ∃ b o, ∃ f : Nat → Value, v = .pointer (some ⟨b, o + j, none⟩) ∧ b < w.heap.size ∧ ¬ A b ∧
      (∀ (k : Nat) (c : T), e[k]? = some c → w.cell? ⟨b, o + k, none⟩ = some (f k) ∧ RT w A c (f k))
  | .clo f caps, v => ∃ vs : Array Value, v = .func (.func f) #[] vs ∧ caps.length = vs.size ∧
      ∀ (k id sz i j : Nat) (x : Value), caps[k]? = some (id, sz, i, j) → vs[k]? = some x → RP ρ id sz i j x
  | .map id, v => ∃ b, ρ id = some (.cel b) ∧ v = .map (some b)
  | .it id, v => ∃ b r since last, ρ id = some (.cel b) ∧ v = .pointer (some ⟨r, 0, none⟩) ∧ r < w.heap.size ∧ ¬ A r ∧ w.heap[r]? = some (.mapIter (some b) since #[] last)
  | .bnd f g ts, v => ∃ x, v = .func (.func f) #[x] #[] ∧ RF w A g ts x
  | .any, _ => True

def Ext (ρ ρ' : Env) : Prop := ∀ id l, ρ id = some l → ρ' id = some l

theorem RP.ext {ρ ρ' : Env} (h : Ext ρ ρ') {id sz i j : Nat} {x : Value} (hp : RP ρ id sz i j x) : RP ρ' id sz i j x := by
  obtain ⟨b, h1, h2⟩ := hp
  exact ⟨b, h _ _ h1, h2⟩

theorem RC.keeps {A A' : Nat → Prop} {ρ ρ' : Env} {w w' : World} (hk : Keeps A A' w w') (hs : ∀ k, k < w.heap.size → w'.shape? k = w.shape? k)
    (hρ : Ext ρ ρ') {c : C} {x : Value} (h : RC w A ρ c x) : RC w' A' ρ' c x := by
  cases c with
  | t y => exact RT.keeps hk h
  | own id sz i len =>
    rcases h with ⟨b, cap, n, e, h1, h2, h3, h4, h5⟩ | ⟨h1, h2⟩
    · refine .inl ⟨b, cap, n, e, hρ _ _ h1, h2, h3, ?_, h5⟩
      rw [hs b ?_, h4]
      rcases Nat.lt_or_ge b w.heap.size with hlt | hge
      · exact hlt
      · simp [World.shape?, Array.getElem?_eq_none hge] at h4
    · exact .inr ⟨hρ _ _ h1, h2⟩
  | ptr id sz i j => exact RP.ext hρ h
  | roe e j =>
    obtain ⟨b, o, f, h1, h2, h3, h4⟩ := h
    obtain ⟨k1, k2⟩ := hk.2 _ h2 h3
    refine ⟨b, o, f, h1, Nat.lt_of_lt_of_le h2 hk.1, k2, fun k c hc => ?_⟩
    obtain ⟨h5, h6⟩ := h4 k c hc
    exact ⟨by rw [cell_of_block (w := w) k1]; exact h5, RT.keeps hk h6⟩
  | clo f caps =>
    obtain ⟨vs, h1, h2, h3⟩ := h
    exact ⟨vs, h1, h2, fun k id sz i j x hc hv => RP.ext hρ (h3 k id sz i j x hc hv)⟩
  | map id =>
    obtain ⟨b, h1, h2⟩ := h
    exact ⟨b, hρ _ _ h1, h2⟩
  | it id =>
    obtain ⟨b, r, since, last, h1, h2, h3, h4, h5⟩ := h
    obtain ⟨k1, k2⟩ := hk.2 _ h3 h4
    exact ⟨b, r, since, last, hρ _ _ h1, h2, Nat.lt_of_lt_of_le h3 hk.1, k2, by rw [k1]; exact h5⟩
  | bnd f g ts =>
    obtain ⟨x, h1, h2⟩ := h
    exact ⟨x, h1, h2.keeps hk⟩
  | any => trivial

inductive W where
  | one (c : C)
  | agg (cs : List C)
  deriving Inhabited

inductive V where
  | w (x : W)
  | tup (ws : List W)
  | undef
  deriving Inhabited

/-- Cells, one by one. -/
def RCs (w : World) (A : Nat → Prop) (ρ : Env) (cs : List C) (vs : Array Value) : Prop :=
  cs.length = vs.size ∧ ∀ (k : Nat) (c : C) (x : Value), cs[k]? = some c → vs[k]? = some x → RC w A ρ c x ∧ isCell x = true

def RW (w : World) (A : Nat → Prop) (ρ : Env) : W → Value → Prop
  | .one c, v => RC w A ρ c v ∧ isCell v = true
  | .agg cs, v => ∃ vs, v = .agg vs ∧ RCs w A ρ cs vs

def RV (w : World) (A : Nat → Prop) (ρ : Env) : V → Value → Prop
  | .w x, v => RW w A ρ x v
  | .tup ws, v => ∃ vs : Array Value, v = .tuple vs ∧ ws.length = vs.size ∧ ∀ (k : Nat) (u : W) (x : Value), ws[k]? = some u → vs[k]? = some x → RW w A ρ u x
  | .undef, _ => True

theorem RCs.keeps {A A' : Nat → Prop} {ρ ρ' : Env} {w w' : World} (hk : Keeps A A' w w') (hs : ∀ k, k < w.heap.size → w'.shape? k = w.shape? k)
    (hρ : Ext ρ ρ') {cs : List C} {vs : Array Value} (h : RCs w A ρ cs vs) : RCs w' A' ρ' cs vs :=
  ⟨h.1, fun k c x hc hx => ⟨(h.2 k c x hc hx).1.keeps hk hs hρ, (h.2 k c x hc hx).2⟩⟩

theorem RW.keeps {A A' : Nat → Prop} {ρ ρ' : Env} {w w' : World} (hk : Keeps A A' w w') (hs : ∀ k, k < w.heap.size → w'.shape? k = w.shape? k)
    (hρ : Ext ρ ρ') {u : W} {x : Value} (h : RW w A ρ u x) : RW w' A' ρ' u x := by
  cases u with
  | one c => exact ⟨h.1.keeps hk hs hρ, h.2⟩
  | agg cs => obtain ⟨vs, h1, h2⟩ := h; exact ⟨vs, h1, h2.keeps hk hs hρ⟩

theorem RV.keeps {A A' : Nat → Prop} {ρ ρ' : Env} {w w' : World} (hk : Keeps A A' w w') (hs : ∀ k, k < w.heap.size → w'.shape? k = w.shape? k)
    (hρ : Ext ρ ρ') {u : V} {x : Value} (h : RV w A ρ u x) : RV w' A' ρ' u x := by
  cases u with
  | w y => exact RW.keeps hk hs hρ h
  | tup ws => obtain ⟨vs, h1, h2, h3⟩ := h; exact ⟨vs, h1, h2, fun k u x hu hx => (h3 k u x hu hx).keeps hk hs hρ⟩
  | undef => trivial

/-- A row of elements of sz cells each. -/
inductive Blk where
  | row (sz : Nat) (xs : List (List C))
  | mp (es : List (Value × C × Nat)) (clock : Nat)
  deriving Inhabited

def HB (w : World) (M A : Nat → Prop) (ρ : Env) (id : Nat) : Blk → Prop
  | .row sz xs =>
    (∀ e, e ∈ xs → e.length = sz) ∧
    ((∃ b c e, ρ id = some (.cel b) ∧ M b ∧ A b ∧ w.heap[b]? = some (.cells c e (0, 0)) ∧ xs.length * sz ≤ c.size ∧
      ∀ (i : Nat) (el : List C) (j : Nat) (k : C), xs[i]? = some el → el[j]? = some k → ∃ x, c[i * sz + j]? = some x ∧ RC w A ρ k x ∧ isCell x = true) ∨
    (ρ id = some .virt ∧ xs = []))
  | .mp es clock => ∃ (b : Nat) (en : Array MapEntry), ρ id = some (.cel b) ∧ M b ∧ A b ∧ w.heap[b]? = some (.map en clock) ∧ en.size = es.length ∧
      ∀ (i : Nat) (k : Value) (c : C) (n : Nat), es[i]? = some (k, c, n) → ∃ e, en[i]? = some e ∧ e.key = k ∧ e.born = n ∧ RC w A ρ c e.val ∧ isCell e.val = true

def find {α : Type} : List (Nat × α) → Nat → Option α
  | [], _ => none
  | (k, v) :: r, t => if k = t then some v else find r t

structure St where
  n : Nat
  tmps : List (Nat × V)
  heap : List (Nat × Blk)
  deriving Inhabited

def St.put (st : St) (dst : Option Tmp) (v : V) : St :=
  match dst with
  | some d => { st with tmps := (d, v) :: st.tmps }
  | none => st

/-- The tables stand in the world, and nobody writes them. -/
def Glob (M A : Nat → Prop) (w : World) : Prop :=
  ∀ g vs, tabAt tabs g = some vs → g < w.heap.size ∧ ¬ M g ∧ ¬ A g ∧ (∃ t fr, w.heap[g]? = some (.cells vs.toArray t fr)) ∧ ∀ (k : Nat) (v : Value), vs[k]? = some v → w.cell? ⟨g, k, none⟩ = some v ∧ isCell v = true

theorem Glob.sub {M M' A A' : Nat → Prop} {w : World} (h : Glob M A w) (hM : ∀ b, b < w.heap.size → M' b → M b) (hA : ∀ b, A' b → A b) : Glob M' A' w := fun g vs hg =>
  ⟨(h g vs hg).1, fun k => (h g vs hg).2.1 (hM _ (h g vs hg).1 k), fun k => (h g vs hg).2.2.1 (hA _ k), (h g vs hg).2.2.2⟩

structure Rel (M A : Nat → Prop) (ρ : Env) (F : Nat → Prop) (st : St) (a : Act) (w : World) : Prop where
  size : a.tmps.size = st.n
  defers : a.defers = []
  tmps : ∀ t v, find st.tmps t = some v → RV w A ρ v (a.tmps.getD t undef)
  heap : ∀ id blk, find st.heap id = some blk → HB w M A ρ id blk
  inj : ∀ id id' blk blk' b, find st.heap id = some blk → find st.heap id' = some blk' → ρ id = some (.cel b) → ρ id' = some (.cel b) → id = id'
  fresh : ∀ id, F id → ρ id = none
  bound : ∀ b, A b → b < w.heap.size
  may : ∀ b, w.heap.size ≤ b → M b
  glob : Glob M A w

/-- The set of the blocks to be avoided grows by new ones alone. -/
def Grow (A A' : Nat → Prop) (w : World) : Prop := (∀ b, A b → A' b) ∧ ∀ b, b < w.heap.size → A' b → A b

theorem Glob.evo {M A A' : Nat → Prop} {w w' : World} (h : Glob M A w) (he : Evo M w w') (hA : ∀ b, b < w.heap.size → A' b → A b) : Glob M A' w' := fun g vs hg => by
  obtain ⟨h1, h2, h3, hb, h4⟩ := h g vs hg
  refine ⟨Nat.lt_of_lt_of_le h1 he.size, h2, fun k => h3 (hA g h1 k), by rw [he.block g h1 h2]; exact hb, fun k v hk => ?_⟩
  obtain ⟨h5, h6⟩ := h4 k v hk
  exact ⟨by rw [cell_of_block (w := w) (he.block g h1 h2)]; exact h5, h6⟩

theorem Grow.refl (A : Nat → Prop) (w : World) : Grow A A w := ⟨fun _ h => h, fun _ _ h => h⟩
theorem Grow.new (A : Nat → Prop) (w : World) : Grow A (fun b => A b ∨ b = w.heap.size) w :=
  ⟨fun _ h => .inl h, fun b hb h => h.elim id (fun e => by omega)⟩
theorem Grow.trans {A A' A'' : Nat → Prop} {w w' : World} (h : Grow A A' w) (k : Grow A' A'' w') (hw : w.heap.size ≤ w'.heap.size) : Grow A A'' w :=
  ⟨fun b hb => k.1 b (h.1 b hb), fun b hb h' => h.2 b hb (k.2 b (Nat.lt_of_lt_of_le hb hw) h')⟩

/-- The free ids but the four from nid on. -/
def Sub (F : Nat → Prop) (nid : Nat) : Nat → Prop := fun id => F id ∧ ¬ (nid ≤ id ∧ id < nid + 4)

/-- What an operation comes to: its value and the world stand to the new state as before. -/
def Yld (M A : Nat → Prop) (ρ : Env) (F : Nat → Prop) (a : Act) (w : World) (r : Result Next) (st' : St) (v : V) : Prop :=
  ∃ x w' A' ρ', (r = .ok (.value x) w' ∨ (r = .ok .skip w' ∧ x = undef)) ∧ Rel M A' ρ' F st' a w' ∧ RV w' A' ρ' v x ∧ Evo M w w' ∧ Ext ρ ρ' ∧ Grow A A' w

theorem Rel.sub {M A : Nat → Prop} {ρ : Env} {F F' : Nat → Prop} {st : St} {a : Act} {w : World} (h : Rel M A ρ F st a w) (hF : ∀ id, F' id → F id) : Rel M A ρ F' st a w :=
  ⟨h.size, h.defers, h.tmps, h.heap, h.inj, fun id hi => h.fresh id (hF id hi), h.bound, h.may, h.glob⟩

theorem Ext.refl (ρ : Env) : Ext ρ ρ := fun _ _ h => h
theorem Ext.trans {a b c : Env} (h : Ext a b) (k : Ext b c) : Ext a c := fun i l hi => k i l (h i l hi)

/-- An operation that leaves the world as it is. -/
theorem Yld.same {M A : Nat → Prop} {ρ : Env} {F F' : Nat → Prop} {st : St} {a : Act} {w : World} {r : Result Next} {v : V} {x : Value}
    (hr : Rel M A ρ F st a w) (hF : ∀ id, F' id → F id) (h : r = .ok (.value x) w) (hv : RV w A ρ v x) : Yld M A ρ F' a w r st v :=
  ⟨x, w, A, ρ, .inl h, hr.sub hF, hv, Evo.refl _ _, Ext.refl _, Grow.refl A w⟩

theorem find_cons {α : Type} (k : Nat) (v : α) (r : List (Nat × α)) (t : Nat) : find ((k, v) :: r) t = if k = t then some v else find r t := rfl

theorem Rel.put {M A : Nat → Prop} {ρ : Env} {F : Nat → Prop} {st : St} {a : Act} {w : World} (h : Rel M A ρ F st a w) {dst : Option Tmp} {v : V} {x : Value}
    (hv : RV w A ρ v x) (hd : ∀ d, dst = some d → d < st.n) : Rel M A ρ F (st.put dst v) (a.put dst x) w := by
  cases dst with
  | none => exact h
  | some d =>
    refine ⟨by simp [Act.put, St.put, h.size], h.defers, fun t u hu => ?_, h.heap, h.inj, h.fresh, h.bound, h.may, h.glob⟩
    simp only [St.put, find_cons] at hu
    simp only [Act.put]
    split at hu
    · rename_i hdt
      subst hdt
      simp only [Option.some.injEq] at hu
      subst hu
      have := hd d rfl
      rw [← h.size] at this
      simpa [Array.getD_eq_getD_getElem?, Array.getElem?_setIfInBounds_self, this] using hv
    · rename_i hdt
      have := h.tmps t u hu
      simpa [Array.getD_eq_getD_getElem?, Array.getElem?_setIfInBounds_ne hdt] using this

theorem Rel.drew {M A : Nat → Prop} {ρ : Env} {F : Nat → Prop} {st : St} {a : Act} {w : World} (h : Rel M A ρ F st a w) :
    Rel M A ρ F st a { w with drawn := w.drawn + 1 } := by
  have hk : Keeps A A w { w with drawn := w.drawn + 1 } := ⟨Nat.le_refl _, fun b _ hn => ⟨rfl, hn⟩⟩
  refine ⟨h.size, h.defers, fun t v hv => (h.tmps t v hv).keeps hk (fun _ _ => rfl) (Ext.refl _), fun id blk hb => ?_, h.inj, h.fresh, h.bound, h.may, h.glob⟩
  have := h.heap id blk hb
  cases blk with
  | row sz xs =>
    obtain ⟨h1, h2⟩ := this
    refine ⟨h1, ?_⟩
    rcases h2 with ⟨b, c, e, k1, k2, k3, k4, k5, k6⟩ | h2
    · refine .inl ⟨b, c, e, k1, k2, k3, k4, k5, fun i el j k hi hj => ?_⟩
      obtain ⟨x, hx, hc, hcell⟩ := k6 i el j k hi hj
      exact ⟨x, hx, hc.keeps hk (fun _ _ => rfl) (Ext.refl _), hcell⟩
    · exact .inr h2
  | mp es clock =>
    obtain ⟨b, en, k1, k2, k3, k4, k5, k6⟩ := this
    refine ⟨b, en, k1, k2, k3, k4, k5, fun i k c n hi => ?_⟩
    obtain ⟨e, h1, h2, h3, h4, h5⟩ := k6 i k c n hi
    exact ⟨e, h1, h2, h3, h4.keeps hk (fun _ _ => rfl) (Ext.refl _), h5⟩

/-- A change of the world outside all own blocks (nothing that stands in the state is touched). -/
theorem HB.keeps {M A A' : Nat → Prop} {ρ ρ' : Env} {w w' : World} {id : Nat} {blk : Blk} (hk : Keeps A A' w w') (hs : ∀ k, k < w.heap.size → w'.shape? k = w.shape? k)
    (hρ : Ext ρ ρ') (hA : ∀ b, A b → A' b) (hsame : ∀ b, ρ id = some (.cel b) → w'.heap[b]? = w.heap[b]?) (h : HB w M A ρ id blk) : HB w' M A' ρ' id blk := by
  cases blk with
  | row sz xs =>
    obtain ⟨h1, h2⟩ := h
    refine ⟨h1, ?_⟩
    rcases h2 with ⟨b, c, e, k1, k2, k3, k4, k5, k6⟩ | ⟨h2, h3⟩
    · refine .inl ⟨b, c, e, hρ _ _ k1, k2, hA _ k3, by rw [hsame b k1]; exact k4, k5, fun i el j k hi hj => ?_⟩
      obtain ⟨x, hx, hc, hcell⟩ := k6 i el j k hi hj
      exact ⟨x, hx, hc.keeps hk hs hρ, hcell⟩
    · exact .inr ⟨hρ _ _ h2, h3⟩
  | mp es clock =>
    obtain ⟨b, en, k1, k2, k3, k4, k5, k6⟩ := h
    refine ⟨b, en, hρ _ _ k1, k2, hA _ k3, by rw [hsame b k1]; exact k4, k5, fun i k c n hi => ?_⟩
    obtain ⟨e, h1, h2, h3, h4, h5⟩ := k6 i k c n hi
    exact ⟨e, h1, h2, h3, h4.keeps hk hs hρ, h5⟩

def Ext4 (ρ ρ' : Env) : Prop := ∀ id l, id < 4 → ρ id = some l → ρ' id = some l
theorem Ext.to4 {ρ ρ' : Env} (h : Ext ρ ρ') : Ext4 ρ ρ' := fun id l _ hl => h id l hl
theorem Ext4.refl (ρ : Env) : Ext4 ρ ρ := fun _ _ _ h => h
theorem Ext4.trans {a b c : Env} (h : Ext4 a b) (k : Ext4 b c) : Ext4 a c := fun i l hi hl => k i l hi (h i l hi hl)

end Go.Abs
