import Derived.Test.YtnkmmbgbdgonnaaGreatDoorAbsOp
namespace Go.Abs
open Go

abbrev From (n : Nat) : Nat → Prop := fun id => n ≤ id

/-- A heap by itself. -/
abbrev HR (M A : Nat → Prop) (ρ : Env) (F : Nat → Prop) (heap : List (Nat × Blk)) (w : World) : Prop := Rel M A ρ F ⟨0, [], heap⟩ ⟨#[], []⟩ w

def RWs (w : World) (A : Nat → Prop) (ρ : Env) (us : List W) (xs : List Value) : Prop :=
  us.length = xs.length ∧ ∀ (k : Nat) (u : W) (x : Value), us[k]? = some u → xs[k]? = some x → RW w A ρ u x

/-- The blocks of a heap. -/
def Own (ρ : Env) (heap : List (Nat × Blk)) (b : Nat) : Prop := ∃ id blk, find heap id = some blk ∧ ρ id = some (.cel b)

/-- THE CONTRACT of a function: called with what reads as args (over the heap hin) it returns res (over hout); of what was there, only the blocks of hin may have changed. -/
def Fn (P : Program) (f : FuncId) (args : List W) (hin : List (Nat × Blk)) (res : V) (hout : List (Nat × Blk)) : Prop :=
  ∀ (w : World) (A : Nat → Prop) (ρ : Env) (xs : Array Value),
    HR (fun b => Own ρ hin b ∨ w.heap.size ≤ b) A ρ (From 4) hin w → RWs w A ρ args xs.toList →
    Calls P f xs w fun e w' => ∃ x A' ρ' F', e = .returned x ∧ RV w' A' ρ' res x ∧ HR (fun b => Own ρ hin b ∨ w.heap.size ≤ b) A' ρ' F' hout w' ∧
      Evo (fun b => Own ρ hin b ∨ w.heap.size ≤ b) w w' ∧ Ext4 ρ ρ' ∧ Grow A A' w

def C.up (n : Nat) : C → C
  | .own id sz i len => if id < 4 then .own (id + n) sz i len else .any
  | .ptr id sz i j => if id < 4 then .ptr (id + n) sz i j else .any
  | .clo f caps => if caps.all (fun p => p.1 < 4) then .clo f (caps.map fun p => (p.1 + n, p.2)) else .any
  | .map id => if id < 4 then .map (id + n) else .any
  | .it _ => .any
  | c => c

def W.up (n : Nat) : W → W
  | .one c => .one (c.up n)
  | .agg cs => .agg (cs.map (C.up n))

def V.up (n : Nat) : V → V
  | .w u => .w (u.up n)
  | .tup ws => .tup (ws.map (W.up n))
  | .undef => .undef

def Blk.up (n : Nat) : Blk → Blk
  | .row sz xs => .row sz (xs.map fun e => e.map (C.up n))
  | .mp es clock => .mp (es.map fun p => (p.1, p.2.1.up n, p.2.2)) clock

def upHeap (n : Nat) : List (Nat × Blk) → List (Nat × Blk)
  | [] => []
  | (id, b) :: r => if id < 4 then (id + n, b.up n) :: upHeap n r else upHeap n r

variable {P : Program} {M A : Nat → Prop} {ρ : Env} {F : Nat → Prop} {st : St} {a : Act} {w : World}

theorem RC.up {ρ2 : Env} {n : Nat} {c : C} {x : Value} (h : RC w A ρ c x) (hρ : ∀ id l, id < 4 → ρ id = some l → ρ2 (id + n) = some l) : RC w A ρ2 (c.up n) x := by
  cases c with
  | t y => exact h
  | own id sz i len =>
    simp only [C.up]
    split
    · rename_i hid
      rcases h with ⟨b, cap, q, e, h1, h2⟩ | ⟨h1, h2⟩
      · exact .inl ⟨b, cap, q, e, hρ _ _ hid h1, h2⟩
      · exact .inr ⟨hρ _ _ hid h1, h2⟩
    · trivial
  | ptr id sz i j =>
    simp only [C.up]
    split
    · rename_i hid
      obtain ⟨b, h1, h2⟩ := h
      exact ⟨b, hρ _ _ hid h1, h2⟩
    · trivial
  | roe e j => exact h
  | clo f caps =>
    simp only [C.up]
    split
    · rename_i hall
      obtain ⟨vs, h1, h2, h3⟩ := h
      refine ⟨vs, h1, by simpa using h2, fun k id sz i j y hk hy => ?_⟩
      simp only [List.getElem?_map, Option.map_eq_some_iff, Prod.mk.injEq] at hk
      obtain ⟨⟨id', r⟩, hk', hid, hr⟩ := hk
      simp only at hid hr
      subst hr
      have hlt : id' < 4 := by
        have := List.all_eq_true.1 hall _ (List.mem_of_getElem? hk')
        simpa using this
      obtain ⟨b, k1, k2⟩ := h3 k id' sz i j y hk' hy
      exact ⟨b, hid ▸ hρ _ _ hlt k1, k2⟩
    · trivial
  | map id =>
    simp only [C.up]
    split
    · rename_i hid
      obtain ⟨b, h1, h2⟩ := h
      exact ⟨b, hρ _ _ hid h1, h2⟩
    · trivial
  | it => trivial
  | bnd f g ts => exact h
  | any => trivial

theorem RCs.up {ρ2 : Env} {n : Nat} {cs : List C} {vs : Array Value} (h : RCs w A ρ cs vs) (hρ : ∀ id l, id < 4 → ρ id = some l → ρ2 (id + n) = some l) : RCs w A ρ2 (cs.map (C.up n)) vs := by
  refine ⟨by simpa using h.1, fun k c x hk hx => ?_⟩
  simp only [List.getElem?_map, Option.map_eq_some_iff] at hk
  obtain ⟨d, hd, rfl⟩ := hk
  obtain ⟨h1, h2⟩ := h.2 k d x hd hx
  exact ⟨h1.up hρ, h2⟩

theorem RW.up {ρ2 : Env} {n : Nat} {u : W} {x : Value} (h : RW w A ρ u x) (hρ : ∀ id l, id < 4 → ρ id = some l → ρ2 (id + n) = some l) : RW w A ρ2 (u.up n) x := by
  cases u with
  | one c => exact ⟨h.1.up hρ, h.2⟩
  | agg cs => obtain ⟨vs, h1, h2⟩ := h; exact ⟨vs, h1, h2.up hρ⟩

theorem RV.up {ρ2 : Env} {n : Nat} {u : V} {x : Value} (h : RV w A ρ u x) (hρ : ∀ id l, id < 4 → ρ id = some l → ρ2 (id + n) = some l) : RV w A ρ2 (u.up n) x := by
  cases u with
  | w y => exact RW.up h hρ
  | tup ws =>
    obtain ⟨vs, h1, h2, h3⟩ := h
    refine ⟨vs, h1, by simpa using h2, fun k u x hk hx => ?_⟩
    simp only [List.getElem?_map, Option.map_eq_some_iff] at hk
    obtain ⟨d, hd, rfl⟩ := hk
    exact (h3 k d x hd hx).up hρ
  | undef => trivial

theorem find_upHeap (n : Nat) (h : List (Nat × Blk)) (k : Nat) (b : Blk) (hf : find (upHeap n h) k = some b) : ∃ id b', id < 4 ∧ k = id + n ∧ find h id = some b' ∧ b = b'.up n := by
  induction h with
  | nil => simp [upHeap, find] at hf
  | cons p r ih =>
    obtain ⟨id, b'⟩ := p
    simp only [upHeap] at hf
    split at hf
    · rename_i hid
      simp only [find_cons] at hf
      split at hf
      · rename_i e
        simp only [Option.some.injEq] at hf
        exact ⟨id, b', hid, e.symm, by simp [find_cons], hf.symm⟩
      · rename_i e
        obtain ⟨id2, b2, h1, h2, h3, h4⟩ := ih hf
        refine ⟨id2, b2, h1, h2, ?_, h4⟩
        have : ¬ id = id2 := by omega
        simp [find_cons, this, h3]
    · rename_i hid
      obtain ⟨id2, b2, h1, h2, h3, h4⟩ := ih hf
      refine ⟨id2, b2, h1, h2, ?_, h4⟩
      have : ¬ id = id2 := by omega
      simp [find_cons, this, h3]

theorem find_append {α : Type} (l r : List (Nat × α)) (k : Nat) : find (l ++ r) k = (find l k).or (find r k) := by
  induction l with
  | nil => simp [find]
  | cons p q ih =>
    obtain ⟨i, v⟩ := p
    simp only [List.cons_append, find_cons, ih]
    split <;> simp

/-- No slice among the cells: nothing is touched. -/
def C.flat : C → Bool
  | .t (.val _) | .own .. | .ptr .. | .clo .. | .map _ | .any => true
  | _ => false

def W.flat : W → Bool
  | .one c => c.flat
  | .agg cs => cs.all C.flat

def V.flat : V → Bool
  | .w u => u.flat
  | .tup ws => ws.all W.flat
  | .undef => true

def Blk.flat : Blk → Bool
  | .row _ xs => xs.all fun e => e.all C.flat
  | .mp es _ => es.all fun p => p.2.1.flat

theorem RC.flat {A' : Nat → Prop} {c : C} {x : Value} (h : RC w A ρ c x) (hf : c.flat = true) : RC w A' ρ c x := by
  cases c with
  | t y => cases y with
    | val v => cases h with | val h => exact .val h
    | lst => simp [C.flat] at hf
  | roe => simp [C.flat] at hf
  | own => exact h
  | ptr => exact h
  | clo => exact h
  | map => exact h
  | bnd => simp [C.flat] at hf
  | it => simp [C.flat] at hf
  | any => trivial

theorem RW.flat {A' : Nat → Prop} {u : W} {x : Value} (h : RW w A ρ u x) (hf : u.flat = true) : RW w A' ρ u x := by
  cases u with
  | one c => exact ⟨h.1.flat hf, h.2⟩
  | agg cs =>
    obtain ⟨vs, h1, h2⟩ := h
    refine ⟨vs, h1, h2.1, fun k c x hk hx => ⟨(h2.2 k c x hk hx).1.flat ?_, (h2.2 k c x hk hx).2⟩⟩
    exact List.all_eq_true.1 hf c (List.mem_of_getElem? hk)

theorem RV.flat {A' : Nat → Prop} {u : V} {x : Value} (h : RV w A ρ u x) (hf : u.flat = true) : RV w A' ρ u x := by
  cases u with
  | w y => exact RW.flat h hf
  | tup ws =>
    obtain ⟨vs, h1, h2, h3⟩ := h
    exact ⟨vs, h1, h2, fun k u x hk hx => (h3 k u x hk hx).flat (List.all_eq_true.1 hf u (List.mem_of_getElem? hk))⟩
  | undef => trivial

theorem RC.grow {A' : Nat → Prop} {c : C} {x : Value} (h : RC w A ρ c x) (hA : ∀ b, A' b → A b) : RC w A' ρ c x :=
  h.keeps ⟨Nat.le_refl _, fun b _ hn => ⟨rfl, fun h => hn (hA b h)⟩⟩ (fun _ _ => rfl) (Ext.refl _)
theorem RW.grow {A' : Nat → Prop} {c : W} {x : Value} (h : RW w A ρ c x) (hA : ∀ b, A' b → A b) : RW w A' ρ c x :=
  h.keeps ⟨Nat.le_refl _, fun b _ hn => ⟨rfl, fun h => hn (hA b h)⟩⟩ (fun _ _ => rfl) (Ext.refl _)
theorem RV.grow {A' : Nat → Prop} {c : V} {x : Value} (h : RV w A ρ c x) (hA : ∀ b, A' b → A b) : RV w A' ρ c x :=
  h.keeps ⟨Nat.le_refl _, fun b _ hn => ⟨rfl, fun h => hn (hA b h)⟩⟩ (fun _ _ => rfl) (Ext.refl _)

/-- What a call has made comes into the caller's heap. -/
theorem Rel.import (h : Rel M A ρ F st a w) {nid : Nat} (hn : ∀ k, nid ≤ k → k < nid + 4 → F k) {A1 : Nat → Prop} {ρ1 : Env} {F1 : Nat → Prop} {hout : List (Nat × Blk)} {w' : World} {res : V} {x : Value}
    (hev : Evo (fun b => w.heap.size ≤ b) w w') (hr : HR (fun b => w.heap.size ≤ b) A1 ρ1 F1 hout w') (hg : ∀ b, b < w.heap.size → A1 b → A b) (hv : RV w' A1 ρ1 res x)
    (hfl : (∀ b, A b → A1 b) ∨ (res.flat = true ∧ ∀ id blk, find hout id = some blk → blk.flat = true)) :
    ∃ A2 ρ2, Rel M A2 ρ2 (Sub F nid) { st with heap := upHeap nid hout ++ st.heap } a w' ∧ RV w' A2 ρ2 (res.up nid) x ∧ Evo M w w' ∧ Ext ρ ρ2 ∧ Grow A A2 w := by
  let ρ2 : Env := fun k => if nid ≤ k ∧ k < nid + 4 then ρ1 (k - nid) else ρ k
  have hup : ∀ id l, id < 4 → ρ1 id = some l → ρ2 (id + nid) = some l := by
    intro id l hid hl
    simp only [ρ2]
    rw [if_pos ⟨by omega, by omega⟩, show id + nid - nid = id by omega]
    exact hl
  have hext : Ext ρ ρ2 := by
    intro id l hl
    simp only [ρ2]
    split
    · rename_i hc
      have := h.fresh id (hn id hc.1 hc.2)
      simp [this] at hl
    · exact hl
  have hevM : Evo M w w' := hev.weaken (fun i hi ho => by omega)
  let A2 : Nat → Prop := fun b => A b ∨ A1 b
  have hgrow : Grow A A2 w := ⟨fun b hb => .inl hb, fun b hb h' => h'.elim id (hg b hb)⟩
  have hk : Keeps A A2 w w' := ⟨hev.size, fun b hb hnA => ⟨hev.block b hb (by omega), fun h' => h'.elim hnA (fun h1 => hnA (hg b hb h1))⟩⟩
  have hs : ∀ k, k < w.heap.size → w'.shape? k = w.shape? k := hev.shape
  have hC : ∀ {c : C} {y : Value}, RC w' A1 ρ1 c y → ((∀ b, A b → A1 b) ∨ c.flat = true) → RC w' A2 ρ1 c y := by
    intro c y hc hh
    rcases hh with hh | hh
    · exact hc.grow (fun b hb => hb.elim (hh b) id)
    · exact hc.flat hh
  have hV : RV w' A2 ρ1 res x := by
    rcases hfl with hh | hh
    · exact hv.grow (fun b hb => hb.elim (hh b) id)
    · exact hv.flat hh.1
  refine ⟨A2, ρ2, ⟨h.size, h.defers, fun t v hv => (h.tmps t v hv).keeps hk hs hext, ?_, ?_, ?_, ?_, ?_, h.glob.evo hevM hgrow.2⟩, hV.up hup, hevM, hext, hgrow⟩
  · intro k blk hf
    simp only [find_append, Option.or_eq_some_iff] at hf
    rcases hf with hf | ⟨_, hf⟩
    · obtain ⟨id, b', hid, rfl, hb', rfl⟩ := find_upHeap _ _ _ _ hf
      have hb := hr.heap id b' hb'
      cases b' with
      | row sz xs =>
        obtain ⟨q1, q2⟩ := hb
        refine ⟨fun e he => ?_, ?_⟩
        · simp only [List.mem_map] at he
          obtain ⟨e', he', rfl⟩ := he
          simpa using q1 e' he'
        · rcases q2 with ⟨b, c, e, k1, k2, k3, k4, k5, k6⟩ | ⟨k1, k2⟩
          · refine .inl ⟨b, c, e, hup _ _ hid k1, h.may b k2, .inr k3, k4, by simpa using k5, fun i el j q hi hj => ?_⟩
            simp only [List.getElem?_map, Option.map_eq_some_iff] at hi
            obtain ⟨el', hel', rfl⟩ := hi
            simp only [List.getElem?_map, Option.map_eq_some_iff] at hj
            obtain ⟨q', hq', rfl⟩ := hj
            obtain ⟨y, hy, hr', h1⟩ := k6 i el' j q' hel' hq'
            refine ⟨y, hy, (hC hr' ?_).up hup, h1⟩
            rcases hfl with hh | hh
            · exact .inl hh
            · have := hh.2 id _ hb'
              simp only [Blk.flat, List.all_eq_true] at this
              exact .inr (this el' (List.mem_of_getElem? hel') q' (List.mem_of_getElem? hq'))
          · exact .inr ⟨hup _ _ hid k1, by rw [k2]; rfl⟩
      | mp es clock =>
        obtain ⟨b, en, k1, k2, k3, k4, k5, k6⟩ := hb
        refine ⟨b, en, hup _ _ hid k1, h.may b k2, .inr k3, k4, by simpa using k5, fun i k c n hi => ?_⟩
        simp only [List.getElem?_map, Option.map_eq_some_iff] at hi
        obtain ⟨⟨k', c', n'⟩, hi', he⟩ := hi
        simp only [Prod.mk.injEq] at he
        obtain ⟨rfl, rfl, rfl⟩ := he
        obtain ⟨e, h1, h2, h3, h4, h5⟩ := k6 i k' c' n' hi'
        refine ⟨e, h1, h2, h3, (hC h4 ?_).up hup, h5⟩
        rcases hfl with hh | hh
        · exact .inl hh
        · have := hh.2 id _ hb'
          simp only [Blk.flat, List.all_eq_true] at this
          exact .inr (this _ (List.mem_of_getElem? hi'))
    · have hb := h.heap k blk hf
      exact hb.keeps hk hs hext (fun b hb => .inl hb) (fun b hbo => hev.block b (hb.lt hbo).1 (by have := (hb.lt hbo).1; omega))
  · intro k k' blk blk' b h1 h2 r1 r2
    simp only [find_append, Option.or_eq_some_iff] at h1 h2
    have old : ∀ {q : Nat} {bl : Blk}, find st.heap q = some bl → ∀ {b : Nat}, ρ2 q = some (.cel b) → ρ q = some (.cel b) ∧ b < w.heap.size := by
      intro q bl hq b hb
      have hbq := h.heap q bl hq
      have hq' : ∃ l, ρ q = some l := by
        cases bl with
        | row sz xs => rcases hbq.2 with ⟨b, c, e, k1, _⟩ | ⟨k1, _⟩ <;> exact ⟨_, k1⟩
        | mp es clock => obtain ⟨b, en, k1, _⟩ := hbq; exact ⟨_, k1⟩
      obtain ⟨l, hl⟩ := hq'
      have e1 := hext q l hl
      rw [e1] at hb
      rw [hl, hb]
      refine ⟨rfl, (hbq.lt (by rw [hl, hb])).1⟩
    have new : ∀ {q : Nat} {bl : Blk}, find (upHeap nid hout) q = some bl → ∀ {b : Nat}, ρ2 q = some (.cel b) → ∃ id b', q = id + nid ∧ find hout id = some b' ∧ ρ1 id = some (.cel b) ∧ w.heap.size ≤ b := by
      intro q bl hq b hb
      obtain ⟨id, b', hid, rfl, hb', rfl⟩ := find_upHeap _ _ _ _ hq
      have hbq := hr.heap id b' hb'
      have hl : ∃ l, ρ1 id = some l := by
        cases b' with
        | row sz xs => rcases hbq.2 with ⟨b, c, e, k1, _⟩ | ⟨k1, _⟩ <;> exact ⟨_, k1⟩
        | mp es clock => obtain ⟨b, en, k1, _⟩ := hbq; exact ⟨_, k1⟩
      obtain ⟨l, hl⟩ := hl
      have e1 := hup id l hid hl
      rw [e1] at hb
      have : ρ1 id = some (.cel b) := by rw [hl, hb]
      exact ⟨id, b', rfl, hb', this, (hbq.lt this).2.1⟩
    rcases h1 with h1 | ⟨_, h1⟩ <;> rcases h2 with h2 | ⟨_, h2⟩
    · obtain ⟨i1, b1, rfl, f1, g1, _⟩ := new h1 r1
      obtain ⟨i2, b2, rfl, f2, g2, _⟩ := new h2 r2
      rw [hr.inj i1 i2 b1 b2 b f1 f2 g1 g2]
    · obtain ⟨_, _, _, _, _, g1⟩ := new h1 r1
      have := (old h2 r2).2
      omega
    · obtain ⟨_, _, _, _, _, g1⟩ := new h2 r2
      have := (old h1 r1).2
      omega
    · exact h.inj k k' blk blk' b h1 h2 (old h1 r1).1 (old h2 r2).1
  · intro k hk'
    simp only [ρ2]
    rw [if_neg hk'.2]
    exact h.fresh k hk'.1
  · intro b hb
    rcases hb with hb | hb
    · exact Nat.lt_of_lt_of_le (h.bound b hb) hev.size
    · exact hr.bound b hb
  · intro b hb
    exact h.may b (Nat.le_trans hev.size hb)

/-- Trees of a row's elements. -/
def C.t? : C → Option T
  | .t x => some x
  | _ => none

def tsOf : List C → Option (List T)
  | [] => some []
  | c :: r => match c.t?, tsOf r with
    | some x, some l => some (x :: l)
    | _, _ => none

def tssOf : List (List C) → Option (List (List T))
  | [] => some []
  | c :: r => match tsOf c, tssOf r with
    | some x, some l => some (x :: l)
    | _, _ => none

theorem tsOf_map : ∀ {cs : List C} {ts : List T}, tsOf cs = some ts → cs = ts.map .t
  | [], ts, h => by simp only [tsOf, Option.some.injEq] at h; subst h; rfl
  | c :: r, ts, h => by
    simp only [tsOf] at h
    split at h
    · rename_i x l hx hl
      simp only [Option.some.injEq] at h
      subst h
      have := tsOf_map hl
      cases c <;> simp [C.t?] at hx
      subst hx
      simp [this]
    · simp at h

theorem tssOf_map : ∀ {cs : List (List C)} {ts : List (List T)}, tssOf cs = some ts → cs = ts.map fun e => e.map .t
  | [], ts, h => by simp only [tssOf, Option.some.injEq] at h; subst h; rfl
  | c :: r, ts, h => by
    simp only [tssOf] at h
    split at h
    · rename_i x l hx hl
      simp only [Option.some.injEq] at h
      subst h
      simp [tssOf_map hl, tsOf_map hx]
    · simp at h

/-- A cell for a callee: a slice of an own row is lent as a tree. -/
def lendC (heap : List (Nat × Blk)) (c : C) : Option C :=
  match c with
  | .t x => some (.t x)
  | .own id sz i len =>
    match elems heap (.own id sz i len) with
    | some (sz, xs) => (tssOf xs).map fun ts => .t (.lst sz ts)
    | none => none
  | _ => none

theorem none_spec (w : World) : ∀ b : Nat, (fun _ : Nat => False) b → b < w.heap.size := fun _ h => h.elim

theorem lendC_sound (h : Rel M A ρ F st a w) {c d : C} {x : Value} (hl : lendC st.heap c = some d) (hr : RC w A ρ c x) (ρ' : Env) : RC w (fun _ => False) ρ' d x := by
  unfold lendC at hl
  split at hl
  · simp only [Option.some.injEq] at hl
    subst hl
    exact RT.keeps (w := w) ⟨Nat.le_refl _, fun b _ _ => ⟨rfl, fun h => h⟩⟩ hr
  · rename_i id sz i len
    split at hl
    · rename_i sz' xs he
      simp only [Option.map_eq_some_iff] at hl
      obtain ⟨ts, hts, rfl⟩ := hl
      have hm := tssOf_map hts
      obtain ⟨hsz, b0, cap0, hx0, hcap0⟩ := elems_len h he hr
      by_cases hne : xs = []
      · have : ts = [] := by rw [hne] at hm; cases ts <;> simp at hm; rfl
        subst this
        subst hne
        rw [hx0]
        exact .nil
      · obtain ⟨b, o, cap, rfl, hc⟩ := elems_sound h he hr hne
        simp only [Value.slice.injEq] at hx0
        obtain ⟨_, _, rfl⟩ := hx0
        have hlen : xs.length = ts.length := by rw [hm]; simp
        have hcell : ∀ (i : Nat) (e : List T) (j : Nat) (t : T), ts[i]? = some e → e[j]? = some t → ∃ y, w.cell? ⟨b, o + (i * sz' + j), none⟩ = some y ∧ RC w A ρ (.t t) y ∧ isCell y = true := by
          intro i e j t hi hj
          exact hc i (e.map .t) j (.t t) (by rw [hm]; simp [hi]) (by simp [hj])
        have hb : b < w.heap.size := by
          rcases hr with ⟨b', cap', q, e', k1, k2, k3, k4, k5⟩ | ⟨_, _, h2, h3⟩
          · simp only [Value.slice.injEq, Option.some.injEq, Addr.mk.injEq] at k2
            obtain ⟨⟨rfl, _⟩, _⟩ := k2
            rcases Nat.lt_or_ge b w.heap.size with hlt | hge
            · exact hlt
            · simp [World.shape?, Array.getElem?_eq_none hge] at k4
          · simp at h3
        have hE : RT w (fun _ => False) (.lst sz' ts) (.slice (some ⟨b, o, none⟩) xs.length cap) := by
          refine .lst (fun i j => (w.cell? ⟨b, o + (i * sz' + j), none⟩).getD undef) hlen hcap0 hb (fun h => h) (fun e he' => ?_) (fun i e j t hi hj => ?_) (fun i e j t hi hj => ?_)
          · have := hsz (e.map .t) (by rw [hm]; exact List.mem_map.2 ⟨e, he', rfl⟩)
            simpa using this
          · obtain ⟨y, hy, _⟩ := hcell i e j t hi hj
            rw [Nat.add_assoc, hy]; rfl
          · obtain ⟨y, hy, hr', _⟩ := hcell i e j t hi hj
            rw [hy]
            exact RT.keeps (w := w) ⟨Nat.le_refl _, fun b _ _ => ⟨rfl, fun h => h⟩⟩ hr'
        exact hE
    · simp at hl
  · simp at hl

def lendCs (heap : List (Nat × Blk)) : List C → Option (List C)
  | [] => some []
  | c :: r => match lendC heap c, lendCs heap r with
    | some d, some l => some (d :: l)
    | _, _ => none

def lendW (heap : List (Nat × Blk)) : W → Option W
  | .one c => (lendC heap c).map .one
  | .agg cs => (lendCs heap cs).map .agg

def lendWs (heap : List (Nat × Blk)) : List W → Option (List W)
  | [] => some []
  | c :: r => match lendW heap c, lendWs heap r with
    | some d, some l => some (d :: l)
    | _, _ => none

theorem lendCs_get {heap : List (Nat × Blk)} : ∀ {cs ds : List C}, lendCs heap cs = some ds → ds.length = cs.length ∧ ∀ (k : Nat) (d : C), ds[k]? = some d → ∃ c, cs[k]? = some c ∧ lendC heap c = some d
  | [], ds, h => by simp only [lendCs, Option.some.injEq] at h; subst h; simp
  | c :: r, ds, h => by
    simp only [lendCs] at h
    split at h
    · rename_i d l hd hl
      simp only [Option.some.injEq] at h
      subst h
      obtain ⟨h1, h2⟩ := lendCs_get hl
      refine ⟨by simp [h1], fun k e hk => ?_⟩
      cases k with
      | zero => simp only [List.getElem?_cons_zero, Option.some.injEq] at hk; subst hk; exact ⟨c, rfl, hd⟩
      | succ k => simpa using h2 k e (by simpa using hk)
    · simp at h

theorem lendWs_get {heap : List (Nat × Blk)} : ∀ {cs ds : List W}, lendWs heap cs = some ds → ds.length = cs.length ∧ ∀ (k : Nat) (d : W), ds[k]? = some d → ∃ c, cs[k]? = some c ∧ lendW heap c = some d
  | [], ds, h => by simp only [lendWs, Option.some.injEq] at h; subst h; simp
  | c :: r, ds, h => by
    simp only [lendWs] at h
    split at h
    · rename_i d l hd hl
      simp only [Option.some.injEq] at h
      subst h
      obtain ⟨h1, h2⟩ := lendWs_get hl
      refine ⟨by simp [h1], fun k e hk => ?_⟩
      cases k with
      | zero => simp only [List.getElem?_cons_zero, Option.some.injEq] at hk; subst hk; exact ⟨c, rfl, hd⟩
      | succ k => simpa using h2 k e (by simpa using hk)
    · simp at h

theorem lendW_sound (h : Rel M A ρ F st a w) {u d : W} {x : Value} (hl : lendW st.heap u = some d) (hr : RW w A ρ u x) (ρ' : Env) : RW w (fun _ => False) ρ' d x := by
  cases u with
  | one c =>
    simp only [lendW, Option.map_eq_some_iff] at hl
    obtain ⟨e, he, rfl⟩ := hl
    exact ⟨lendC_sound h he hr.1 ρ', hr.2⟩
  | agg cs =>
    simp only [lendW, Option.map_eq_some_iff] at hl
    obtain ⟨e, he, rfl⟩ := hl
    obtain ⟨vs, rfl, h2⟩ := hr
    obtain ⟨k1, k2⟩ := lendCs_get he
    refine ⟨vs, rfl, k1.trans h2.1, fun k c x hk hx => ?_⟩
    obtain ⟨c', hc', hl'⟩ := k2 k c hk
    obtain ⟨r1, r2⟩ := h2.2 k c' x hc' hx
    exact ⟨lendC_sound h hl' r1 ρ', r2⟩

/-- Arguments without references: trees alone. -/
def C.isT : C → Bool
  | .t _ => true
  | _ => false
def W.isT : W → Bool
  | .one c => c.isT
  | .agg cs => cs.all C.isT

theorem RC.isT {ρ' : Env} {c : C} {x : Value} (h : RC w A ρ c x) (hc : c.isT = true) : RC w A ρ' c x := by
  cases c <;> simp [C.isT] at hc
  exact h

theorem RW.isT {ρ' : Env} {c : W} {x : Value} (h : RW w A ρ c x) (hc : c.isT = true) : RW w A ρ' c x := by
  cases c with
  | one c => exact ⟨h.1.isT hc, h.2⟩
  | agg cs =>
    obtain ⟨vs, h1, h2⟩ := h
    refine ⟨vs, h1, h2.1, fun k c x hk hx => ⟨(h2.2 k c x hk hx).1.isT ?_, (h2.2 k c x hk hx).2⟩⟩
    exact List.all_eq_true.1 hc c (List.mem_of_getElem? hk)

/-- A call by value: the arguments are trees, or own rows are lent and the result is flat. -/
def CallTo (P : Program) (heap : List (Nat × Blk)) (nid : Nat) (f : FuncId) (args : List W) (v : V) (heap' : List (Nat × Blk)) : Prop :=
  ∃ res hout targs, Fn P f targs [] res hout ∧ v = res.up nid ∧ heap' = upHeap nid hout ++ heap ∧
    ((targs = args ∧ args.all W.isT = true) ∨ (lendWs heap args = some targs ∧ res.flat = true ∧ ∀ id blk, find hout id = some blk → blk.flat = true))

theorem CallTo.sound (h : Rel M A ρ F st a w) {nid : Nat} (hn : ∀ k, nid ≤ k → k < nid + 4 → F k) {f : FuncId} {args : List W} {v : V} {heap' : List (Nat × Blk)} {xs : Array Value}
    (hc : CallTo P st.heap nid f args v heap') (hx : RWs w A ρ args xs.toList) :
    Calls P f xs w fun e w' => ∃ x A' ρ', e = .returned x ∧ Rel M A' ρ' (Sub F nid) { st with heap := heap' } a w' ∧ RV w' A' ρ' v x ∧ Evo M w w' ∧ Ext ρ ρ' ∧ Grow A A' w := by
  obtain ⟨res, hout, targs, hfn, rfl, rfl, hmode⟩ := hc
  have hM : ∀ (ρ0 : Env), (fun b => Own ρ0 [] b ∨ w.heap.size ≤ b) = fun b => w.heap.size ≤ b := by
    intro ρ0
    funext b
    simp [Own, find]
  have empty : ∀ (A0 : Nat → Prop), (∀ b, A0 b → b < w.heap.size) → (∀ b, A0 b → A b) → HR (fun b => Own (fun _ => none) [] b ∨ w.heap.size ≤ b) A0 (fun _ => none) (From 4) [] w := by
    intro A0 hA0 hA1
    exact ⟨rfl, rfl, fun t v hv => by simp [find] at hv, fun id b hb => by simp [find] at hb, fun id id' b b' c hb => by simp [find] at hb, fun _ _ => rfl, hA0, fun b hb => .inr hb, h.glob.sub (fun b hb hm => hm.elim (fun ho => by obtain ⟨_, _, hf, _⟩ := ho; simp [find] at hf) (fun hl => by omega)) hA1⟩
  rcases hmode with ⟨rfl, hT⟩ | ⟨hl, hf1, hf2⟩
  · have hx' : RWs w A (fun _ => none) targs xs.toList := ⟨hx.1, fun k u x hu hxx => (hx.2 k u x hu hxx).isT (List.all_eq_true.1 hT u (List.mem_of_getElem? hu))⟩
    refine (hfn w A (fun _ => none) xs (empty A h.bound (fun _ h => h)) hx').mono ?_
    rintro e w' ⟨x, A1, ρ1, F1, rfl, hv, hr, hev, _, hg⟩
    rw [hM] at hr hev
    obtain ⟨A2, ρ2, r1, r2, r3, r4, r5⟩ := h.import hn hev hr hg.2 hv (.inl hg.1)
    exact ⟨x, A2, ρ2, rfl, r1, r2, r3, r4, r5⟩
  · obtain ⟨k1, k2⟩ := lendWs_get hl
    have hx' : RWs w (fun _ => False) (fun _ => none) targs xs.toList := ⟨k1.trans hx.1, fun k u x hu hxx => by
      obtain ⟨c, hc, hlc⟩ := k2 k u hu
      exact lendW_sound h hlc (hx.2 k c x hc hxx) _⟩
    refine (hfn w (fun _ => False) (fun _ => none) xs (empty _ (fun _ h => h.elim) (fun _ h => h.elim)) hx').mono ?_
    rintro e w' ⟨x, A1, ρ1, F1, rfl, hv, hr, hev, _, hg⟩
    rw [hM] at hr hev
    obtain ⟨A2, ρ2, r1, r2, r3, r4, r5⟩ := h.import hn hev hr (fun b hb hA => (hg.2 b hb hA).elim) hv (.inr ⟨hf1, hf2⟩)
    exact ⟨x, A2, ρ2, rfl, r1, r2, r3, r4, r5⟩

end Go.Abs
