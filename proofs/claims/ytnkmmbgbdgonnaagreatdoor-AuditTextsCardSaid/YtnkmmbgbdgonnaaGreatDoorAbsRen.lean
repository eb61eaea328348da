import Derived.Test.YtnkmmbgbdgonnaaGreatDoorAbsCall
namespace Go.Abs
open Go

def C.ren (f : Nat → Option Nat) : C → C
  | .own id sz i len => match f id with
    | some k => .own k sz i len
    | none => .any
  | .ptr id sz i j => match f id with
    | some k => .ptr k sz i j
    | none => .any
  | .clo g caps => if caps.all (fun p => (f p.1).isSome) then .clo g (caps.map fun p => ((f p.1).getD 0, p.2)) else .any
  | .map id => match f id with
    | some k => .map k
    | none => .any
  | .it _ => .any
  | c => c

def W.ren (f : Nat → Option Nat) : W → W
  | .one c => .one (c.ren f)
  | .agg cs => .agg (cs.map (C.ren f))

def V.ren (f : Nat → Option Nat) : V → V
  | .w u => .w (u.ren f)
  | .tup ws => .tup (ws.map (W.ren f))
  | .undef => .undef

def Blk.ren (f : Nat → Option Nat) : Blk → Blk
  | .row sz xs => .row sz (xs.map fun e => e.map (C.ren f))
  | .mp es clock => .mp (es.map fun p => (p.1, p.2.1.ren f, p.2.2)) clock

/-- What is kept of a state: temporaries by their numbers, blocks by old and new id; the ids from ctr on are free. -/
structure Ren where
  keys : List Nat
  ids : List (Nat × Nat)
  ctr : Nat

def Ren.all (S : Ren) : List (Nat × Nat) := (0, 0) :: (1, 1) :: (2, 2) :: (3, 3) :: S.ids
def swp (l : List (Nat × Nat)) : List (Nat × Nat) := l.map fun p => (p.2, p.1)
def Ren.f (S : Ren) (id : Nat) : Option Nat := find S.all id
def Ren.ok (S : Ren) : Bool := S.all.all fun p => find (swp S.all) p.2 == some p.1 && find S.all p.1 == some p.2 && decide (p.2 < S.ctr)

def Ren.tm (S : Ren) (tm : List (Nat × V)) : List (Nat × V) := S.keys.filterMap fun t => (find tm t).map fun v => (t, v.ren S.f)
def Ren.hp (S : Ren) (hp : List (Nat × Blk)) : List (Nat × Blk) := S.all.filterMap fun p => (find hp p.1).map fun b => (p.2, b.ren S.f)

variable {P : Program} {M A : Nat → Prop} {ρ : Env} {F : Nat → Prop} {st : St} {a : Act} {w : World}

theorem RC.ren {ρ2 : Env} {f : Nat → Option Nat} {c : C} {x : Value} (h : RC w A ρ c x) (hρ : ∀ id k l, f id = some k → ρ id = some l → ρ2 k = some l) : RC w A ρ2 (c.ren f) x := by
  cases c with
  | t y => exact h
  | own id sz i len =>
    simp only [C.ren]
    split
    · rename_i k hk
      rcases h with ⟨b, cap, q, e, h1, h2⟩ | ⟨h1, h2⟩
      · exact .inl ⟨b, cap, q, e, hρ _ _ _ hk h1, h2⟩
      · exact .inr ⟨hρ _ _ _ hk h1, h2⟩
    · trivial
  | ptr id sz i j =>
    simp only [C.ren]
    split
    · rename_i k hk
      obtain ⟨b, h1, h2⟩ := h
      exact ⟨b, hρ _ _ _ hk h1, h2⟩
    · trivial
  | roe e j => exact h
  | clo g caps =>
    simp only [C.ren]
    split
    · rename_i hall
      obtain ⟨vs, h1, h2, h3⟩ := h
      refine ⟨vs, h1, by simpa using h2, fun k id sz i j y hk hy => ?_⟩
      simp only [List.getElem?_map, Option.map_eq_some_iff, Prod.mk.injEq] at hk
      obtain ⟨⟨id', r⟩, hk', hid, hr⟩ := hk
      simp only at hid hr
      subst hr
      have hs : (f id').isSome = true := by
        have := List.all_eq_true.1 hall _ (List.mem_of_getElem? hk')
        simpa using this
      obtain ⟨q, hq⟩ := Option.isSome_iff_exists.1 hs
      rw [hq] at hid
      simp only [Option.getD_some] at hid
      subst hid
      obtain ⟨b, k1, k2⟩ := h3 k id' sz i j y hk' hy
      exact ⟨b, hρ _ _ _ hq k1, k2⟩
    · trivial
  | map id =>
    simp only [C.ren]
    split
    · rename_i k hk
      obtain ⟨b, h1, h2⟩ := h
      exact ⟨b, hρ _ _ _ hk h1, h2⟩
    · trivial
  | it => trivial
  | bnd f g ts => exact h
  | any => trivial

theorem RCs.ren {ρ2 : Env} {f : Nat → Option Nat} {cs : List C} {vs : Array Value} (h : RCs w A ρ cs vs) (hρ : ∀ id k l, f id = some k → ρ id = some l → ρ2 k = some l) : RCs w A ρ2 (cs.map (C.ren f)) vs := by
  refine ⟨by simpa using h.1, fun k c x hk hx => ?_⟩
  simp only [List.getElem?_map, Option.map_eq_some_iff] at hk
  obtain ⟨d, hd, rfl⟩ := hk
  obtain ⟨h1, h2⟩ := h.2 k d x hd hx
  exact ⟨h1.ren hρ, h2⟩

theorem RW.ren {ρ2 : Env} {f : Nat → Option Nat} {u : W} {x : Value} (h : RW w A ρ u x) (hρ : ∀ id k l, f id = some k → ρ id = some l → ρ2 k = some l) : RW w A ρ2 (u.ren f) x := by
  cases u with
  | one c => exact ⟨h.1.ren hρ, h.2⟩
  | agg cs => obtain ⟨vs, h1, h2⟩ := h; exact ⟨vs, h1, h2.ren hρ⟩

theorem RV.ren {ρ2 : Env} {f : Nat → Option Nat} {u : V} {x : Value} (h : RV w A ρ u x) (hρ : ∀ id k l, f id = some k → ρ id = some l → ρ2 k = some l) : RV w A ρ2 (u.ren f) x := by
  cases u with
  | w y => exact RW.ren h hρ
  | tup ws =>
    obtain ⟨vs, h1, h2, h3⟩ := h
    refine ⟨vs, h1, by simpa using h2, fun k u x hk hx => ?_⟩
    simp only [List.getElem?_map, Option.map_eq_some_iff] at hk
    obtain ⟨d, hd, rfl⟩ := hk
    exact (h3 k d x hd hx).ren hρ
  | undef => trivial

theorem mem_of_find {α : Type} : ∀ {l : List (Nat × α)} {k : Nat} {v : α}, find l k = some v → (k, v) ∈ l
  | [], k, v, h => by simp [find] at h
  | (q, u) :: r, k, v, h => by
    simp only [find_cons] at h
    split at h
    · rename_i e
      simp only [Option.some.injEq] at h
      subst e
      subst h
      exact List.mem_cons_self
    · exact List.mem_cons_of_mem _ (mem_of_find h)

theorem Ren.ok_spec {S : Ren} (h : S.ok = true) {o n : Nat} (hm : (o, n) ∈ S.all) : find (swp S.all) n = some o ∧ find S.all o = some n ∧ n < S.ctr := by
  have := List.all_eq_true.1 h _ hm
  simp only [Bool.and_eq_true, beq_iff_eq, decide_eq_true_eq] at this
  exact ⟨this.1.1, this.1.2, this.2⟩

theorem Rel.ren (h : Rel M A ρ F st a w) {S : Ren} (hok : S.ok = true) : ∃ ρ2, Rel M A ρ2 (From S.ctr) ⟨st.n, S.tm st.tmps, S.hp st.heap⟩ a w ∧ Ext4 ρ ρ2 := by
  let ρ2 : Env := fun k => (find (swp S.all) k).bind ρ
  have hρ : ∀ id k l, S.f id = some k → ρ id = some l → ρ2 k = some l := by
    intro id k l hf hl
    have := (Ren.ok_spec hok (mem_of_find hf)).1
    simp only [ρ2, this, Option.bind_some, hl]
  have hfind : ∀ {k : Nat} {b : Blk}, find (S.hp st.heap) k = some b → ∃ o b', (o, k) ∈ S.all ∧ find st.heap o = some b' ∧ b = b'.ren S.f ∧ ρ2 k = ρ o := by
    intro k b hk
    have hm := mem_of_find hk
    simp only [Ren.hp, List.mem_filterMap, Option.map_eq_some_iff, Prod.mk.injEq] at hm
    obtain ⟨⟨o, n⟩, hon, b', hb', rfl, rfl⟩ := hm
    refine ⟨o, b', hon, hb', rfl, ?_⟩
    simp only [ρ2, (Ren.ok_spec hok hon).1, Option.bind_some]
  refine ⟨ρ2, ⟨h.size, h.defers, fun t v hv => ?_, fun k b hk => ?_, fun k k' b b' q h1 h2 r1 r2 => ?_, fun k hk => ?_, h.bound, h.may, h.glob⟩, fun id l hid hl => ?_⟩
  · have hm := mem_of_find hv
    simp only [Ren.tm, List.mem_filterMap, Option.map_eq_some_iff, Prod.mk.injEq] at hm
    obtain ⟨t', _, u, hu, rfl, rfl⟩ := hm
    exact (h.tmps _ u hu).ren hρ
  · obtain ⟨o, b', hon, hb', rfl, hr⟩ := hfind hk
    have hb := h.heap o b' hb'
    cases b' with
    | row sz xs =>
      obtain ⟨q1, q2⟩ := hb
      refine ⟨fun e he => ?_, ?_⟩
      · simp only [List.mem_map] at he
        obtain ⟨e', he', rfl⟩ := he
        simpa using q1 e' he'
      · rcases q2 with ⟨b, c, e, k1, k2, k3, k4, k5, k6⟩ | ⟨k1, k2⟩
        · refine .inl ⟨b, c, e, by rw [hr, k1], k2, k3, k4, by simpa using k5, fun i el j q hi hj => ?_⟩
          simp only [List.getElem?_map, Option.map_eq_some_iff] at hi
          obtain ⟨el', hel', rfl⟩ := hi
          simp only [List.getElem?_map, Option.map_eq_some_iff] at hj
          obtain ⟨q', hq', rfl⟩ := hj
          obtain ⟨y, hy, hr', h1⟩ := k6 i el' j q' hel' hq'
          exact ⟨y, hy, hr'.ren hρ, h1⟩
        · exact .inr ⟨by rw [hr, k1], by rw [k2]; rfl⟩
    | mp es clock =>
      obtain ⟨b, en, k1, k2, k3, k4, k5, k6⟩ := hb
      refine ⟨b, en, by rw [hr, k1], k2, k3, k4, by simpa using k5, fun i k c n hi => ?_⟩
      simp only [List.getElem?_map, Option.map_eq_some_iff] at hi
      obtain ⟨⟨k', c', n'⟩, hi', he⟩ := hi
      simp only [Prod.mk.injEq] at he
      obtain ⟨rfl, rfl, rfl⟩ := he
      obtain ⟨e, h1, h2, h3, h4, h5⟩ := k6 i k' c' n' hi'
      exact ⟨e, h1, h2, h3, h4.ren hρ, h5⟩
  · obtain ⟨o, b1, hon, hb1, _, e1⟩ := hfind h1
    obtain ⟨o', b2, hon', hb2, _, e2⟩ := hfind h2
    rw [e1] at r1
    rw [e2] at r2
    have := h.inj o o' b1 b2 q hb1 hb2 r1 r2
    subst this
    have g1 := (Ren.ok_spec hok hon).2.1
    have g2 := (Ren.ok_spec hok hon').2.1
    rw [g1] at g2
    simpa using g2
  · simp only [ρ2]
    cases hf : find (swp S.all) k with
    | none => rfl
    | some o =>
      exfalso
      have hm := mem_of_find hf
      simp only [swp, List.mem_map, Prod.mk.injEq] at hm
      obtain ⟨⟨o', n⟩, hon, rfl, rfl⟩ := hm
      have := (Ren.ok_spec hok hon).2.2
      simp only [From] at hk
      omega
  · refine hρ id id l ?_ hl
    have : id = 0 ∨ id = 1 ∨ id = 2 ∨ id = 3 := by omega
    rcases this with rfl | rfl | rfl | rfl <;> rfl

end Go.Abs
