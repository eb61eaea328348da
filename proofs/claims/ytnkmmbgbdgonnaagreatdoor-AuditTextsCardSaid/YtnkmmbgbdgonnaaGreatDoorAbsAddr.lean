import Derived.Test.YtnkmmbgbdgonnaaGreatDoorAbsMemB
namespace Go.Abs
open Go

variable {P : Program} {M A : Nat → Prop} {ρ : Env} {F : Nat → Prop} {st : St} {a : Act} {w : World}

def C.shift : C → Nat → Option C
  | .ptr id sz i j, n => some (.ptr id sz i (j + n))
  | .roe e j, n => some (.roe e (j + n))
  | _, _ => none

theorem C.shift_sound {c d : C} {n : Nat} {x : Value} (h : c.shift n = some d) (hr : RC w A ρ c x) :
    ∃ b o, x = .pointer (some ⟨b, o, none⟩) ∧ RC w A ρ d (.pointer (some ⟨b, o + n, none⟩)) := by
  cases c with
  | ptr id sz i j =>
    simp only [C.shift, Option.some.injEq] at h
    subst h
    obtain ⟨b, h1, rfl⟩ := hr
    exact ⟨b, _, rfl, b, h1, by rw [Nat.add_assoc]⟩
  | roe e j =>
    simp only [C.shift, Option.some.injEq] at h
    subst h
    obtain ⟨b, o, f, rfl, h1, h2, h3⟩ := hr
    exact ⟨b, _, rfl, b, o, f, by rw [Nat.add_assoc], h1, h2, h3⟩
  | _ => simp [C.shift] at h

def evalFieldAddr (P : Program) (s : TypeId) (v : V) (f : Nat) : Option V :=
  match v with
  | .w (.one c) =>
    match P.underlying s with
    | some (.struct fields) =>
      match fields[f]? with
      | some fd =>
        match sizeT P fd.type with
        | some (_ + 1) => (c.shift fd.offset).map fun d => .w (.one d)
        | _ => none
      | none => none
    | _ => none
  | _ => none

theorem evalFieldAddr_sound {s : TypeId} {v u : V} {f : Nat} {x : Value} (he : evalFieldAddr P s v f = some u) (hv : RV w A ρ v x) :
    ∃ y, (Instr.fieldAt s x f).run P w = .ok y w ∧ RV w A ρ u y := by
  unfold evalFieldAddr at he
  split at he
  · split at he
    · rename_i fields hu
      split at he
      · rename_i fd hfd
        split at he
        · rename_i n hn
          simp only [Option.map_eq_some_iff] at he
          obtain ⟨d, hd, rfl⟩ := he
          obtain ⟨b, o, rfl, hr⟩ := C.shift_sound hd hv.1
          refine ⟨_, ?_, hr, rfl⟩
          simp [Instr.fieldAt, run_underlying hu, hfd, Instr.sureAddr, fieldPlace, run_sizeOf hn, Addr.add_lit]
        · simp at he
      · simp at he
    · simp at he
  · simp at he

def V.int? : V → Option (IntKind × Int)
  | .w (.one (.t (.val (.int k n)))) => some (k, n)
  | _ => none

theorem V.int?_spec {v : V} {k : IntKind} {n : Int} {x : Value} (h : v.int? = some (k, n)) (hr : RV w A ρ v x) : x = .int k n := by
  unfold V.int? at h
  split at h
  · simp only [Option.some.injEq, Prod.mk.injEq] at h
    obtain ⟨rfl, rfl⟩ := h
    cases hr.1
    rfl
  · simp at h

/-- The address of an element of a slice: i in Int, within the length. -/
def elemAt (c : C) (n : Int) (size : Nat) : Option C :=
  match c with
  | .own id sz i len => if sz = size ∧ 0 ≤ n ∧ n < len then some (.ptr id sz (i + n.toNat) 0) else none
  | .t (.lst sz xs) => if sz = size ∧ 0 ≤ n ∧ n < xs.length then (xs[n.toNat]?).map fun e => .roe e 0 else none
  | _ => none

theorem elemAt_sound {c d : C} {n : Int} {size : Nat} {x : Value} (h : elemAt c n size = some d) (hr : RC w A ρ c x) :
    ∃ b o len cap, x = .slice (some ⟨b, o, none⟩) len cap ∧ 0 ≤ n ∧ n < len ∧ RC w A ρ d (.pointer (some ⟨b, o + n.toNat * size, none⟩)) := by
  unfold elemAt at h
  split at h
  · rename_i id sz i len
    split at h
    · rename_i hc
      obtain ⟨rfl, h0, h1⟩ := hc
      simp only [Option.some.injEq] at h
      subst h
      rcases hr with ⟨b, cap, q, e, k1, rfl, k3, k4, k5⟩ | ⟨_, _, rfl, _⟩
      · exact ⟨b, _, len, cap, rfl, h0, h1, b, k1, by rw [Nat.add_mul]; simp⟩
      · omega
    · simp at h
  · rename_i sz xs
    split at h
    · rename_i hc
      obtain ⟨rfl, h0, h1⟩ := hc
      simp only [Option.map_eq_some_iff] at h
      obtain ⟨e, he, rfl⟩ := h
      cases hr with
      | nil => simp at he
      | lst f hl hcap hb hA hsz hcl hrr =>
        rename_i b off len cap
        refine ⟨b, off, len, cap, rfl, h0, by rw [hl]; exact h1, b, off + n.toNat * sz, f n.toNat, by simp, hb, hA, fun k c hk => ⟨?_, hrr _ e k c he hk⟩⟩
        exact hcl _ e k c he hk
    · simp at h
  · simp at h

def evalIndexAddr (P : Program) (t : TypeId) (v i : V) : Option V :=
  match v, i.int? with
  | .w (.one c), some (_, n) =>
    match P.underlying t with
    | some (.slice elem) =>
      match sizeT P elem with
      | some size => (elemAt c n size).map fun d => .w (.one d)
      | none => none
    | some (.array len elem) =>
      match sizeT P elem with
      | some size => if 0 ≤ n ∧ n < len then (c.shift (n.toNat * size)).map fun d => .w (.one d) else none
      | none => none
    | _ => none
  | _, _ => none

theorem evalIndexAddr_sound {t : TypeId} {v i u : V} {x y : Value} (he : evalIndexAddr P t v i = some u) (hv : RV w A ρ v x) (hi : RV w A ρ i y) :
    ∃ z, (Instr.indexAt t x y).run P w = .ok z w ∧ RV w A ρ u z := by
  unfold evalIndexAddr at he
  split at he
  · rename_i c k n hn
    have hy := V.int?_spec hn hi
    subst hy
    split at he
    · rename_i elem hu
      split at he
      · rename_i size hs
        simp only [Option.map_eq_some_iff] at he
        obtain ⟨d, hd, rfl⟩ := he
        obtain ⟨b, o, len, cap, rfl, h0, h1, hr⟩ := elemAt_sound hd hv.1
        refine ⟨_, ?_, hr, rfl⟩
        simp [Instr.indexAt, asIntOf, run_underlying hu, run_sizeOf hs, h0, h1, Addr.add_lit]
      · simp at he
    · rename_i len elem hu
      split at he
      · rename_i size hs
        split at he
        · rename_i hc
          simp only [Option.map_eq_some_iff] at he
          obtain ⟨d, hd, rfl⟩ := he
          obtain ⟨b, o, rfl, hr⟩ := C.shift_sound hd hv.1
          refine ⟨_, ?_, hr, rfl⟩
          simp [Instr.indexAt, asIntOf, run_underlying hu, run_sizeOf hs, Instr.sureAddr, hc.1, hc.2, Addr.add_lit]
        · simp at he
      · simp at he
    · simp at he
  · simp at he

def evalField (P : Program) (t : TypeId) (v : V) (f : Nat) : Option V :=
  match v with
  | .w (.agg cs) =>
    match P.underlying t with
    | some (.struct fields) =>
      match fields[f]? with
      | some fd => (pickAt P fd.type cs fd.offset).map .w
      | none => none
    | _ => none
  | _ => none

theorem part_sound {t : TypeId} {cs : List C} {off : Nat} {u : W} {vs : Array Value} (hp : pickAt P t cs off = some u) (hr : RCs w A ρ cs vs) :
    ∃ x, (part t vs off).run P w = .ok x w ∧ RW w A ρ u x := by
  unfold pickAt at hp
  split at hp
  · rename_i hagg
    split at hp
    · rename_i n hn
      split at hp
      · rename_i hle
        simp only [Option.some.injEq] at hp
        subst hp
        refine ⟨.agg (vs.extract off (off + n)), by simp [part, run_isAgg hagg, run_sizeOf hn], _, rfl, by simp; have := hr.1; omega, fun k c x hk hx => ?_⟩
        have hkn : k < n := by
          have := (List.getElem?_eq_some_iff.1 hk).1
          simp at this
          omega
        have hk' : cs[off + k]? = some c := by simpa [List.getElem?_take, hkn] using hk
        have hx' : vs[off + k]? = some x := by
          have hsz : off + k < vs.size := by have := hr.1; omega
          have := Array.getElem?_extract (xs := vs) (start := off) (stop := off + n) (i := k)
          rw [this] at hx
          split at hx
          · exact hx
          · simp at hx
        exact hr.2 _ c x hk' hx'
      · simp at hp
    · simp at hp
  · rename_i hagg
    simp only [Option.map_eq_some_iff] at hp
    obtain ⟨d, hd, rfl⟩ := hp
    have hl : off < vs.size := by rw [← hr.1]; exact (List.getElem?_eq_some_iff.1 hd).1
    have hx : vs[off]? = some vs[off] := by simp [hl]
    have := hr.2 off d _ hd hx
    exact ⟨vs[off], by simp [part, run_isAgg hagg, hl], this⟩
  · simp at hp

theorem evalField_sound {t : TypeId} {v u : V} {f : Nat} {x : Value} (he : evalField P t v f = some u) (hv : RV w A ρ v x) :
    ∃ y, (Instr.field t x f).run P w = .ok y w ∧ RV w A ρ u y := by
  unfold evalField at he
  split at he
  · split at he
    · rename_i fields hu
      split at he
      · rename_i fd hfd
        simp only [Option.map_eq_some_iff] at he
        obtain ⟨d, hd, rfl⟩ := he
        obtain ⟨vs, rfl, hr⟩ := hv
        obtain ⟨y, hy, hr'⟩ := part_sound (P := P) hd hr
        exact ⟨y, by simp [Instr.field, run_underlying hu, hfd, asAgg, hy], hr'⟩
      · simp at he
    · simp at he
  · simp at he

/-- A part of a slice, within its length. -/
def cutC (c : C) (l h : Nat) : Option C :=
  match c with
  | .own id sz i len => if h = l ∧ l ≠ 0 then some (.t (.lst sz [])) else if l ≤ h ∧ h ≤ len then some (.own id sz (i + l) (h - l)) else none
  | .t (.lst sz xs) => if l ≤ h ∧ h ≤ xs.length then some (.t (.lst sz ((xs.drop l).take (h - l)))) else none
  | _ => none

def C.len? : C → Option Nat
  | .own _ _ _ len => some len
  | .t (.lst _ xs) => some xs.length
  | .t (.val (.slice none 0 0)) => some 0
  | _ => none

def C.sz? : C → Option Nat
  | .own _ sz _ _ => some sz
  | .t (.lst sz _) => some sz
  | _ => none

theorem C.len?_spec {c : C} {n : Nat} {x : Value} (h : c.len? = some n) (hr : RC w A ρ c x) : ∃ b cap, x = .slice b n cap ∧ n ≤ cap := by
  unfold C.len? at h
  split at h
  · simp only [Option.some.injEq] at h
    subst h
    rcases hr with ⟨b, cap, q, e, k1, rfl, k3, k4, k5⟩ | ⟨_, _, rfl, rfl⟩
    · exact ⟨_, _, rfl, k3⟩
    · exact ⟨_, _, rfl, Nat.le_refl _⟩
  · simp only [Option.some.injEq] at h
    subst h
    cases hr with
    | nil => exact ⟨_, _, rfl, by simp⟩
    | lst f hl hcap hb hA hsz hc hrr => exact ⟨_, _, by rw [hl], by rw [← hl]; exact hcap⟩
  · simp only [Option.some.injEq] at h
    subst h
    cases hr
    exact ⟨_, _, rfl, Nat.le_refl _⟩
  · simp at h

/-- A bound of a slice expression: absent, or an int. -/
def bound? (v : Option V) (d : Nat) : Option Nat :=
  match v with
  | none => some d
  | some v => match v.int? with
    | some (_, n) => if 0 ≤ n then some n.toNat else none
    | none => none

def evalSlice (P : Program) (t : TypeId) (v : V) (lo hi : Option V) : Option V :=
  match v with
  | .w (.one c) =>
    match P.underlying t, c.len? with
    | some (.slice elem), some len =>
      match bound? lo 0, bound? hi len, sizeT P elem with
      | some l, some h, some size => if l ≤ h ∧ h ≤ len ∧ c.sz? = some size then (cutC c l h).map fun d => .w (.one d) else none
      | _, _, _ => none
    | _, _ => none
  | _ => none

theorem cutC_sound {c d : C} {l h len cap size : Nat} {b : Option Addr} (hd : cutC c l h = some d) (hs : c.sz? = some size) (hlh : l ≤ h) (hhl : h ≤ len) (hcap : len ≤ cap)
    (hr : RC w A ρ c (.slice b len cap)) : RC w A ρ d (.slice (if cap = l then b else b.map (·.add (l * size))) (h - l) (cap - l)) := by
  unfold cutC at hd
  split at hd
  · rename_i id sz i len'
    simp only [C.sz?, Option.some.injEq] at hs
    subst hs
    split at hd
    · rename_i e
      obtain ⟨e, _⟩ := e
      subst e
      simp only [Option.some.injEq] at hd
      subst hd
      simp only [Nat.sub_self]
      exact .nil
    · rename_i hne
      split at hd
      · rename_i hc
        simp only [Option.some.injEq] at hd
        subst hd
        by_cases hl0 : l = 0
        · subst hl0
          rcases hr with ⟨b', cap', q, e, k1, k2, k3, k4, k5⟩ | ⟨h0, hi0, h2, h3⟩
          · simp only [Value.slice.injEq] at k2
            obtain ⟨rfl, rfl, rfl⟩ := k2
            refine .inl ⟨b', cap, q, e, k1, ?_, by omega, k4, by simpa using k5⟩
            by_cases hc0 : cap = 0
            · simp [hc0]
            · simp [hc0, Addr.add_lit]
          · simp only [Value.slice.injEq] at h3
            obtain ⟨rfl, rfl, rfl⟩ := h3
            refine .inr ⟨h0, by omega, by omega, ?_⟩
            have : h = 0 := by omega
            subst this
            simp
        rcases hr with ⟨b', cap', q, e, k1, k2, k3, k4, k5⟩ | ⟨_, _, h2, h3⟩
        · simp only [Value.slice.injEq] at k2
          obtain ⟨rfl, rfl, rfl⟩ := k2
          have hne2 : ¬ cap = l := by omega
          rw [if_neg hne2]
          refine .inl ⟨b', cap - l, q, e, k1, ?_, by omega, k4, ?_⟩
          · simp [Addr.add_lit, Nat.add_mul]
          · have : (cap - l) * sz + l * sz = cap * sz := by rw [← Nat.add_mul]; congr 1; omega
            rw [Nat.add_mul]
            omega
        · simp only [Value.slice.injEq] at h3
          omega
      · simp at hd
  · rename_i sz xs
    simp only [C.sz?, Option.some.injEq] at hs
    subst hs
    split at hd
    · rename_i hc
      simp only [Option.some.injEq] at hd
      subst hd
      by_cases hz : h - l = 0
      · rw [hz]
        simp only [List.take_zero]
        exact .nil
      · cases hr with
        | nil => simp at hc; omega
        | lst f hl hcap' hb hA hsz hcl hrr =>
          rename_i b' off
          have hne2 : ¬ cap = l := by omega
          rw [if_neg hne2]
          simp only [Option.map_some, Addr.add_lit]
          refine .lst (fun i j => f (l + i) j) (by simp; omega) (by omega) hb hA (fun e he => hsz e (List.mem_of_mem_drop (List.mem_of_mem_take he))) (fun i e j c hi hj => ?_) (fun i e j c hi hj => ?_)
          · have hil : i < h - l := by
              have := (List.getElem?_eq_some_iff.1 hi).1
              simp at this; omega
            have hi' : xs[l + i]? = some e := by simpa [List.getElem?_take, hil] using hi
            have := hcl (l + i) e j c hi' hj
            rw [Nat.add_mul] at this
            rw [show off + l * sz + i * sz + j = off + (l * sz + i * sz) + j by omega]
            exact this
          · have hil : i < h - l := by
              have := (List.getElem?_eq_some_iff.1 hi).1
              simp at this; omega
            have hi' : xs[l + i]? = some e := by simpa [List.getElem?_take, hil] using hi
            exact hrr (l + i) e j c hi' hj
    · simp at hd
  · simp at hd

theorem bound?_spec {v : Option V} {x : Option Value} {d n : Nat} (h : bound? v d = some n) (hr : ∀ u, v = some u → ∃ y, x = some y ∧ RV w A ρ u y) (hn : v = none → x = none) :
    (x = none ∧ n = d) ∨ ∃ k, x = some (.int k n) := by
  unfold bound? at h
  split at h
  · simp only [Option.some.injEq] at h
    exact .inl ⟨hn rfl, h.symm⟩
  · rename_i u
    split at h
    · rename_i k m hm
      split at h
      · rename_i h0
        simp only [Option.some.injEq] at h
        obtain ⟨y, rfl, hy⟩ := hr u rfl
        have := V.int?_spec hm hy
        subst this
        refine .inr ⟨k, ?_⟩
        rw [← h, Int.toNat_of_nonneg h0]
      · simp at h
    · simp at h

theorem evalSlice_sound {t : TypeId} {v u : V} {lo hi : Option V} {x : Value} {lo' hi' : Option Value} (he : evalSlice P t v lo hi = some u) (hv : RV w A ρ v x)
    (hlo : ∀ u, lo = some u → ∃ y, lo' = some y ∧ RV w A ρ u y) (hlo0 : lo = none → lo' = none)
    (hhi : ∀ u, hi = some u → ∃ y, hi' = some y ∧ RV w A ρ u y) (hhi0 : hi = none → hi' = none) :
    ∃ z, (Instr.sliceAt t x lo' hi' none).run P w = .ok z w ∧ RV w A ρ u z := by
  unfold evalSlice at he
  split at he
  · rename_i c
    split at he
    · rename_i elem len hu hl
      split at he
      · rename_i l h size h1 h2 hs
        split at he
        · rename_i hc
          obtain ⟨c1, c2, c3⟩ := hc
          simp only [Option.map_eq_some_iff] at he
          obtain ⟨d, hd, rfl⟩ := he
          obtain ⟨b, cap, rfl, hcap⟩ := C.len?_spec hl hv.1
          have hr := cutC_sound hd c3 c1 c2 hcap hv.1
          refine ⟨_, ?_, hr, rfl⟩
          have hb1 := bound?_spec h1 hlo hlo0
          have hb2 := bound?_spec h2 hhi hhi0
          have hlc : h ≤ cap := Nat.le_trans c2 hcap
          have i1 : (l : Int) ≤ (h : Int) := by omega
          have i2 : (h : Int) ≤ (cap : Int) := by omega
          rcases hb1 with ⟨rfl, rfl⟩ | ⟨k1, rfl⟩ <;> rcases hb2 with ⟨rfl, rfl⟩ | ⟨k2, rfl⟩ <;>
            simp [Instr.sliceAt, Instr.slice, run_underlying hu, Instr.sliceBounds, Instr.sliceBound, asIntOf, run_sizeOf hs, hlc, c1]
        · simp at he
      · simp at he
    · simp at he
  · simp at he

end Go.Abs
