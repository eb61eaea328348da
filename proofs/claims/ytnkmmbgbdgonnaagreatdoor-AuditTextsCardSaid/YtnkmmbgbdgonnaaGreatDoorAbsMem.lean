import Derived.Test.YtnkmmbgbdgonnaaGreatDoorAbsPure
namespace Go.Abs
open Go

def updE (ρ : Env) (id : Nat) (l : Loc) : Env := fun k => if k = id then some l else ρ k

theorem Ext.upd {ρ : Env} {id : Nat} {l : Loc} (h : ρ id = none) : Ext ρ (updE ρ id l) := by
  intro k m hk
  simp only [updE]
  split
  · rename_i e; subst e; simp [h] at hk
  · exact hk

variable {P : Program} {M A : Nat → Prop} {ρ : Env} {F : Nat → Prop} {st : St} {a : Act} {w : World}

theorem HB.lt {id : Nat} {blk : Blk} {b : Nat} (h : HB w M A ρ id blk) (hρ : ρ id = some (.cel b)) : b < w.heap.size ∧ M b ∧ A b := by
  cases blk with
  | row sz xs =>
    rcases h.2 with ⟨b', c, e, k1, k2, k3, k4, k5, k6⟩ | ⟨h2, _⟩
    · rw [hρ] at k1
      simp only [Option.some.injEq, Loc.cel.injEq] at k1
      subst k1
      refine ⟨?_, k2, k3⟩
      rcases Nat.lt_or_ge b w.heap.size with hl | hg
      · exact hl
      · simp [Array.getElem?_eq_none hg] at k4
    · simp [hρ] at h2
  | mp es clock =>
    obtain ⟨b', en, k1, k2, k3, k4, k5, k6⟩ := h
    rw [hρ] at k1
    simp only [Option.some.injEq, Loc.cel.injEq] at k1
    subst k1
    refine ⟨?_, k2, k3⟩
    rcases Nat.lt_or_ge b w.heap.size with hl | hg
    · exact hl
    · simp [Array.getElem?_eq_none hg] at k4

theorem keeps_alloc (o : Obj) : Keeps A (fun b => A b ∨ b = w.heap.size) w (w.alloc o) :=
  ⟨by simp, fun b hlt hn => ⟨RowKit.Below.heap_alloc w o b hlt, fun h => h.elim hn (fun e => by omega)⟩⟩

theorem shape_alloc (o : Obj) (k : Nat) (hk : k < w.heap.size) : (w.alloc o).shape? k = w.shape? k := (Evo.alloc (fun _ => False) w o).shape k hk

/-- A new row under the id nid. -/
theorem Rel.alloc (h : Rel M A ρ F st a w) {nid : Nat} (hn : F nid) {sz : Nat} {xs : List (List C)} {c : Array Value} {e : TypeId}
    (hsz : ∀ el, el ∈ xs → el.length = sz) (hlen : xs.length * sz ≤ c.size)
    (hc : ∀ (i : Nat) (el : List C) (j : Nat) (k : C), xs[i]? = some el → el[j]? = some k → ∃ x, c[i * sz + j]? = some x ∧ RC w A ρ k x ∧ isCell x = true) :
    Rel M (fun b => A b ∨ b = w.heap.size) (updE ρ nid (.cel w.heap.size)) (Sub F nid) { st with heap := (nid, .row sz xs) :: st.heap } a (w.alloc (.cells c e)) ∧
      Ext ρ (updE ρ nid (.cel w.heap.size)) := by
  have hρ := h.fresh nid hn
  have hext : Ext ρ (updE ρ nid (.cel w.heap.size)) := Ext.upd hρ
  have hk := keeps_alloc (A := A) (w := w) (.cells c e)
  have hs := shape_alloc (w := w) (.cells c e)
  have hnew : (w.alloc (.cells c e)).heap[w.heap.size]? = some (.cells c e (0, 0)) := heap_alloc_new w _
  refine ⟨⟨h.size, h.defers, fun t v hv => (h.tmps t v hv).keeps hk hs hext, ?_, ?_, ?_, ?_, ?_, h.glob.evo (Evo.alloc _ _ _) (fun b hb h => h.elim id (fun e => by omega))⟩, hext⟩
  · intro id blk hf
    simp only [find_cons] at hf
    split at hf
    · rename_i e'
      subst e'
      simp only [Option.some.injEq] at hf
      subst hf
      refine ⟨hsz, .inl ⟨w.heap.size, c, e, by simp [updE], h.may _ (Nat.le_refl _), .inr rfl, hnew, by simpa using hlen, fun i el j k hi hj => ?_⟩⟩
      obtain ⟨x, hx, hr, h1⟩ := hc i el j k hi hj
      exact ⟨x, by simpa using hx, hr.keeps hk hs hext, h1⟩
    · have hb := h.heap id blk hf
      exact hb.keeps hk hs hext (fun b hb => .inl hb) (fun b hbo => RowKit.Below.heap_alloc w _ b (hb.lt hbo).1)
  · intro id id' blk blk' b hf hf' hr hr'
    simp only [find_cons] at hf hf'
    simp only [updE] at hr hr'
    by_cases e1 : nid = id <;> by_cases e2 : nid = id'
    · omega
    · simp only [e2, if_false] at hf'
      have : ¬ id' = nid := fun e => e2 e.symm
      simp only [this, if_false] at hr'
      simp only [e1.symm, if_true, Option.some.injEq, Loc.cel.injEq] at hr
      have := ((h.heap id' blk' hf').lt hr').1
      omega
    · simp only [e1, if_false] at hf
      have : ¬ id = nid := fun e => e1 e.symm
      simp only [this, if_false] at hr
      simp only [e2.symm, if_true, Option.some.injEq, Loc.cel.injEq] at hr'
      have := ((h.heap id blk hf).lt hr).1
      omega
    · simp only [e1, e2, if_false] at hf hf'
      have n1 : ¬ id = nid := fun e => e1 e.symm
      have n2 : ¬ id' = nid := fun e => e2 e.symm
      simp only [n1, n2, if_false] at hr hr'
      exact h.inj id id' blk blk' b hf hf' hr hr'
  · intro id hi
    have : ¬ id = nid := fun e => hi.2 ⟨by omega, by omega⟩
    simp only [updE, this, if_false]
    exact h.fresh id hi.1
  · intro b hb
    simp only [World.alloc, Array.size_push]
    rcases hb with hb | hb
    · have := h.bound b hb; omega
    · omega
  · intro b hb
    refine h.may b ?_
    simp only [World.alloc, Array.size_push] at hb
    omega

def cellsOf : W → List C
  | .one c => [c]
  | .agg cs => cs

theorem RW.cells {u : W} {x : Value} (h : RW w A ρ u x) : RCs w A ρ (cellsOf u) x.cells := by
  cases u with
  | one c =>
    have hx : x.cells = #[x] := by
      have := h.2
      cases x <;> simp [Value.oneCell'] at this <;> rfl
    rw [hx]
    refine ⟨rfl, fun k d y hd hy => ?_⟩
    cases k with
    | zero =>
      simp only [cellsOf, List.getElem?_cons_zero, Option.some.injEq] at hd
      simp at hy
      subst hd
      subst hy
      exact h
    | succ k => simp [cellsOf] at hd
  | agg cs =>
    obtain ⟨vs, rfl, h2⟩ := h
    exact h2

/-- A variable with the value u. -/
theorem box_sound (h : Rel M A ρ F st a w) {nid : Nat} (hn : F nid) {u : W} {x : Value} (hu : RW w A ρ u x) (e : TypeId) :
    ∃ A' ρ', (newVar e x).run P w = .ok ⟨w.heap.size, 0, none⟩ (w.alloc (.cells x.cells e)) ∧
      Rel M A' ρ' (Sub F nid) { st with heap := (nid, .row (cellsOf u).length [cellsOf u]) :: st.heap } a (w.alloc (.cells x.cells e)) ∧
      RV (w.alloc (.cells x.cells e)) A' ρ' (.w (.one (.ptr nid (cellsOf u).length 0 0))) (.pointer (some ⟨w.heap.size, 0, none⟩)) ∧ Ext ρ ρ' ∧ Grow A A' w := by
  have hc := hu.cells
  obtain ⟨h1, h2⟩ := h.alloc hn (sz := (cellsOf u).length) (xs := [cellsOf u]) (c := x.cells) (e := e) (by simp) (by simp [hc.1]) (fun i el j k hi hj => by
    cases i with
    | zero =>
      simp only [List.getElem?_cons_zero, Option.some.injEq] at hi
      subst hi
      have hj' : j < (cellsOf u).length := (List.getElem?_eq_some_iff.1 hj).1
      have hjx : j < x.cells.size := hc.1 ▸ hj'
      have hx : x.cells[j]? = some x.cells[j] := by simp [hjx]
      obtain ⟨r1, r2⟩ := hc.2 j k _ hj hx
      exact ⟨_, by simp [hx], r1, r2⟩
    | succ i => simp at hi)
  refine ⟨_, _, ?_, h1, ⟨⟨w.heap.size, by simp [updE], by simp⟩, rfl⟩, h2, Grow.new A w⟩
  simp [newVar, newRow]

/-- The cells that a pointer leads to, and its place among them. -/
def deref (heap : List (Nat × Blk)) : C → Option (List C × Nat)
  | .ptr id sz i j =>
    match find heap id with
    | some (.row sz' xs) => if sz' = sz then (xs[i]?).map fun e => (e, j) else none
    | _ => none
  | .roe e j => some (e.map .t, j)
  | _ => none

theorem deref_sound (h : Rel M A ρ F st a w) {c : C} {x : Value} {cs : List C} {j : Nat} (hd : deref st.heap c = some (cs, j)) (hr : RC w A ρ c x) :
    ∃ b o, x = .pointer (some ⟨b, o + j, none⟩) ∧ ∀ (k : Nat) (d : C), cs[k]? = some d → ∃ y, w.cell? ⟨b, o + k, none⟩ = some y ∧ RC w A ρ d y ∧ isCell y = true := by
  cases c with
  | ptr id sz i j' =>
    simp only [deref] at hd
    split at hd
    · rename_i sz' xs hf
      split at hd
      · rename_i hsz
        subst hsz
        simp only [Option.map_eq_some_iff, Prod.mk.injEq] at hd
        obtain ⟨e, he, rfl, rfl⟩ := hd
        obtain ⟨b, hρ, rfl⟩ := hr
        obtain ⟨_, hb⟩ := h.heap id _ hf
        rcases hb with ⟨b', c, t, k1, k2, k3, k4, k5, k6⟩ | ⟨h2, _⟩
        · rw [hρ] at k1
          simp only [Option.some.injEq, Loc.cel.injEq] at k1
          subst k1
          refine ⟨b, i * sz', rfl, fun k d hk => ?_⟩
          obtain ⟨y, hy, hr, h1⟩ := k6 i e k d he hk
          exact ⟨y, by simp [World.cell?, k4, hy], hr, h1⟩
        · simp [hρ] at h2
      · simp at hd
    · simp at hd
  | roe e j' =>
    simp only [deref, Option.some.injEq, Prod.mk.injEq] at hd
    obtain ⟨rfl, rfl⟩ := hd
    obtain ⟨b, o, f, rfl, h1, h2, h3⟩ := hr
    refine ⟨b, o, rfl, fun k d hk => ?_⟩
    simp only [List.getElem?_map, Option.map_eq_some_iff] at hk
    obtain ⟨t, ht, rfl⟩ := hk
    obtain ⟨h4, h5⟩ := h3 k t ht
    exact ⟨f k, h4, h5, h5.cell⟩
  | _ => simp [deref] at hd

def aggT (P : Program) (t : TypeId) : Option Bool :=
  match P.underlying t with
  | some (.struct _) | some (.array _ _) => some true
  | some _ => some false
  | none => none

theorem run_isAgg {t : TypeId} {b : Bool} (h : aggT P t = some b) : (isAgg t).run P w = .ok b w := by
  unfold aggT at h
  cases hu : P.underlying t with
  | none => simp [hu] at h
  | some d =>
    cases d <;> simp [hu] at h <;> subst h <;> simp [isAgg, run_underlying hu]

def sizeT (P : Program) (t : TypeId) : Option Nat := (P.info? t).map (·.size)

theorem run_sizeOf {t : TypeId} {n : Nat} (h : sizeT P t = some n) : (sizeOf t).run P w = .ok n w := by
  simp only [sizeT, Option.map_eq_some_iff] at h
  obtain ⟨i, hi, rfl⟩ := h
  simp [sizeOf, typeInfo, hi]

/-- The value of type t at place j among cells. -/
def pickAt (P : Program) (t : TypeId) (cs : List C) (j : Nat) : Option W :=
  match aggT P t with
  | some true =>
    match sizeT P t with
    | some n => if j + n ≤ cs.length then some (.agg ((cs.drop j).take n)) else none
    | none => none
  | some false => (cs[j]?).map .one
  | none => none

def evalLoad (P : Program) (t : TypeId) (v : V) (heap : List (Nat × Blk)) : Option V :=
  match v with
  | .w (.one c) =>
    match deref heap c with
    | some (cs, j) => (pickAt P t cs j).map .w
    | none => none
  | _ => none

theorem loadVar_sound {t : TypeId} {b o j : Nat} {cs : List C} {u : W} (hp : pickAt P t cs j = some u)
    (hc : ∀ (k : Nat) (d : C), cs[k]? = some d → ∃ y, w.cell? ⟨b, o + k, none⟩ = some y ∧ RC w A ρ d y ∧ isCell y = true) :
    ∃ x, (loadVar t ⟨b, o + j, none⟩).run P w = .ok x w ∧ RW w A ρ u x := by
  unfold pickAt at hp
  split at hp
  · rename_i hagg
    split at hp
    · rename_i n hn
      split at hp
      · rename_i hle
        simp only [Option.some.injEq] at hp
        subst hp
        have hex : ∀ k, k < n → ∃ y, w.cell? ⟨b, o + j + k, none⟩ = some y := fun k hk => by
          obtain ⟨y, hy, _⟩ := hc (j + k) cs[j + k] (by simp [show j + k < cs.length by omega])
          exact ⟨y, by rw [Nat.add_assoc]; exact hy⟩
        have hcell : ∀ k, k < n → w.cell? ((⟨b, o + j, none⟩ : Addr).add k) = some ((w.cell? ⟨b, o + j + k, none⟩).getD undef) := fun k hk => by
          obtain ⟨y, hy⟩ := hex k hk
          rw [Addr.add_lit, hy]; rfl
        have hl := run_loadCells (P := P) w ⟨b, o + j, none⟩ n _ hcell
        refine ⟨.agg ((List.range n).map fun k => (w.cell? ⟨b, o + j + k, none⟩).getD undef).toArray, by simp [loadVar, run_isAgg hagg, run_sizeOf hn, hl], _, rfl, by simp; omega, fun k c x hk hx => ?_⟩
        have hkn : k < n := by
          have := (List.getElem?_eq_some_iff.1 hk).1
          simp at this
          omega
        simp [hkn] at hx
        have hk' : cs[j + k]? = some c := by
          simpa [List.getElem?_take, hkn] using hk
        obtain ⟨y, hy, hr, h1⟩ := hc (j + k) c hk'
        rw [← Nat.add_assoc] at hy
        rw [hy] at hx
        simp at hx
        subst hx
        exact ⟨hr, h1⟩
      · simp at hp
    · simp at hp
  · rename_i hagg
    simp only [Option.map_eq_some_iff] at hp
    obtain ⟨d, hd, rfl⟩ := hp
    obtain ⟨y, hy, hr, h1⟩ := hc j d hd
    exact ⟨y, by simp [loadVar, run_isAgg hagg, hy], hr, h1⟩
  · simp at hp

theorem evalLoad_sound {t : TypeId} {x : Value} {v u : V} (h : Rel M A ρ F st a w) (he : evalLoad P t v st.heap = some u) (hv : RV w A ρ v x) :
    ∃ y, (Instr.loadAt t x).run P w = .ok y w ∧ RV w A ρ u y := by
  unfold evalLoad at he
  split at he
  · rename_i c
    split at he
    · rename_i cs j hd
      simp only [Option.map_eq_some_iff] at he
      obtain ⟨u', hp, rfl⟩ := he
      obtain ⟨b, o, rfl, hc⟩ := deref_sound h hd hv.1
      obtain ⟨y, hy, hr⟩ := loadVar_sound (P := P) hp hc
      exact ⟨y, by simp [Instr.loadAt, Instr.sureAddr, hy], hr⟩
    · simp at he
  · simp at he

end Go.Abs
