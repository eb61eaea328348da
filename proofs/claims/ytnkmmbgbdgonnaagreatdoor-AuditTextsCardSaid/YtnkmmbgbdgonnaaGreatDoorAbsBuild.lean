import Derived.Test.YtnkmmbgbdgonnaaGreatDoorAbsMk
namespace Go.Abs
open Go

variable {P : Program} {M A : Nat → Prop} {ρ : Env} {F : Nat → Prop} {st : St} {a : Act} {w : World}

theorem foldl_splice (off : Nat) : ∀ (l : List Value) (s : Nat) (cs : Array Value), off + s + l.length ≤ cs.size →
    (l.zipIdx s).foldl (fun (cs : Array Value) (p : Value × Nat) => cs.setIfInBounds (off + p.2) p.1) cs = (splice cs.toList (off + s) l).toArray
  | [], s, cs, _ => by simp [splice]
  | v :: l, s, cs, h => by
    simp only [List.length_cons] at h
    simp only [List.zipIdx_cons, List.foldl_cons]
    rw [foldl_splice off l (s + 1) _ (by simp; omega)]
    congr 1
    have e := list_seg_step cs.toList (off + s) v l (by simp; omega)
    simpa [splice, Array.toList_setIfInBounds, Nat.add_assoc, Nat.add_comm, Nat.add_left_comm] using e

theorem fill_step (place : Nat → Option (Nat × Nat)) (cells : Array Value) (i : Nat) (v : Value) (rest : List (Nat × Value)) {off size : Nat}
    (hp : place i = some (off, size)) (hs : v.cells.size = size) (hl : off + size ≤ cells.size) :
    Instr.fill place cells ((i, v) :: rest) = Instr.fill place (splice cells.toList off v.cells.toList).toArray rest := by
  have := foldl_splice off v.cells.toList 0 cells (by simp; omega)
  simp only [Instr.fill, hp]
  have hn : ¬ (v.cells.size ≠ size || off + v.cells.size > cells.size) = true := by simp [hs]; omega
  rw [if_neg hn]
  congr 1
  rw [← Array.foldl_toList, Array.toList_zipIdx]
  simpa using this

def fillC (place : Nat → Option (Nat × Nat)) (cells : List C) : List (Nat × W) → Option (List C)
  | [] => some cells
  | (i, u) :: rest =>
    match place i with
    | none => none
    | some (off, size) => if (cellsOf u).length = size ∧ off + size ≤ cells.length then fillC place (splice cells off (cellsOf u)) rest else none

/-- Parts, one by one. -/
def RPs (w : World) (A : Nat → Prop) (ρ : Env) : List (Nat × W) → List (Nat × Value) → Prop
  | [], [] => True
  | (i, u) :: r, (i', v) :: r' => i = i' ∧ RW w A ρ u v ∧ RPs w A ρ r r'
  | _, _ => False

theorem RCs.splice {cs : List C} {vs : Array Value} {off : Nat} {u : W} {v : Value} (h : RCs w A ρ cs vs) (hu : RW w A ρ u v) (hl : off + (cellsOf u).length ≤ cs.length) :
    RCs w A ρ (Abs.splice cs off (cellsOf u)) (Abs.splice vs.toList off v.cells.toList).toArray := by
  have hc := hu.cells
  have e1 : v.cells.toList.length = (cellsOf u).length := by simp [hc.1]
  have hl2 : off + v.cells.toList.length ≤ vs.toList.length := by rw [e1]; simpa [← h.1] using hl
  refine ⟨by rw [splice_length hl]; simp only [List.size_toArray]; rw [splice_length hl2]; simpa using h.1, fun k c x hk hx => ?_⟩
  rw [splice_get hl] at hk
  simp only [List.getElem?_toArray] at hx
  rw [splice_get hl2] at hx
  split at hk
  · rename_i hin
    rw [if_pos (by omega)] at hx
    exact hc.2 _ c x hk (by simpa using hx)
  · rename_i hin
    rw [if_neg (by omega)] at hx
    exact h.2 k c x hk (by simpa using hx)

theorem fillC_sound {place : Nat → Option (Nat × Nat)} : ∀ {ps : List (Nat × W)} {qs : List (Nat × Value)} {cs cs' : List C} {vs : Array Value}, fillC place cs ps = some cs' →
    RCs w A ρ cs vs → RPs w A ρ ps qs → ∃ vs', Instr.fill place vs qs = some vs' ∧ RCs w A ρ cs' vs'
  | [], [], cs, cs', vs, h, hr, _ => by
    simp only [fillC, Option.some.injEq] at h
    subst h
    exact ⟨vs, rfl, hr⟩
  | [], _ :: _, _, _, _, _, _, hp => by simp [RPs] at hp
  | _ :: _, [], _, _, _, _, _, hp => by simp [RPs] at hp
  | (i, u) :: r, (i', v) :: r', cs, cs', vs, h, hr, hp => by
    obtain ⟨rfl, hu, hp'⟩ := hp
    simp only [fillC] at h
    split at h
    · simp at h
    · rename_i off size hpl
      split at h
      · rename_i hc
        have hcu := hu.cells
        rw [fill_step place vs i v r' hpl (by rw [← hcu.1, hc.1]) (by rw [← hr.1]; exact hc.2)]
        exact fillC_sound h (hr.splice hu (by rw [hc.1]; exact hc.2)) hp'
      · simp at h

/-- The zero value of a type, as cells. -/
def zeroC (P : Program) (t : TypeId) : Option (List C) :=
  match P.info? t with
  | some i =>
    match i.zero with
    | some z => if z.cells.size = i.size ∧ z.cells.toList.all isCell = true then some (z.cells.toList.map fun c => .t (.val c)) else none
    | none => none
  | none => none

theorem zeroC_spec {t : TypeId} {cs : List C} (h : zeroC P t = some cs) (w : World) (A : Nat → Prop) (ρ : Env) :
    ∃ i z, P.info? t = some i ∧ i.zero = some z ∧ z.cells.size = i.size ∧ i.size = cs.length ∧ RCs w A ρ cs z.cells := by
  unfold zeroC at h
  split at h
  · rename_i i hi
    split at h
    · rename_i z hz
      split at h
      · rename_i hc
        simp only [Option.some.injEq] at h
        subst h
        refine ⟨i, z, hi, hz, hc.1, by simp [hc.1], by simp, fun k c x hk hx => ?_⟩
        simp only [List.getElem?_map, Array.getElem?_toList, hx, Option.map_some, Option.some.injEq] at hk
        subst hk
        have hm : x ∈ z.cells.toList := List.mem_of_getElem? (i := k) (by simpa using hx)
        have := List.all_eq_true.1 hc.2 x hm
        exact ⟨.val this, this⟩
      · simp at h
    · simp at h
  · simp at h

theorem run_zeroValue {t : TypeId} {i : TypeInfo} {z : Value} (hi : P.info? t = some i) (hz : i.zero = some z) (w : World) : (zeroValue t).run P w = .ok z w := by
  simp [zeroValue, typeInfo, hi, hz]

def evalAlloc (P : Program) (e : TypeId) (nid : Nat) : Option (V × (Nat × Blk)) :=
  match zeroC P e with
  | some cs => some (.w (.one (.ptr nid cs.length 0 0)), (nid, .row cs.length [cs]))
  | none => none

/-- One element of cells. -/
theorem alloc1_sound (h : Rel M A ρ F st a w) {nid : Nat} (hn : F nid) {cs : List C} {vs : Array Value} (hr : RCs w A ρ cs vs) (e : TypeId) :
    ∃ A' ρ', Rel M A' ρ' (Sub F nid) { st with heap := (nid, .row cs.length [cs]) :: st.heap } a (w.alloc (.cells vs e)) ∧
      RV (w.alloc (.cells vs e)) A' ρ' (.w (.one (.ptr nid cs.length 0 0))) (.pointer (some ⟨w.heap.size, 0, none⟩)) ∧ Ext ρ ρ' ∧ Grow A A' w := by
  obtain ⟨h1, h2⟩ := h.alloc hn (sz := cs.length) (xs := [cs]) (c := vs) (e := e) (by simp) (by simp [hr.1]) (fun i el j k hi hj => by
    cases i with
    | zero =>
      simp only [List.getElem?_cons_zero, Option.some.injEq] at hi
      subst hi
      have hj' : j < cs.length := (List.getElem?_eq_some_iff.1 hj).1
      have hjx : j < vs.size := hr.1 ▸ hj'
      have hx : vs[j]? = some vs[j] := by simp [hjx]
      obtain ⟨r1, r2⟩ := hr.2 j k _ hj hx
      exact ⟨_, by simp [hx], r1, r2⟩
    | succ i => simp at hi)
  exact ⟨_, _, h1, ⟨⟨w.heap.size, by simp [updE], by simp⟩, rfl⟩, h2, Grow.new A w⟩

theorem evalAlloc_sound {e : TypeId} {nid : Nat} {v : V} {p : Nat × Blk} (h : Rel M A ρ F st a w) (hn : F nid) (he : evalAlloc P e nid = some (v, p)) :
    ∃ y w' A' ρ', (Instr.alloc e true (.tuple #[])).run P w = .ok y w' ∧ Rel M A' ρ' (Sub F nid) { st with heap := p :: st.heap } a w' ∧ RV w' A' ρ' v y ∧ Evo M w w' ∧ Ext ρ ρ' ∧ Grow A A' w := by
  unfold evalAlloc at he
  split at he
  · rename_i cs hz
    simp only [Option.some.injEq, Prod.mk.injEq] at he
    obtain ⟨rfl, rfl⟩ := he
    obtain ⟨i, z, hi, hz', hzs, _, hr⟩ := zeroC_spec hz w A ρ
    obtain ⟨A', ρ', h1, h2, h3, h4⟩ := alloc1_sound h hn hr e
    exact ⟨_, _, A', ρ', by simp [Instr.alloc, run_zeroValue hi hz', newVar, newRow], h1, h2, Evo.alloc M w _, h3, h4⟩
  · simp at he

def evalBox (v : V) (nid : Nat) : Option (V × (Nat × Blk)) :=
  match v with
  | .w u => some (.w (.one (.ptr nid (cellsOf u).length 0 0)), (nid, .row (cellsOf u).length [cellsOf u]))
  | _ => none

theorem evalBox_sound {e : TypeId} {nid : Nat} {v u : V} {x : Value} {p : Nat × Blk} (h : Rel M A ρ F st a w) (hn : F nid) (he : evalBox v nid = some (u, p)) (hv : RV w A ρ v x) :
    ∃ y w' A' ρ', (Instr.box e x).run P w = .ok y w' ∧ Rel M A' ρ' (Sub F nid) { st with heap := p :: st.heap } a w' ∧ RV w' A' ρ' u y ∧ Evo M w w' ∧ Ext ρ ρ' ∧ Grow A A' w := by
  unfold evalBox at he
  split at he
  · rename_i q
    simp only [Option.some.injEq, Prod.mk.injEq] at he
    obtain ⟨rfl, rfl⟩ := he
    obtain ⟨A', ρ', h1, h2, h3, h4⟩ := alloc1_sound h hn (RW.cells hv) e
    exact ⟨_, _, A', ρ', by simp [Instr.box, newVar, newRow], h1, h2, Evo.alloc M w _, h3, h4⟩
  · simp at he

/-- The places of a struct's fields. -/
def placesOf (P : Program) : List Field → Option (List (Nat × Nat))
  | [] => some []
  | f :: r => match sizeT P f.type, placesOf P r with
    | some n, some l => some ((f.offset, n) :: l)
    | _, _ => none

theorem run_places : ∀ {fs : List Field} {l : List (Nat × Nat)}, placesOf P fs = some l → ∀ w, (fs.mapM fun (f : Field) => do pure (f.offset, ← sizeOf f.type)).run P w = .ok l w
  | [], l, h, w => by simp only [placesOf, Option.some.injEq] at h; subst h; simp
  | f :: r, l, h, w => by
    simp only [placesOf] at h
    split at h
    · rename_i n l' hn hl
      simp only [Option.some.injEq] at h
      subst h
      have := run_places hl w
      simp only [bind_pure_comp] at this
      simp [List.mapM_cons, run_sizeOf hn, this]
    · simp at h

def evalBuild (P : Program) (t : TypeId) (ps : List (Nat × W)) : Option V :=
  match zeroC P t, P.underlying t with
  | some z, some (.struct fields) =>
    match placesOf P fields.toList with
    | some l => (fillC (fun i => l[i]?) z ps).map fun cs => .w (.agg cs)
    | none => none
  | some z, some (.array _ e) =>
    match sizeT P e with
    | some size => (fillC (fun i => some (i * size, size)) z ps).map fun cs => .w (.agg cs)
    | none => none
  | _, _ => none

theorem evalBuild_sound {t : TypeId} {ps : List (Nat × W)} {qs : Array (Nat × Value)} {v : V} (he : evalBuild P t ps = some v) (hp : RPs w A ρ ps qs.toList) :
    ∃ y, (Instr.build t qs).run P w = .ok y w ∧ RV w A ρ v y := by
  unfold evalBuild at he
  split at he
  · rename_i z fields hz hu
    split at he
    · rename_i l hl
      simp only [Option.map_eq_some_iff] at he
      obtain ⟨cs, hcs, rfl⟩ := he
      obtain ⟨i, zv, hi, hz', hzs, _, hr⟩ := zeroC_spec hz w A ρ
      obtain ⟨vs, hvs, hr'⟩ := fillC_sound hcs hr hp
      have hrun := run_places hl w
      have hrun2 : (fields.mapM fun (f : Field) => do pure (f.offset, ← sizeOf f.type)).run P w = .ok l.toArray w := by
        rw [Array.mapM_eq_mapM_toList]
        simp only [Sem.run_map, hrun, Result.andThen_ok]
      refine ⟨.agg vs, ?_, vs, rfl, hr'⟩
      have e1 : (fun (i : Nat) => l.toArray[i]?) = fun (i : Nat) => l[i]? := by funext i; simp
      simp only [Instr.build, Sem.run_bind, run_zeroValue hi hz', Result.andThen_ok, run_underlying hu, hrun2, e1, hvs, Sem.run_pure]
    · simp at he
  · rename_i z n e hz hu
    split at he
    · rename_i size hs
      simp only [Option.map_eq_some_iff] at he
      obtain ⟨cs, hcs, rfl⟩ := he
      obtain ⟨i, zv, hi, hz', hzs, _, hr⟩ := zeroC_spec hz w A ρ
      obtain ⟨vs, hvs, hr'⟩ := fillC_sound hcs hr hp
      refine ⟨.agg vs, ?_, vs, rfl, hr'⟩
      simp only [Instr.build, Sem.run_bind, run_zeroValue hi hz', Result.andThen_ok, run_underlying hu, run_sizeOf hs, hvs, Sem.run_pure]
    · simp at he
  · simp at he

/-- Elements of a row, laid flat. -/
def RE (w : World) (A : Nat → Prop) (ρ : Env) (size : Nat) (xs : List (List C)) (vs : Array Value) : Prop :=
  (∀ e, e ∈ xs → e.length = size) ∧ vs.size = xs.length * size ∧
    ∀ (i : Nat) (el : List C) (j : Nat) (k : C), xs[i]? = some el → el[j]? = some k → ∃ x, vs[i * size + j]? = some x ∧ RC w A ρ k x ∧ isCell x = true

def fillE (size : Nat) (xs : List (List C)) : List (Nat × W) → Option (List (List C))
  | [] => some xs
  | (i, u) :: rest => if (cellsOf u).length = size ∧ i < xs.length then fillE size (xs.set i (cellsOf u)) rest else none

theorem RE.set {size : Nat} {xs : List (List C)} {vs : Array Value} {i : Nat} {u : W} {v : Value} (h : RE w A ρ size xs vs) (hu : RW w A ρ u v) (hl : (cellsOf u).length = size) (hi : i < xs.length) :
    RE w A ρ size (xs.set i (cellsOf u)) (splice vs.toList (i * size) v.cells.toList).toArray := by
  have hc := hu.cells
  obtain ⟨h1, h2, h3⟩ := h
  have e1 : v.cells.toList.length = size := by rw [← hl]; simp [hc.1]
  have hmul : (i + 1) * size ≤ xs.length * size := Nat.mul_le_mul_right _ hi
  rw [Nat.add_mul] at hmul
  have hl2 : i * size + v.cells.toList.length ≤ vs.toList.length := by rw [e1]; simp only [Array.length_toList, h2]; omega
  refine ⟨fun e he => ?_, by simp only [List.size_toArray]; rw [splice_length hl2]; simpa using h2, fun i' el j k hi' hj => ?_⟩
  · rcases List.mem_or_eq_of_mem_set he with q | q
    · exact h1 e q
    · rw [q, hl]
  · simp only [List.getElem?_toArray]
    rw [splice_get hl2]
    by_cases hii : i' = i
    · subst hii
      rw [List.getElem?_set_self hi] at hi'
      simp only [Option.some.injEq] at hi'
      subst hi'
      have hjl : j < size := by rw [← hl]; exact (List.getElem?_eq_some_iff.1 hj).1
      rw [if_pos (by omega), show i' * size + j - i' * size = j by omega]
      have hjx : j < v.cells.size := by rw [← hc.1, hl]; exact hjl
      have hx : v.cells[j]? = some v.cells[j] := by simp [hjx]
      obtain ⟨r1, r2⟩ := hc.2 j k _ hj hx
      exact ⟨_, by simp [hjx], r1, r2⟩
    · rw [List.getElem?_set_ne (fun e => hii e.symm)] at hi'
      have hj2 : j < size := by rw [← h1 el (List.mem_of_getElem? hi')]; exact (List.getElem?_eq_some_iff.1 hj).1
      have hout : ¬ (i * size ≤ i' * size + j ∧ i' * size + j < i * size + v.cells.toList.length) := by
        rw [e1]
        intro hh
        rcases Nat.lt_or_gt_of_ne hii with hlt | hgt
        · have : (i' + 1) * size ≤ i * size := Nat.mul_le_mul_right _ hlt
          rw [Nat.add_mul] at this
          omega
        · have : (i + 1) * size ≤ i' * size := Nat.mul_le_mul_right _ hgt
          rw [Nat.add_mul] at this
          omega
      rw [if_neg hout]
      obtain ⟨z, hz, hr, h4⟩ := h3 i' el j k hi' hj
      exact ⟨z, by simpa using hz, hr, h4⟩

theorem fillE_sound {size : Nat} : ∀ {ps : List (Nat × W)} {qs : List (Nat × Value)} {xs xs' : List (List C)} {vs : Array Value}, fillE size xs ps = some xs' →
    RE w A ρ size xs vs → RPs w A ρ ps qs → ∃ vs', Instr.fill (fun i => some (i * size, size)) vs qs = some vs' ∧ RE w A ρ size xs' vs'
  | [], [], xs, xs', vs, h, hr, _ => by
    simp only [fillE, Option.some.injEq] at h
    subst h
    exact ⟨vs, rfl, hr⟩
  | [], _ :: _, _, _, _, _, _, hp => by simp [RPs] at hp
  | _ :: _, [], _, _, _, _, _, hp => by simp [RPs] at hp
  | (i, u) :: r, (i', v) :: r', xs, xs', vs, h, hr, hp => by
    obtain ⟨rfl, hu, hp'⟩ := hp
    simp only [fillE] at h
    split at h
    · rename_i hc
      have hcu := hu.cells
      have hmul : (i + 1) * size ≤ xs.length * size := Nat.mul_le_mul_right _ hc.2
      rw [Nat.add_mul] at hmul
      rw [fill_step (fun i => some (i * size, size)) vs i v r' (off := i * size) (size := size) rfl (by rw [← hcu.1, hc.1]) (by rw [hr.2.1]; omega)]
      exact fillE_sound h (hr.set hu hc.1 hc.2) hp'
    · simp at h

theorem zeros_RE {cs : List C} {z : Array Value} (hr : RCs w A ρ cs z) (n : Nat) :
    RE w A ρ cs.length (List.replicate n cs) ((Array.range (n * cs.length)).map fun k => z[k % z.size]!) := by
  refine ⟨fun e he => by rw [List.eq_of_mem_replicate he], by simp, fun i el j k hi hj => ?_⟩
  have hil : i < n := by have := (List.getElem?_eq_some_iff.1 hi).1; simpa using this
  simp only [List.getElem?_replicate, hil, if_true, Option.some.injEq] at hi
  subst hi
  have hjl : j < cs.length := (List.getElem?_eq_some_iff.1 hj).1
  have hmul : (i + 1) * cs.length ≤ n * cs.length := Nat.mul_le_mul_right _ hil
  rw [Nat.add_mul] at hmul
  have hlt : i * cs.length + j < n * cs.length := by omega
  have hjz : j < z.size := hr.1 ▸ hjl
  have hmod : (i * cs.length + j) % z.size = j := by rw [← hr.1, Nat.add_comm, Nat.add_mul_mod_self_right, Nat.mod_eq_of_lt hjl]
  have hx : z[j]? = some z[j] := by simp [hjz]
  obtain ⟨r1, r2⟩ := hr.2 j k _ hj hx
  refine ⟨z[j], ?_, r1, r2⟩
  simp [hlt, hmod, getElem!_pos z j hjz]

theorem range0 : Array.range 0 = #[] := Array.eq_empty_of_size_eq_zero (by simp)

def evalBuildSlice (P : Program) (t : TypeId) (len : Nat) (ps : List (Nat × W)) (nid : Nat) : Option (V × (Nat × Blk)) :=
  match P.underlying t with
  | some (.slice e) =>
    match zeroC P e with
    | some z =>
      if len * z.length ≤ 16777216 ∧ 0 < z.length then
        (fillE z.length (List.replicate len z) ps).map fun xs => (.w (.one (.own nid z.length 0 len)), (nid, .row z.length xs))
      else none
    | none => none
  | _ => none

theorem fillE_len {size : Nat} : ∀ {ps : List (Nat × W)} {xs xs' : List (List C)}, fillE size xs ps = some xs' → xs'.length = xs.length
  | [], xs, xs', h => by simp only [fillE, Option.some.injEq] at h; rw [h]
  | (i, u) :: r, xs, xs', h => by
    simp only [fillE] at h
    split at h
    · have := fillE_len h; simpa using this
    · simp at h

/-- A new row that is a slice. -/
theorem row_sound (h : Rel M A ρ F st a w) {nid : Nat} (hn : F nid) {size : Nat} {xs : List (List C)} {vs : Array Value} {len cap : Nat} (e : TypeId)
    (hsz : ∀ el, el ∈ xs → el.length = size) (hl : xs.length = len) (hcap : len ≤ cap) (hv : vs.size = cap * size)
    (hc : ∀ (i : Nat) (el : List C) (j : Nat) (k : C), xs[i]? = some el → el[j]? = some k → ∃ x, vs[i * size + j]? = some x ∧ RC w A ρ k x ∧ isCell x = true) :
    ∃ A' ρ', Rel M A' ρ' (Sub F nid) { st with heap := (nid, .row size xs) :: st.heap } a (w.alloc (.cells vs e)) ∧
      RV (w.alloc (.cells vs e)) A' ρ' (.w (.one (.own nid size 0 len))) (.slice (some ⟨w.heap.size, 0, none⟩) len cap) ∧ Ext ρ ρ' ∧ Grow A A' w := by
  have hle : xs.length * size ≤ vs.size := by rw [hv, hl]; exact Nat.mul_le_mul_right _ hcap
  obtain ⟨h1, h2⟩ := h.alloc hn (sz := size) (xs := xs) (c := vs) (e := e) hsz hle hc
  refine ⟨_, _, h1, ⟨.inl ⟨w.heap.size, cap, cap * size, e, by simp [updE], by simp, hcap, ?_, by simp⟩, rfl⟩, h2, Grow.new A w⟩
  simp only [World.shape?]
  rw [heap_alloc_new w (.cells vs e)]
  simp [hv]

theorem evalBuildSlice_sound {t : TypeId} {len nid : Nat} {ps : List (Nat × W)} {qs : Array (Nat × Value)} {v : V} {p : Nat × Blk} (h : Rel M A ρ F st a w) (hn : F nid)
    (he : evalBuildSlice P t len ps nid = some (v, p)) (hp : RPs w A ρ ps qs.toList) :
    ∃ y w' A' ρ', (Instr.buildSlice t len qs).run P w = .ok y w' ∧ Rel M A' ρ' (Sub F nid) { st with heap := p :: st.heap } a w' ∧ RV w' A' ρ' v y ∧ Evo M w w' ∧ Ext ρ ρ' ∧ Grow A A' w := by
  unfold evalBuildSlice at he
  split at he
  · rename_i e hu
    split at he
    · rename_i z hz
      split at he
      · rename_i hc
        simp only [Option.map_eq_some_iff, Prod.mk.injEq] at he
        obtain ⟨xs, hxs, rfl, rfl⟩ := he
        obtain ⟨i, zv, hi, hz', hzs, hsl, hr⟩ := zeroC_spec hz w A ρ
        obtain ⟨vs, hvs, hE⟩ := fillE_sound hxs (zeros_RE hr len) hp
        have hlen := fillE_len hxs
        simp only [List.length_replicate] at hlen
        obtain ⟨A', ρ', h1, h2, h3, h4⟩ := row_sound h hn (cap := len) e hE.1 hlen (Nat.le_refl _) (by rw [hE.2.1, hlen]) hE.2.2
        refine ⟨_, _, A', ρ', ?_, h1, h2, Evo.alloc M w _, h3, h4⟩
        have hn1 : ¬ (len * i.size > 2 ^ 24) := by rw [hsl]; have := hc.1; omega
        have hsize : (sizeOf e).run P w = .ok i.size w := by simp [sizeOf, typeInfo, hi]
        rw [← hsl] at hvs
        simp only [Instr.buildSlice, Sem.run_bind, run_underlying hu, Result.andThen_ok, hsize, hn1, if_false]
        by_cases h0 : len * i.size = 0
        · rw [h0, range0, Array.map_empty] at hvs
          simp [h0, range0, hvs, newRow]
        · simp [h0, run_zeroValue hi hz', hvs, newRow]
      · simp at he
    · simp at he
  · simp at he

def evalMakeSlice (P : Program) (t : TypeId) (l c : V) (nid : Nat) : Option (V × (Nat × Blk)) :=
  match P.underlying t, l.int?, c.int? with
  | some (.slice e), some (_, l), some (_, c) =>
    match zeroC P e, elemT P e with
    | some z, some (_, bytes) =>
      if 0 ≤ l ∧ l ≤ c ∧ c ≤ 4611686018427387904 ∧ c * bytes ≤ 281474976710656 then
        some (.w (.one (.own nid z.length 0 l.toNat)), (nid, .row z.length (List.replicate l.toNat z)))
      else none
    | _, _ => none
  | _, _, _ => none

theorem wrap_i64 {n : Int} (h0 : 0 ≤ n) (h1 : n ≤ 4611686018427387904) : IntKind.i64.wrap n = n := by
  simp [IntKind.wrap, IntKind.bits, IntKind.signed]
  omega

theorem evalMakeSlice_sound {t : TypeId} {nid : Nat} {l c v : V} {x y : Value} {p : Nat × Blk} (h : Rel M A ρ F st a w) (hn : F nid)
    (he : evalMakeSlice P t l c nid = some (v, p)) (hl : RV w A ρ l x) (hc : RV w A ρ c y) :
    ∃ z w' A' ρ', (Instr.makeSlice t x y).run P w = .ok z w' ∧ Rel M A' ρ' (Sub F nid) { st with heap := p :: st.heap } a w' ∧ RV w' A' ρ' v z ∧ Evo M w w' ∧ Ext ρ ρ' ∧ Grow A A' w := by
  unfold evalMakeSlice at he
  split at he
  · rename_i e k1 ln k2 cn hu h1 h2
    split at he
    · rename_i z size bytes hz hT
      split at he
      · rename_i hcond
        obtain ⟨c1, c2, c3, c4⟩ := hcond
        simp only [Option.some.injEq, Prod.mk.injEq] at he
        obtain ⟨rfl, rfl⟩ := he
        have hx := V.int?_spec h1 hl
        have hy := V.int?_spec h2 hc
        subst hx
        subst hy
        obtain ⟨i, zv, hi, hz', hzs, hsl, hr⟩ := zeroC_spec hz w A ρ
        obtain ⟨i', zv', hi', _, hsz', hby, _, hpos⟩ := elemT_spec hT
        rw [hi] at hi'
        simp only [Option.some.injEq] at hi'
        subst hi'
        have hE := zeros_RE hr cn.toNat
        have hle : ln.toNat ≤ cn.toNat := by omega
        obtain ⟨A', ρ', r1, r2, r3, r4⟩ := row_sound h hn (size := z.length) (xs := List.replicate ln.toNat z) (len := ln.toNat) (cap := cn.toNat) e
          (fun el hel => by rw [List.eq_of_mem_replicate hel]) (by simp) hle (by rw [hE.2.1]; simp) (fun i el j k hi hj => by
            refine hE.2.2 i el j k ?_ hj
            have hil : i < ln.toNat := by have := (List.getElem?_eq_some_iff.1 hi).1; simpa using this
            simp only [List.getElem?_replicate, hil, if_true] at hi
            simp only [List.getElem?_replicate, show i < cn.toNat by omega, if_true]
            exact hi)
        refine ⟨_, _, A', ρ', ?_, r1, r2, Evo.alloc M w _, r3, r4⟩
        have w1 := wrap_i64 c1 (by omega)
        have w2 := wrap_i64 (n := cn) (by omega) c3
        have n1 : ¬ cn < 0 := by omega
        have n2 : ¬ ((i.bytes : Int) * cn > 281474976710656) := by rw [hby, Int.mul_comm]; omega
        have n3 : ¬ ln < 0 := by omega
        have n4 : ¬ ln > cn := by omega
        have hsize : (sizeOf e).run P w = .ok i.size w := by simp [sizeOf, typeInfo, hi]
        have hti : (typeInfo e).run P w = .ok i w := by simp [typeInfo, hi]
        have hb : (decide (cn < 0) || decide ((i.bytes : Int) * cn > 2 ^ 48)) = false := by simp; omega
        simp only [Instr.makeSlice, Sem.run_bind, run_underlying hu, Result.andThen_ok, asInt, asIntOf, hti, w1, w2, Sem.run_pure]
        have hif : (decide (cn < 0) || decide ((i.bytes : Int) * cn > 2 ^ 48) || decide (ln < 0) || decide (ln > cn)) = false := by rw [hb]; simp; omega
        simp only [hif, Bool.false_eq_true, if_false, run_askRoom, Result.andThen_ok, Sem.run_bind, hsize, Sem.run_pure]
        rw [← hsl] at *
        by_cases h0 : cn.toNat * i.size = 0
        · simp [h0, range0, newRow]
        · simp [h0, run_zeroValue hi hz', newRow]
      · simp at he
    · simp at he
  · simp at he

end Go.Abs
