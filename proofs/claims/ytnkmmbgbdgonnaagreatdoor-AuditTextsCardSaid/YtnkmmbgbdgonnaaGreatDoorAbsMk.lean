import Derived.Test.YtnkmmbgbdgonnaaGreatDoorAbsAddr
namespace Go.Abs
open Go

variable {P : Program} {M A : Nat → Prop} {ρ : Env} {F : Nat → Prop} {st : St} {a : Act} {w : World}

/-- The elements that a slice reads as. -/
def elems (heap : List (Nat × Blk)) : C → Option (Nat × List (List C))
  | .own id sz i len =>
    match find heap id with
    | some (.row sz' xs) => if sz' = sz ∧ i + len ≤ xs.length then some (sz, (xs.drop i).take len) else none
    | _ => none
  | .t (.lst sz xs) => some (sz, xs.map fun e => e.map .t)
  | _ => none

/-- The cells of a list of elements, as one list of values that lie at an address. -/
theorem flat_exists {xs : List (List C)} {sz : Nat} {g : Nat → Option Value} (hsz : ∀ e, e ∈ xs → e.length = sz)
    (hc : ∀ (i : Nat) (el : List C) (j : Nat) (k : C), xs[i]? = some el → el[j]? = some k → ∃ x, g (i * sz + j) = some x ∧ RC w A ρ k x ∧ isCell x = true) :
    ∃ vs : List Value, vs.length = xs.length * sz ∧ (∀ (j : Nat) (v : Value), vs[j]? = some v → g j = some v) ∧ (∀ v, v ∈ vs → v.oneCell' = true) ∧
      ∀ (i : Nat) (el : List C) (j : Nat) (k : C), xs[i]? = some el → el[j]? = some k → ∃ x, vs[i * sz + j]? = some x ∧ RC w A ρ k x ∧ isCell x = true := by
  have key : ∀ n, n < xs.length * sz → ∃ x, g n = some x ∧ isCell x = true := by
    intro n hn
    have hsz0 : 0 < sz := by
      rcases Nat.eq_zero_or_pos sz with h0 | h0
      · subst h0; simp at hn
      · exact h0
    have hi : n / sz < xs.length := by rw [Nat.div_lt_iff_lt_mul hsz0]; exact hn
    have he : xs[n / sz]? = some xs[n / sz] := by simp [hi]
    have hl := hsz _ (List.getElem_mem hi)
    have hj : n % sz < xs[n / sz].length := by rw [hl]; exact Nat.mod_lt _ hsz0
    obtain ⟨x, hx, _, h1⟩ := hc (n / sz) xs[n / sz] (n % sz) xs[n / sz][n % sz] he (by simp [hj])
    rw [Nat.div_add_mod'] at hx
    exact ⟨x, hx, h1⟩
  refine ⟨(List.range (xs.length * sz)).map fun n => (g n).getD undef, by simp, ?_, ?_, ?_⟩
  · intro j v hv
    have hj : j < xs.length * sz := by
      have := (List.getElem?_eq_some_iff.1 hv).1
      simpa using this
    obtain ⟨x, hx, _⟩ := key j hj
    simp [hj, hx] at hv
    rw [hx, hv]
  · intro v hv
    simp only [List.mem_map, List.mem_range] at hv
    obtain ⟨n, hn, rfl⟩ := hv
    obtain ⟨x, hx, h1⟩ := key n hn
    simpa [hx] using h1
  · intro i el j k hi hj
    obtain ⟨x, hx, hr, h1⟩ := hc i el j k hi hj
    have hil : i < xs.length := (List.getElem?_eq_some_iff.1 hi).1
    have hjl : j < sz := by rw [← hsz el (List.mem_of_getElem? hi)]; exact (List.getElem?_eq_some_iff.1 hj).1
    have hlt : i * sz + j < xs.length * sz := by
      have h2 : (i + 1) * sz ≤ xs.length * sz := Nat.mul_le_mul_right _ hil
      rw [Nat.add_mul] at h2
      omega
    refine ⟨x, by simp [hlt, hx], hr, h1⟩

theorem elems_len {c : C} {sz : Nat} {xs : List (List C)} {x : Value} (h : Rel M A ρ F st a w) (he : elems st.heap c = some (sz, xs)) (hr : RC w A ρ c x) :
    (∀ e, e ∈ xs → e.length = sz) ∧ ∃ b cap, x = .slice b xs.length cap ∧ xs.length ≤ cap := by
  unfold elems at he
  split at he
  · rename_i id sz' i len
    split at he
    · rename_i sz2 ys hf
      split at he
      · rename_i hc
        obtain ⟨rfl, hle⟩ := hc
        simp only [Option.some.injEq, Prod.mk.injEq] at he
        obtain ⟨rfl, rfl⟩ := he
        refine ⟨fun e he => (h.heap id _ hf).1 e (List.mem_of_mem_drop (List.mem_of_mem_take he)), ?_⟩
        have hlen : ((ys.drop i).take len).length = len := by simp; omega
        rw [hlen]
        rcases hr with ⟨b, cap, q, e, k1, rfl, k3, k4, k5⟩ | ⟨_, _, rfl, rfl⟩
        · exact ⟨_, _, rfl, k3⟩
        · exact ⟨_, _, rfl, Nat.le_refl _⟩
      · simp at he
    · simp at he
  · rename_i sz' ys
    simp only [Option.some.injEq, Prod.mk.injEq] at he
    obtain ⟨rfl, rfl⟩ := he
    cases hr with
    | nil => exact ⟨by simp, _, _, rfl, by simp⟩
    | lst f hl hcap hb hA hsz hc hrr =>
      refine ⟨fun e he => ?_, _, _, by simp [hl]; exact ⟨rfl, rfl⟩, by simp; omega⟩
      simp only [List.mem_map] at he
      obtain ⟨e', he', rfl⟩ := he
      simpa using hsz e' he'
  · simp at he

/-- Where the elements lie. -/
theorem elems_sound {c : C} {sz : Nat} {xs : List (List C)} {x : Value} (h : Rel M A ρ F st a w) (he : elems st.heap c = some (sz, xs)) (hr : RC w A ρ c x) (hne : xs ≠ []) :
    ∃ b o cap, x = .slice (some ⟨b, o, none⟩) xs.length cap ∧
      ∀ (i : Nat) (el : List C) (j : Nat) (k : C), xs[i]? = some el → el[j]? = some k → ∃ y, w.cell? ⟨b, o + (i * sz + j), none⟩ = some y ∧ RC w A ρ k y ∧ isCell y = true := by
  unfold elems at he
  split at he
  · rename_i id sz' i len
    split at he
    · rename_i sz2 ys hf
      split at he
      · rename_i hc
        obtain ⟨rfl, hle⟩ := hc
        simp only [Option.some.injEq, Prod.mk.injEq] at he
        obtain ⟨rfl, rfl⟩ := he
        have hlen : ((ys.drop i).take len).length = len := by simp; omega
        rw [hlen]
        rcases hr with ⟨b, cap, q, e, k1, rfl, k3, k4, k5⟩ | ⟨_, _, rfl, rfl⟩
        · refine ⟨b, i * sz2, cap, rfl, fun i' el j k hi hj => ?_⟩
          have hil : i' < len := by rw [← hlen]; exact (List.getElem?_eq_some_iff.1 hi).1
          have hi' : ys[i + i']? = some el := by simpa [List.getElem?_take, hil] using hi
          rcases (h.heap id _ hf).2 with ⟨b', c', e', q1, q2, q3, q4, q5, q6⟩ | ⟨q1, _⟩
          · rw [k1] at q1
            simp only [Option.some.injEq, Loc.cel.injEq] at q1
            subst q1
            obtain ⟨y, hy, hr, h1⟩ := q6 (i + i') el j k hi' hj
            rw [Nat.add_mul] at hy
            exact ⟨y, by simp [World.cell?, q4]; rw [← Nat.add_assoc]; exact hy, hr, h1⟩
          · simp [k1] at q1
        · simp at hne
      · simp at he
    · simp at he
  · rename_i sz' ys
    simp only [Option.some.injEq, Prod.mk.injEq] at he
    obtain ⟨rfl, rfl⟩ := he
    cases hr with
    | nil => simp at hne
    | lst f hl hcap hb hA hsz hc hrr =>
      rename_i b off len cap
      refine ⟨b, off, cap, by simp [hl], fun i el j k hi hj => ?_⟩
      simp only [List.getElem?_map, Option.map_eq_some_iff] at hi
      obtain ⟨e, he, rfl⟩ := hi
      simp only [List.getElem?_map, Option.map_eq_some_iff] at hj
      obtain ⟨t, ht, rfl⟩ := hj
      have hr' := hrr i e j t he ht
      exact ⟨f i j, by rw [← Nat.add_assoc]; exact hc i e j t he ht, hr', hr'.cell⟩
  · simp at he

/-- What append needs of the element's type: its size, its bytes, and a zero value of that size. -/
def elemT (P : Program) (e : TypeId) : Option (Nat × Nat) :=
  match P.info? e with
  | some i =>
    match i.zero with
    | some z => if z.cells.size = i.size ∧ 0 < i.size then some (i.size, i.bytes) else none
    | none => none
  | none => none

def maxRoom : Nat := 140737488355328

def isNil : C → Bool
  | .t (.val (.slice none 0 0)) => true
  | _ => false

def evalAppend (P : Program) (t : TypeId) (s x : V) (heap : List (Nat × Blk)) (nid : Nat) : Option (V × List (Nat × Blk)) :=
  match s, x with
  | .w (.one s), .w (.one x) =>
    match P.underlying t with
    | some (.slice e) =>
      match elemT P e, (if isNil x then some (0, []) else elems heap x) with
      | some (size, bytes), some (sz, ys) =>
        if ys.isEmpty then
          (if (C.len? s).isSome then some (.w (.one s), heap) else none)
        else if sz = size then
          match s with
          | .own id sz' 0 len =>
            match find heap id with
            | some (.row sz2 xs) =>
              if sz' = size ∧ sz2 = size ∧ len = xs.length ∧ (xs.length + ys.length) * bytes ≤ maxRoom ∧ xs.length + ys.length ≤ maxLen then
                some (.w (.one (.own nid size 0 (xs.length + ys.length))), (nid, .row size (xs ++ ys)) :: del heap id)
              else none
            | _ => none
          | s =>
            if isNil s ∧ ys.length * bytes ≤ maxRoom ∧ ys.length ≤ maxLen then
              some (.w (.one (.own nid size 0 ys.length)), (nid, .row size ys) :: heap)
            else none
        else none
      | _, _ => none
    | _ => none
  | _, _ => none

theorem elemT_spec {e : TypeId} {size bytes : Nat} (h : elemT P e = some (size, bytes)) : ∃ i z, P.info? e = some i ∧ i.zero = some z ∧ i.size = size ∧ i.bytes = bytes ∧ z.cells.size = size ∧ 0 < size := by
  unfold elemT at h
  split at h
  · rename_i i hi
    split at h
    · rename_i z hz
      split at h
      · rename_i hc
        simp only [Option.some.injEq, Prod.mk.injEq] at h
        obtain ⟨rfl, rfl⟩ := h
        exact ⟨i, z, hi, hz, rfl, rfl, hc.1, hc.2⟩
      · simp at h
    · simp at h
  · simp at h

theorem isNil_spec {c : C} {x : Value} (h : isNil c = true) (hr : RC w A ρ c x) : x = .slice none 0 0 := by
  unfold isNil at h
  split at h
  · cases hr; rfl
  · simp at h

/-- A new row in a world that has drawn. -/
theorem grow_sound (h : Rel M A ρ F st a w) {nid : Nat} (hn : F nid) {size : Nat} {zs : List (List C)} {vs : List Value} {z : Array Value} {e : TypeId} {cap : Nat}
    (hz : z.size = size) (hsz : ∀ el, el ∈ zs → el.length = size) (hl : vs.length = zs.length * size) (hcap : zs.length ≤ cap)
    (hc : ∀ (i : Nat) (el : List C) (j : Nat) (k : C), zs[i]? = some el → el[j]? = some k → ∃ x, vs[i * size + j]? = some x ∧ RC w A ρ k x ∧ isCell x = true) :
    ∃ A' ρ', Rel M A' ρ' (Sub F nid) { st with heap := (nid, .row size zs) :: st.heap } a (w.drew.alloc (.cells (vs.toArray ++ Builtin.zeroCells z (cap - zs.length)) e)) ∧
      RV (w.drew.alloc (.cells (vs.toArray ++ Builtin.zeroCells z (cap - zs.length)) e)) A' ρ' (.w (.one (.own nid size 0 zs.length))) (.slice (some ⟨w.heap.size, 0, none⟩) zs.length cap) ∧
      Evo M w (w.drew.alloc (.cells (vs.toArray ++ Builtin.zeroCells z (cap - zs.length)) e)) ∧ Ext ρ ρ' ∧ Grow A A' w := by
  have hd := h.drew
  have hk : Keeps A A w w.drew := ⟨Nat.le_refl _, fun b _ hn => ⟨rfl, hn⟩⟩
  have hzc : (Builtin.zeroCells z (cap - zs.length)).size = (cap - zs.length) * size := by rw [size_zeroCells, hz]
  obtain ⟨r1, r2⟩ := Rel.alloc (w := w.drew) hd hn (sz := size) (xs := zs) (c := vs.toArray ++ Builtin.zeroCells z (cap - zs.length)) (e := e) hsz (by simp [hl]) (fun i el j k hi hj => by
    obtain ⟨x, hx, hr, h1⟩ := hc i el j k hi hj
    refine ⟨x, ?_, hr.keeps hk (fun _ _ => rfl) (Ext.refl _), h1⟩
    rw [Array.getElem?_append_left (by simpa using (List.getElem?_eq_some_iff.1 hx).1)]
    simpa using hx)
  refine ⟨_, _, r1, ⟨.inl ⟨w.heap.size, cap, cap * size, e, by show updE ρ nid (.cel w.heap.size) nid = _; simp [updE], by simp, hcap, ?_, ?_⟩, rfl⟩, (Evo.drew M w).trans (Evo.alloc M _ _), r2, Grow.new A w⟩
  · have := heap_alloc_new w.drew (.cells (vs.toArray ++ Builtin.zeroCells z (cap - zs.length)) e)
    simp only [World.shape?]
    have e1 : w.drew.heap.size = w.heap.size := rfl
    rw [e1] at this
    rw [this]
    simp only [Array.size_append, List.size_toArray, hl, hzc, ← Nat.add_mul, Option.some.injEq, Prod.mk.injEq, true_and]
    congr 1
    omega
  · simp

theorem evalAppend_sound {t ty : TypeId} {s x v : V} {sv xv : Value} {heap' : List (Nat × Blk)} {nid : Nat} (h : Rel M A ρ F st a w) (hn : F nid)
    (he : evalAppend P t s x st.heap nid = some (v, heap')) (hs : RV w A ρ s sv) (hx : RV w A ρ x xv) :
    ∃ y w' A' ρ', (Builtin.append_ #[t, t] ty #[sv, xv]).run P w = .ok y w' ∧ Rel M A' ρ' (Sub F nid) { st with heap := heap' } a w' ∧ RV w' A' ρ' v y ∧ Evo M w w' ∧ Ext ρ ρ' ∧ Grow A A' w := by
  unfold evalAppend at he
  split at he
  · rename_i s x
    split at he
    · rename_i e hu
      split at he
      · rename_i size bytes sz ys hT hys
        obtain ⟨i, z, hi, hz, hsize, hby, hzs, hpos⟩ := elemT_spec hT
        split at he
        · -- nothing is appended
          rename_i hemp
          split at he
          · rename_i hlen
            simp only [Option.some.injEq, Prod.mk.injEq] at he
            obtain ⟨rfl, rfl⟩ := he
            obtain ⟨n, hn'⟩ := Option.isSome_iff_exists.1 hlen
            obtain ⟨b, cap, rfl, hcap⟩ := C.len?_spec hn' hs.1
            have hx0 : ∃ b' cap', xv = .slice b' 0 cap' := by
              split at hys
              · rename_i hni
                rw [isNil_spec hni hx.1]; exact ⟨_, _, rfl⟩
              · obtain ⟨_, b', cap', rfl, _⟩ := elems_len h hys hx.1
                simp only [List.isEmpty_iff] at hemp
                subst hemp
                exact ⟨_, _, rfl⟩
            obtain ⟨b', cap', rfl⟩ := hx0
            refine ⟨_, w, A, ρ, ?_, h.sub (fun id hid => hid.1), hs, Evo.refl _ _, Ext.refl _, Grow.refl A w⟩
            have hfc : (Builtin.firstCells i.size 0 (.slice b' 0 cap')).run P w = .ok #[] w := by
              cases b' <;> simp [Builtin.firstCells, loadCells, loadCellsFrom]
            cases b <;> simp [Builtin.append_, run_underlying hu, sizeOf, typeInfo, hi, Builtin.lenOf, hcap, hfc, storeCells]
          · simp at he
        · rename_i hemp
          have hys0 : ¬ isNil x = true := by
            intro hni
            rw [if_pos hni] at hys
            simp only [Option.some.injEq, Prod.mk.injEq] at hys
            simp [← hys.2] at hemp
          rw [if_neg hys0] at hys
          have hne : ys ≠ [] := fun e => by simp [e] at hemp
          have hypos : 0 < ys.length := List.length_pos_iff.2 hne
          obtain ⟨hysz, _⟩ := elems_len h hys hx.1
          obtain ⟨xb, xo, xcap, rfl, hxc⟩ := elems_sound h hys hx.1 hne
          split at he
          · rename_i hszz
            subst hszz
            obtain ⟨news, hnl, hng, hn1, hnr⟩ := flat_exists (g := fun n => w.cell? ⟨xb, xo + n, none⟩) hysz hxc
            have hnews : ∀ (j : Nat) (u : Value), news[j]? = some u → w.cell? ((⟨xb, xo, none⟩ : Addr).add j) = some u := fun j u hj => by rw [Addr.add_lit]; exact hng j u hj
            split at he
            · rename_i id sz' len
              split at he
              · rename_i sz2 xs hf
                split at he
                · rename_i hc
                  obtain ⟨rfl, rfl, rfl, hroom, hmax⟩ := hc
                  simp only [Option.some.injEq, Prod.mk.injEq] at he
                  obtain ⟨rfl, rfl⟩ := he
                  obtain ⟨hxsz, hblk⟩ := h.heap id _ hf
                  have h63 : ((xs.length + ys.length : Nat) : Int) ≤ 9223372036854775807 := by simp only [maxLen] at hmax; omega
                  rcases hs.1 with ⟨b, cap, q, e', k1, rfl, k3, k4, k5⟩ | ⟨k1, _, k2, rfl⟩
                  · rcases hblk with ⟨b', c, e2, q1, q2, q3, q4, q5, q6⟩ | ⟨q1, _⟩
                    · rw [k1] at q1
                      simp only [Option.some.injEq, Loc.cel.injEq] at q1
                      subst q1
                      have hcs : c.size = q := by simp only [World.shape?, q4, Option.some.injEq, Prod.mk.injEq] at k4; exact k4.2
                      obtain ⟨olds, hol, hog, ho1, hor⟩ := flat_exists (g := fun n => c[n]?) hxsz q6
                      have holds : ∀ (j : Nat) (u : Value), olds[j]? = some u → w.cell? ((⟨b, 0, none⟩ : Addr).add j) = some u := fun j u hj => by
                        rw [Addr.add_lit]; simp [World.cell?, q4, hog j u hj]
                      have hjoin : ∀ (i' : Nat) (el : List C) (j : Nat) (k : C), (xs ++ ys)[i']? = some el → el[j]? = some k → ∃ y, (olds ++ news)[i' * sz2 + j]? = some y ∧ RC w A ρ k y ∧ isCell y = true := by
                        intro i' el j k hi' hj
                        by_cases hlt : i' < xs.length
                        · rw [List.getElem?_append_left hlt] at hi'
                          obtain ⟨y, hy, hr, h1⟩ := hor i' el j k hi' hj
                          exact ⟨y, by rw [List.getElem?_append_left (List.getElem?_eq_some_iff.1 hy).1]; exact hy, hr, h1⟩
                        · rw [List.getElem?_append_right (by omega)] at hi'
                          obtain ⟨y, hy, hr, h1⟩ := hnr (i' - xs.length) el j k hi' hj
                          refine ⟨y, ?_, hr, h1⟩
                          have e1 : (i' - xs.length) * sz2 + xs.length * sz2 = i' * sz2 := by rw [← Nat.add_mul]; congr 1; omega
                          rw [List.getElem?_append_right (by omega), hol]
                          rw [show i' * sz2 + j - xs.length * sz2 = (i' - xs.length) * sz2 + j by omega]
                          exact hy
                      have hsz3 : ∀ el, el ∈ xs ++ ys → el.length = sz2 := fun el hel => (List.mem_append.1 hel).elim (hxsz el) (hysz el)
                      by_cases hfit : xs.length + ys.length ≤ cap
                      · -- in place
                        have hfit2 : xs.length * i.size + news.length ≤ c.size := by
                          rw [hsize, hnl, hcs, ← Nat.add_mul]
                          have : (xs.length + ys.length) * sz2 ≤ cap * sz2 := Nat.mul_le_mul_right _ hfit
                          simp only [Nat.zero_mul, Nat.zero_add] at k5
                          omega
                        have q4' := q4
                        have hst := run_storeCells_at P b (xs.length * i.size) e2 news 0 c w q4 (by simpa using hfit2) hn1
                        simp only [Nat.add_zero] at hst
                        have hf' := run_firstCells_some (P := P) w i.size ys.length ⟨xb, xo, none⟩ ys.length xcap news (by rw [hnl, hsize]) hnews
                        have hrun : (Builtin.append_ #[t, t] ty #[.slice (some ⟨b, 0 * sz2, none⟩) xs.length cap, .slice (some ⟨xb, xo, none⟩) ys.length xcap]).run P w =
                            .ok (.slice (some ⟨b, 0, none⟩) (xs.length + ys.length) cap) (w.setRow b (c.toList.take (xs.length * i.size) ++ news ++ c.toList.drop (xs.length * i.size + news.length)).toArray) := by
                          simp [Builtin.append_, run_underlying hu, sizeOf, typeInfo, hi, Builtin.lenOf, hfit, hf', Addr.add_lit, hst]
                        have hspl : c.toList.take (xs.length * i.size) ++ news ++ c.toList.drop (xs.length * i.size + news.length) = splice c.toList (xs.length * sz2) news := by rw [hsize]; rfl
                        rw [hspl] at hrun
                        have hb0 : xs.length * sz2 + news.length ≤ c.toList.length := by rw [hsize] at hfit2; simpa using hfit2
                        obtain ⟨r1, r2⟩ := h.write (c' := (splice c.toList (xs.length * sz2) news).toArray) (xs' := xs ++ ys) hf k1 q4
                          (by simp only [List.size_toArray]; rw [splice_length hb0]; simp) hsz3
                          (by simp only [List.size_toArray]; rw [splice_length hb0]; simp only [List.length_append, Nat.add_mul, Array.length_toList]; rw [hnl] at hb0; simpa using hb0)
                          (fun i' el j k hi' hj => by
                            obtain ⟨y, hy, hr, h1⟩ := hjoin i' el j k hi' hj
                            refine ⟨y, ?_, hr, h1⟩
                            simp only [List.getElem?_toArray]
                            rw [splice_get hb0]
                            by_cases hlt : i' * sz2 + j < olds.length
                            · rw [List.getElem?_append_left hlt] at hy
                              rw [if_neg (by omega)]
                              simpa using hog _ _ hy
                            · rw [List.getElem?_append_right (by omega)] at hy
                              have := (List.getElem?_eq_some_iff.1 hy).1
                              rw [if_pos (by omega), ← hol]
                              exact hy)
                        obtain ⟨l, hl, r3, r4⟩ := r1.rename (id := id) (nid := nid) (blk := .row sz2 (xs ++ ys)) (by simp [find_upd, hf]) hn
                        have hdel : del (upd st.heap id (.row sz2 (xs ++ ys))) id = del st.heap id := by
                          clear r1 r2 r3 r4 hl hf h
                          induction st.heap with
                          | nil => rfl
                          | cons p r ih =>
                            obtain ⟨k, u⟩ := p
                            simp only [upd, del]
                            by_cases hk : k = id
                            · simp [hk, del]
                            · simp [hk, del, ih]
                        simp only [hdel] at r3
                        rw [k1] at hl
                        simp only [Option.some.injEq] at hl
                        subst hl
                        refine ⟨_, _, A, _, hrun, r3, ⟨.inl ⟨b, cap, q, e', by simp [updE], by simp, hfit, ?_, ?_⟩, rfl⟩, r2, r4, Grow.refl A w⟩
                        · rw [shape_setRow q4 (by simp only [List.size_toArray]; rw [splice_length hb0]; simp)]; exact k4
                        · exact k5
                      · -- a new row
                        have hgl : Builtin.nextslicecap (xs.length + ys.length) cap * i.bytes ≤ 281474976710656 := by
                          rw [hby]
                          exact growslice_fits (by omega) (by simp only [maxRoom] at hroom; exact hroom)
                        have hrun := run_append_grow (P := P) w t ty e i z hu hi hz ⟨b, 0, none⟩ xs.length cap olds (by rw [hol, hsize]) holds ⟨xb, xo, none⟩ ys.length xcap news (by rw [hnl, hsize]) hnews (by omega) h63 hgl
                        have hge := grownCap_ge w (xs.length + ys.length) cap e
                        obtain ⟨A', ρ', r1, r2, r3, r4, r5⟩ := grow_sound (e := e) (z := z.cells) (cap := grownCap w (xs.length + ys.length) cap e) h hn hzs hsz3 (vs := olds ++ news) (by simp [hol, hnl, Nat.add_mul]) (by simpa using hge) hjoin
                        have r1' := r1.drop id
                        have hnid : ¬ nid = id := by
                          intro e
                          have := h.fresh nid hn
                          rw [e, k1] at this
                          simp at this
                        simp only [del, hnid, if_false] at r1'
                        have e0 : (⟨b, 0 * sz2, none⟩ : Addr) = ⟨b, 0, none⟩ := by simp
                        rw [e0]
                        simp only [List.length_append] at r1' r2 r3
                        have e1 : (olds ++ news).toArray = olds.toArray ++ news.toArray := by simp
                        rw [e1] at r1' r2 r3
                        exact ⟨_, _, A', ρ', hrun, r1', r2, r3, r4, r5⟩
                    · simp [k1] at q1
                  · -- a nil slice that stands for an empty row
                    have hx0 : xs = [] := List.eq_nil_of_length_eq_zero k2
                    subst hx0
                    simp only [List.length_nil, Nat.zero_add, List.nil_append] at *
                    have hrun := run_append_nil (P := P) w t ty e i z hu hi hz ⟨xb, xo, none⟩ ys.length xcap news (by rw [hnl, hsize]) hnews hypos h63 (by rw [hby]; simp only [maxRoom] at hroom; omega)
                    have hge := grownCap_ge w ys.length 0 e
                    obtain ⟨A', ρ', r1, r2, r3, r4, r5⟩ := grow_sound (e := e) (z := z.cells) (cap := grownCap w ys.length 0 e) h hn hzs hysz (vs := news) hnl hge hnr
                    have r1' := r1.drop id
                    have hnid : ¬ nid = id := by
                      intro e
                      have := h.fresh nid hn
                      rw [e, k1] at this
                      simp at this
                    simp only [del, hnid, if_false] at r1'
                    exact ⟨_, _, A', ρ', hrun, r1', r2, r3, r4, r5⟩
                · simp at he
              · simp at he
            · split at he
              · rename_i hc
                obtain ⟨hni, hroom, hmax⟩ := hc
                simp only [Option.some.injEq, Prod.mk.injEq] at he
                obtain ⟨rfl, rfl⟩ := he
                have hsv := isNil_spec hni hs.1
                subst hsv
                have h63 : ((ys.length : Nat) : Int) ≤ 9223372036854775807 := by simp only [maxLen] at hmax; omega
                have hrun := run_append_nil (P := P) w t ty e i z hu hi hz ⟨xb, xo, none⟩ ys.length xcap news (by rw [hnl, hsize]) hnews hypos h63 (by rw [hby]; simp only [maxRoom] at hroom; omega)
                have hge := grownCap_ge w ys.length 0 e
                obtain ⟨A', ρ', r1, r2, r3, r4, r5⟩ := grow_sound (e := e) (z := z.cells) (cap := grownCap w ys.length 0 e) h hn hzs hysz (vs := news) hnl hge hnr
                exact ⟨_, _, A', ρ', hrun, r1, r2, r3, r4, r5⟩
              · simp at he
          · simp at he
      · simp at he
    · simp at he
  · simp at he

end Go.Abs
