import Derived.Test.YtnkmmbgbdgonnaaGreatDoorAbsMem
namespace Go.Abs
open Go

def upd {α : Type} : List (Nat × α) → Nat → α → List (Nat × α)
  | [], _, _ => []
  | (k, v) :: r, t, x => if k = t then (k, x) :: r else (k, v) :: upd r t x

def del {α : Type} : List (Nat × α) → Nat → List (Nat × α)
  | [], _ => []
  | (k, v) :: r, t => if k = t then del r t else (k, v) :: del r t

theorem find_upd {α : Type} (l : List (Nat × α)) (t : Nat) (x : α) (k : Nat) : find (upd l t x) k = if k = t then (find l t).map (fun _ => x) else find l k := by
  induction l with
  | nil => simp [upd, find]
  | cons p r ih =>
    obtain ⟨q, v⟩ := p
    simp only [upd]
    by_cases hq : q = t
    · subst hq
      simp only [if_true, find_cons]
      by_cases hk : k = q
      · subst hk; simp
      · have : ¬ q = k := fun e => hk e.symm
        simp [hk, this]
    · simp only [hq, if_false, find_cons, ih]
      by_cases hk : k = t
      · subst hk
        simp [hq]
      · simp [hk]

theorem find_del {α : Type} (l : List (Nat × α)) (t k : Nat) : find (del l t) k = if k = t then none else find l k := by
  induction l with
  | nil => simp [del, find]
  | cons p r ih =>
    obtain ⟨q, v⟩ := p
    simp only [del]
    by_cases hq : q = t
    · subst hq
      simp only [if_true, find_cons, ih]
      by_cases hk : k = q
      · simp [hk]
      · have : ¬ q = k := fun e => hk e.symm
        simp [hk, this]
    · simp only [hq, if_false, find_cons, ih]
      by_cases hk : k = t
      · subst hk
        simp [hq]
      · simp [hk]

variable {P : Program} {M A : Nat → Prop} {ρ : Env} {F : Nat → Prop} {st : St} {a : Act} {w : World}

theorem Rel.forget (h : Rel M A ρ F st a w) {st' : St} (hn : st'.n = st.n) (ht : ∀ t v, find st'.tmps t = some v → find st.tmps t = some v)
    (hh : ∀ id b, find st'.heap id = some b → find st.heap id = some b) : Rel M A ρ F st' a w :=
  ⟨h.size.trans hn.symm, h.defers, fun t v hv => h.tmps t v (ht t v hv), fun id b hb => h.heap id b (hh id b hb),
   fun id id' blk blk' b h1 h2 => h.inj id id' blk blk' b (hh _ _ h1) (hh _ _ h2), h.fresh, h.bound, h.may, h.glob⟩

theorem Rel.drop (h : Rel M A ρ F st a w) (id : Nat) : Rel M A ρ F { st with heap := del st.heap id } a w :=
  h.forget rfl (fun _ _ h => h) (fun k b hk => by
    simp only [find_del] at hk
    split at hk
    · simp at hk
    · exact hk)

theorem shape_setRow {w : World} {b : Nat} {c c' : Array Value} {e : TypeId} (hc : w.heap[b]? = some (.cells c e (0, 0))) (hsize : c'.size = c.size) (k : Nat) : (w.setRow b c').shape? k = w.shape? k := by
  by_cases hk : k = b
  · subst hk
    simp [World.shape?, setRow_heap w k c c' e _ hc, hc, hsize]
  · simp [World.shape?, setRow_other w b k c' hk]

theorem Evo.setRow {w : World} {b : Nat} {c c' : Array Value} {e : TypeId} (hc : w.heap[b]? = some (.cells c e (0, 0))) (hsize : c'.size = c.size) (hM : M b) : Evo M w (w.setRow b c') :=
  ⟨rfl, rfl, rfl, by simp, fun k _ hn => setRow_other w b k c' (fun e => hn (e ▸ hM)), fun k _ => shape_setRow hc hsize k⟩

/-- The row of an id is written; the id may get another name (nid), if its block is no longer named by the old one. -/
theorem Rel.write (h : Rel M A ρ F st a w) {id sz : Nat} {xs xs' : List (List C)} {b : Nat} {c c' : Array Value} {e : TypeId}
    (hf : find st.heap id = some (.row sz xs)) (hρ : ρ id = some (.cel b)) (hc : w.heap[b]? = some (.cells c e (0, 0))) (hsize : c'.size = c.size)
    (hsz : ∀ el, el ∈ xs' → el.length = sz) (hlen : xs'.length * sz ≤ c'.size)
    (hcell : ∀ (i : Nat) (el : List C) (j : Nat) (k : C), xs'[i]? = some el → el[j]? = some k → ∃ x, c'[i * sz + j]? = some x ∧ RC w A ρ k x ∧ isCell x = true) :
    Rel M A ρ F { st with heap := upd st.heap id (.row sz xs') } a (w.setRow b c') ∧ Evo M w (w.setRow b c') := by
  obtain ⟨hb, hM, hA⟩ := (h.heap id _ hf).lt hρ
  have hk : Keeps A A w (w.setRow b c') := ⟨by simp, fun k _ hn => ⟨setRow_other w b k c' (fun e => hn (e ▸ hA)), hn⟩⟩
  have hs : ∀ k, k < w.heap.size → (w.setRow b c').shape? k = w.shape? k := fun k _ => shape_setRow hc hsize k
  refine ⟨⟨h.size, h.defers, fun t v hv => (h.tmps t v hv).keeps hk hs (Ext.refl _), ?_, ?_, h.fresh, ?_, ?_, h.glob.evo (Evo.setRow hc hsize hM) (fun _ _ h => h)⟩, Evo.setRow hc hsize hM⟩
  · intro k blk hfk
    simp only [find_upd] at hfk
    split at hfk
    · rename_i ek
      subst ek
      simp only [hf, Option.map_some, Option.some.injEq] at hfk
      subst hfk
      refine ⟨hsz, .inl ⟨b, c', e, hρ, hM, hA, setRow_heap w b c c' e _ hc, hlen, fun i el j q hi hj => ?_⟩⟩
      obtain ⟨x, hx, hr, h1⟩ := hcell i el j q hi hj
      exact ⟨x, hx, hr.keeps hk hs (Ext.refl _), h1⟩
    · rename_i ek
      refine (h.heap k blk hfk).keeps hk hs (Ext.refl _) (fun _ h => h) (fun b' hb' => setRow_other w b b' c' (fun e => ek ?_))
      subst e
      exact h.inj k id blk _ b' hfk hf hb' hρ
  · intro k k' blk blk' b' h1 h2 r1 r2
    have g : ∀ q bl, find (upd st.heap id (.row sz xs')) q = some bl → ∃ bl', find st.heap q = some bl' := by
      intro q bl hq
      simp only [find_upd] at hq
      split at hq
      · rename_i e; subst e; exact ⟨_, hf⟩
      · exact ⟨_, hq⟩
    obtain ⟨bl1, g1⟩ := g k blk h1
    obtain ⟨bl2, g2⟩ := g k' blk' h2
    exact h.inj k k' bl1 bl2 b' g1 g2 r1 r2
  · intro q hq; simpa using h.bound q hq
  · intro q hq; exact h.may q (by simpa using hq)

/-- An id gets a new name. -/
theorem Rel.rename (h : Rel M A ρ F st a w) {id nid : Nat} {blk : Blk} (hf : find st.heap id = some blk) (hn : F nid) :
    ∃ l, ρ id = some l ∧ Rel M A (updE ρ nid l) (Sub F nid) { st with heap := (nid, blk) :: del st.heap id } a w ∧ Ext ρ (updE ρ nid l) := by
  have hb := h.heap id blk hf
  have hl : ∃ l, ρ id = some l := by
    cases blk with
    | row sz xs => rcases hb.2 with ⟨b, c, e, k1, _⟩ | ⟨k1, _⟩ <;> exact ⟨_, k1⟩
    | mp es clock => obtain ⟨b, en, k1, _⟩ := hb; exact ⟨_, k1⟩
  obtain ⟨l, hl⟩ := hl
  have hnone := h.fresh nid hn
  have hext : Ext ρ (updE ρ nid l) := Ext.upd hnone
  have hk : Keeps A A w w := ⟨Nat.le_refl _, fun b _ hn => ⟨rfl, hn⟩⟩
  refine ⟨l, hl, ⟨h.size, h.defers, fun t v hv => (h.tmps t v hv).keeps hk (fun _ _ => rfl) hext, ?_, ?_, ?_, h.bound, h.may, h.glob⟩, hext⟩
  · intro k bl hk'
    simp only [find_cons] at hk'
    split at hk'
    · rename_i ek
      subst ek
      simp only [Option.some.injEq] at hk'
      subst hk'
      cases blk with
      | row sz xs =>
        refine ⟨hb.1, ?_⟩
        rcases hb.2 with ⟨b, c, e, k1, k2, k3, k4, k5, k6⟩ | ⟨k1, k2⟩
        · rw [hl] at k1
          refine .inl ⟨b, c, e, by simp [updE, k1], k2, k3, k4, k5, fun i el j q hi hj => ?_⟩
          obtain ⟨x, hx, hr, h1⟩ := k6 i el j q hi hj
          exact ⟨x, hx, hr.keeps hk (fun _ _ => rfl) hext, h1⟩
        · rw [hl] at k1
          exact .inr ⟨by simp [updE, k1], k2⟩
      | mp es clock =>
        obtain ⟨b, en, k1, k2, k3, k4, k5, k6⟩ := hb
        rw [hl] at k1
        refine ⟨b, en, by simp [updE, k1], k2, k3, k4, k5, fun i k c n hi => ?_⟩
        obtain ⟨e, h1, h2, h3, h4, h5⟩ := k6 i k c n hi
        exact ⟨e, h1, h2, h3, h4.keeps hk (fun _ _ => rfl) hext, h5⟩
    · simp only [find_del] at hk'
      split at hk'
      · simp at hk'
      · exact (h.heap k bl hk').keeps hk (fun _ _ => rfl) hext (fun _ h => h) (fun _ _ => rfl)
  · intro k k' bl bl' b h1 h2 r1 r2
    simp only [find_cons, find_del] at h1 h2
    simp only [updE] at r1 r2
    by_cases e1 : nid = k <;> by_cases e2 : nid = k'
    · omega
    · exfalso
      simp only [e2, if_false] at h2
      have n2 : ¬ k' = nid := fun e => e2 e.symm
      simp only [n2, if_false] at r2
      simp only [e1.symm, if_true, Option.some.injEq] at r1
      by_cases e3 : k' = id
      · simp [e3] at h2
      · simp only [e3, if_false] at h2
        exact e3 (h.inj k' id bl' blk b h2 hf r2 (r1 ▸ hl))
    · exfalso
      simp only [e1, if_false] at h1
      have n1 : ¬ k = nid := fun e => e1 e.symm
      simp only [n1, if_false] at r1
      simp only [e2.symm, if_true, Option.some.injEq] at r2
      by_cases e3 : k = id
      · simp [e3] at h1
      · simp only [e3, if_false] at h1
        exact e3 (h.inj k id bl blk b h1 hf r1 (r2 ▸ hl))
    · simp only [e1, e2, if_false] at h1 h2
      have n1 : ¬ k = nid := fun e => e1 e.symm
      have n2 : ¬ k' = nid := fun e => e2 e.symm
      simp only [n1, n2, if_false] at r1 r2
      by_cases e3 : k = id <;> by_cases e4 : k' = id <;> simp only [e3, e4, if_true, if_false] at h1 h2 <;> try (simp at h1; done)
      · simp at h2
      · exact h.inj k k' bl bl' b h1 h2 r1 r2
  · intro k hk'
    have : ¬ k = nid := fun e => hk'.2 ⟨by omega, by omega⟩
    simp only [updE, this, if_false]
    exact h.fresh k hk'.1

/-- Cells laid over others from place j on. -/
def splice {α : Type} (xs : List α) (j : Nat) (ys : List α) : List α := xs.take j ++ ys ++ xs.drop (j + ys.length)

theorem splice_length {α : Type} {xs : List α} {j : Nat} {ys : List α} (h : j + ys.length ≤ xs.length) : (splice xs j ys).length = xs.length := by
  simp [splice]; omega

theorem splice_get {α : Type} {xs : List α} {j : Nat} {ys : List α} (h : j + ys.length ≤ xs.length) (k : Nat) :
    (splice xs j ys)[k]? = if j ≤ k ∧ k < j + ys.length then ys[k - j]? else xs[k]? := by
  unfold splice
  have hj : (xs.take j).length = j := by simp; omega
  by_cases h1 : k < j
  · have n1 : ¬ (j ≤ k ∧ k < j + ys.length) := by omega
    rw [if_neg n1, List.append_assoc, List.getElem?_append_left (by omega), List.getElem?_take, if_pos h1]
  · by_cases h2 : k < j + ys.length
    · rw [if_pos ⟨by omega, h2⟩, List.append_assoc, List.getElem?_append_right (by omega), hj, List.getElem?_append_left (by omega)]
    · have n1 : ¬ (j ≤ k ∧ k < j + ys.length) := by omega
      rw [if_neg n1, List.getElem?_append_right (by simp; omega), List.getElem?_drop]
      congr 1
      simp
      omega

def evalStore (P : Program) (t : TypeId) (p v : V) (heap : List (Nat × Blk)) : Option (List (Nat × Blk)) :=
  match p, v with
  | .w (.one (.ptr id sz i j)), .w u =>
    match find heap id, sizeT P t with
    | some (.row sz' xs), some n =>
      match xs[i]? with
      | some el => if sz' = sz ∧ (cellsOf u).length = n ∧ j + n ≤ el.length then some (upd heap id (.row sz (xs.set i (splice el j (cellsOf u))))) else none
      | none => none
    | _, _ => none
  | _, _ => none

theorem evalStore_sound {t : TypeId} {p v : V} {x y : Value} {heap' : List (Nat × Blk)} (h : Rel M A ρ F st a w) (he : evalStore P t p v st.heap = some heap')
    (hp : RV w A ρ p x) (hv : RV w A ρ v y) : ∃ w', (Instr.storeAt t x y).run P w = .ok () w' ∧ Rel M A ρ F { st with heap := heap' } a w' ∧ Evo M w w' := by
  unfold evalStore at he
  split at he
  · rename_i id sz i j u
    split at he
    · rename_i sz' xs n hf hn
      split at he
      · rename_i el hel
        split at he
        · rename_i hc
          obtain ⟨rfl, hu, hjn⟩ := hc
          simp only [Option.some.injEq] at he
          subst he
          obtain ⟨b, hρ, rfl⟩ := hp.1
          obtain ⟨hsz, hb⟩ := h.heap id _ hf
          rcases hb with ⟨b', c, e, k1, k2, k3, k4, k5, k6⟩ | ⟨h2, _⟩
          · rw [hρ] at k1
            simp only [Option.some.injEq, Loc.cel.injEq] at k1
            subst k1
            have hcs := RW.cells hv
            have hlen : el.length = sz' := hsz el (List.mem_of_getElem? hel)
            have hi : i < xs.length := (List.getElem?_eq_some_iff.1 hel).1
            have hfit : i * sz' + j + y.cells.toList.length ≤ c.size := by
              have h1 : y.cells.toList.length = n := by simp [← hcs.1, hu]
              have h2 : (i + 1) * sz' ≤ xs.length * sz' := Nat.mul_le_mul_right _ hi
              rw [Nat.add_mul] at h2
              omega
            have hone : ∀ q ∈ y.cells.toList, q.oneCell' = true := by
              intro q hq
              obtain ⟨k, hk, rfl⟩ := List.getElem_of_mem hq
              have hk' : k < (cellsOf u).length := by simp at hk; rw [hcs.1]; exact hk
              have hkc : k < y.cells.size := by simpa using hk
              exact (hcs.2 k (cellsOf u)[k] y.cells[k] (by simp [hk']) (by simp [hkc])).2
            have hrun := run_storeCells_at P b (i * sz' + j) e y.cells.toList 0 c w k4 (by simpa using hfit) hone
            simp only [Nat.add_zero] at hrun
            have hcl : c.toList.length = c.size := by simp
            obtain ⟨r1, r2⟩ := h.write (c' := (splice c.toList (i * sz' + j) y.cells.toList).toArray) (xs' := xs.set i (splice el j (cellsOf u))) hf hρ k4
              (by simp only [List.size_toArray]; rw [splice_length (by omega)]; simp)
              (fun el' hel' => by
                rcases List.mem_or_eq_of_mem_set hel' with h1 | h1
                · exact hsz el' h1
                · rw [h1, splice_length (by omega)]; exact hlen)
              (by simp only [List.length_set, List.size_toArray]; rw [splice_length (by omega)]; simpa using k5)
              (fun i' el' j' q hi' hj' => by
                simp only [List.getElem?_toArray]
                rw [splice_get (by omega)]
                have hyl : y.cells.toList.length = (cellsOf u).length := by simp [hcs.1]
                by_cases hii : i' = i
                · subst hii
                  rw [List.getElem?_set_self hi] at hi'
                  simp only [Option.some.injEq] at hi'
                  subst hi'
                  rw [splice_get (by omega)] at hj'
                  split at hj'
                  · rename_i hin
                    have hk' : j' - j < y.cells.size := by rw [← hcs.1]; omega
                    refine ⟨y.cells[j' - j], ?_, hcs.2 (j' - j) q _ hj' (by simp [hk'])⟩
                    rw [if_pos (by omega)]
                    rw [show i' * sz' + j' - (i' * sz' + j) = j' - j by omega]
                    simp [hk']
                  · rename_i hin
                    rw [if_neg (by omega)]
                    obtain ⟨z, hz, hr, h1⟩ := k6 i' el j' q hel hj'
                    exact ⟨z, by simpa using hz, hr, h1⟩
                · rw [List.getElem?_set_ne (fun e => hii e.symm)] at hi'
                  have hl' : el'.length = sz' := hsz el' (List.mem_of_getElem? hi')
                  have hj2 : j' < sz' := by rw [← hl']; exact (List.getElem?_eq_some_iff.1 hj').1
                  have hout : ¬ (i * sz' + j ≤ i' * sz' + j' ∧ i' * sz' + j' < i * sz' + j + y.cells.toList.length) := by
                    intro hh
                    rcases Nat.lt_or_gt_of_ne hii with hlt | hgt
                    · have : (i' + 1) * sz' ≤ i * sz' := Nat.mul_le_mul_right _ hlt
                      rw [Nat.add_mul] at this
                      omega
                    · have : (i + 1) * sz' ≤ i' * sz' := Nat.mul_le_mul_right _ hgt
                      rw [Nat.add_mul] at this
                      omega
                  rw [if_neg hout]
                  obtain ⟨z, hz, hr, h1⟩ := k6 i' el' j' q hi' hj'
                  exact ⟨z, by simpa using hz, hr, h1⟩)
            refine ⟨_, ?_, r1, r2⟩
            have hsz2 : y.cells.size = n := by rw [← hcs.1, hu]
            simp only [Instr.storeAt, Instr.sureAddr, storeVar, Sem.run_bind, Sem.run_pure, Result.andThen_ok, run_sizeOf hn, hsz2, ne_eq, not_true_eq_false, if_false]
            simpa [splice] using hrun
          · simp [hρ] at h2
        · simp at he
      · simp at he
    · simp at he
  · simp at he

end Go.Abs
