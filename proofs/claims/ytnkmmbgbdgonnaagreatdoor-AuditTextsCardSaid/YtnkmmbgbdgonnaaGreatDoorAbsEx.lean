import Derived.Test.YtnkmmbgbdgonnaaGreatDoorAbsEr
namespace Go.Abs
open Go

variable {P : Program} {M A : Nat → Prop} {ρ : Env} {F : Nat → Prop} {st : St} {a : Act} {w : World}

abbrev bare (op : Op) (ty : TypeId) : Oper := ⟨none, op, ty, "", #[], none⟩

theorem execOp_bare (ev : Operand → Value) (o : Oper) : execOp ev (bare o.op o.type) = execOp ev o := by cases o; rfl
theorem evalPure_bare (get : Operand → V) (o : Oper) : evalPure P get (bare o.op o.type) = evalPure P get o := by cases o; rfl
theorem evalOp_bare (get : Operand → V) (hp : HS) (nid : Nat) (o : Oper) : evalOp P get hp nid (bare o.op o.type) = evalOp P get hp nid o := by cases o; rfl
theorem callOf_bare (get : Operand → V) (o : Oper) : callOf get (bare o.op o.type) = callOf get o := by cases o; rfl

theorem shape_setObj {w : World} {b : Nat} {en en' : Array MapEntry} {c c' : Nat} (hb : w.heap[b]? = some (.map en c)) (k : Nat) : ({ w with heap := w.heap.setIfInBounds b (.map en' c') } : World).shape? k = w.shape? k := by
  simp only [World.shape?]
  by_cases hk : b = k
  · subst hk
    have hlt : b < w.heap.size := by
      rcases Nat.lt_or_ge b w.heap.size with h | h
      · exact h
      · simp [Array.getElem?_eq_none h] at hb
    have e : (w.heap.setIfInBounds b (.map en' c'))[b]? = some (.map en' c') := by simp [hlt]
    rw [e, hb]
  · rw [Array.getElem?_setIfInBounds_ne hk]

theorem Rel.setMap (h : Rel M A ρ F st a w) {id clock clock' : Nat} {es es' : List (Value × C × Nat)} {b : Nat} {en en' : Array MapEntry}
    (hf : find st.heap id = some (.mp es clock)) (hρ : ρ id = some (.cel b)) (hb : w.heap[b]? = some (.map en clock)) (hs : en'.size = es'.length)
    (hc : ∀ (i : Nat) (k : Value) (c : C) (n : Nat), es'[i]? = some (k, c, n) → ∃ e, en'[i]? = some e ∧ e.key = k ∧ e.born = n ∧ RC w A ρ c e.val ∧ isCell e.val = true) :
    Rel M A ρ F { st with heap := upd st.heap id (.mp es' clock') } a { w with heap := w.heap.setIfInBounds b (.map en' clock') } ∧ Evo M w { w with heap := w.heap.setIfInBounds b (.map en' clock') } := by
  obtain ⟨hlt, hM, hA⟩ := (h.heap id _ hf).lt hρ
  have hoth : ∀ k, k ≠ b → (w.heap.setIfInBounds b (.map en' clock'))[k]? = w.heap[k]? := fun k hk => Array.getElem?_setIfInBounds_ne (fun e => hk e.symm)
  have hk : Keeps A A w { w with heap := w.heap.setIfInBounds b (.map en' clock') } := ⟨by simp, fun k _ hn => ⟨hoth k (fun e => hn (e ▸ hA)), hn⟩⟩
  have hsh : ∀ k, k < w.heap.size → ({ w with heap := w.heap.setIfInBounds b (.map en' clock') } : World).shape? k = w.shape? k := fun k _ => shape_setObj hb k
  have hev : Evo M w { w with heap := w.heap.setIfInBounds b (.map en' clock') } := ⟨rfl, rfl, rfl, by simp, fun k _ ho => hoth k (fun e => ho (e ▸ hM)), hsh⟩
  refine ⟨⟨h.size, h.defers, fun t v hv => (h.tmps t v hv).keeps hk hsh (Ext.refl _), ?_, ?_, h.fresh, ?_, ?_, h.glob.evo hev (fun _ _ h => h)⟩, hev⟩
  · intro k blk hfk
    simp only [find_upd] at hfk
    split at hfk
    · rename_i ek
      subst ek
      simp only [hf, Option.map_some, Option.some.injEq] at hfk
      subst hfk
      refine ⟨b, en', hρ, hM, hA, by simp [hlt], hs, fun i k c n hi => ?_⟩
      obtain ⟨e, h1, h2, h3, h4, h5⟩ := hc i k c n hi
      exact ⟨e, h1, h2, h3, h4.keeps hk hsh (Ext.refl _), h5⟩
    · rename_i ek
      refine (h.heap k blk hfk).keeps hk hsh (Ext.refl _) (fun _ h => h) (fun b' hb' => hoth b' (fun e => ek ?_))
      subst e
      exact h.inj k id blk _ b' hfk hf hb' hρ
  · intro k k' blk blk' b' h1 h2 r1 r2
    have g : ∀ q bl, find (upd st.heap id (.mp es' clock')) q = some bl → ∃ bl', find st.heap q = some bl' := by
      intro q bl hq
      simp only [find_upd] at hq
      split at hq
      · rename_i e; subst e; exact ⟨_, hf⟩
      · exact ⟨_, hq⟩
    obtain ⟨bl1, g1⟩ := g k blk h1
    obtain ⟨bl2, g2⟩ := g k' blk' h2
    exact h.inj k k' bl1 bl2 b' g1 g2 r1 r2
  · intro q hq; simpa using h.bound q hq
  · intro q hq; exact h.may q (by simpa using hq)

theorem Rel.newMap (h : Rel M A ρ F st a w) {nid : Nat} (hn : F nid) :
    Rel M (fun b => A b ∨ b = w.heap.size) (updE ρ nid (.cel w.heap.size)) (Sub F nid) { st with heap := (nid, .mp [] 0) :: st.heap } a (w.alloc (.map #[] 0)) ∧ Ext ρ (updE ρ nid (.cel w.heap.size)) := by
  have hρ := h.fresh nid hn
  have hext : Ext ρ (updE ρ nid (.cel w.heap.size)) := Ext.upd hρ
  have hk := keeps_alloc (A := A) (w := w) (.map #[] 0)
  have hs := shape_alloc (w := w) (.map #[] 0)
  have hnew : (w.alloc (.map #[] 0)).heap[w.heap.size]? = some (.map #[] 0) := heap_alloc_new w _
  refine ⟨⟨h.size, h.defers, fun t v hv => (h.tmps t v hv).keeps hk hs hext, ?_, ?_, ?_, ?_, ?_, h.glob.evo (Evo.alloc _ _ _) (fun b hb h => h.elim id (fun e => by omega))⟩, hext⟩
  · intro id blk hf
    simp only [find_cons] at hf
    split at hf
    · rename_i e'
      subst e'
      simp only [Option.some.injEq] at hf
      subst hf
      exact ⟨w.heap.size, #[], by simp [updE], h.may _ (Nat.le_refl _), .inr rfl, hnew, rfl, fun i k c n hi => by simp at hi⟩
    · have hb := h.heap id blk hf
      exact hb.keeps hk hs hext (fun b hb => .inl hb) (fun b hbo => RowKit.Below.heap_alloc w _ b (hb.lt hbo).1)
  · intro id id' blk blk' b hf hf' hr hr'
    simp only [find_cons] at hf hf'
    simp only [updE] at hr hr'
    by_cases e1 : nid = id <;> by_cases e2 : nid = id'
    · omega
    · simp only [e2, if_false] at hf'
      have : ¬ id' = nid := fun e => e2 e.symm
      simp only [this, if_false] at hr'
      simp only [e1.symm, if_true, Option.some.injEq, Loc.cel.injEq] at hr
      have := ((h.heap id' blk' hf').lt hr').1
      omega
    · simp only [e1, if_false] at hf
      have : ¬ id = nid := fun e => e1 e.symm
      simp only [this, if_false] at hr
      simp only [e2.symm, if_true, Option.some.injEq, Loc.cel.injEq] at hr'
      have := ((h.heap id blk hf).lt hr).1
      omega
    · simp only [e1, e2, if_false] at hf hf'
      have n1 : ¬ id = nid := fun e => e1 e.symm
      have n2 : ¬ id' = nid := fun e => e2 e.symm
      simp only [n1, n2, if_false] at hr hr'
      exact h.inj id id' blk blk' b hf hf' hr hr'
  · intro id hi
    have : ¬ id = nid := fun e => hi.2 ⟨by omega, by omega⟩
    simp only [updE, this, if_false]
    exact h.fresh id hi.1
  · intro b hb
    simp only [World.alloc, Array.size_push]
    rcases hb with hb | hb
    · have := h.bound b hb; omega
    · omega
  · intro b hb
    refine h.may b ?_
    simp only [World.alloc, Array.size_push] at hb
    omega

/-- A new object that nobody owns. -/
theorem Rel.newFree (h : Rel M A ρ F st a w) (o : Obj) : Rel M A ρ F st a (w.alloc o) ∧ Evo M w (w.alloc o) := by
  have hk : Keeps A A w (w.alloc o) := ⟨by simp, fun b hlt hn => ⟨RowKit.Below.heap_alloc w o b hlt, hn⟩⟩
  have hs := shape_alloc (w := w) o
  refine ⟨⟨h.size, h.defers, fun t v hv => (h.tmps t v hv).keeps hk hs (Ext.refl _), fun id blk hf => ?_, h.inj, h.fresh, fun b hb => ?_, fun b hb => ?_, h.glob.evo (Evo.alloc _ _ _) (fun _ _ h => h)⟩, Evo.alloc M w o⟩
  · have hb := h.heap id blk hf
    exact hb.keeps hk hs (Ext.refl _) (fun _ h => h) (fun b hbo => RowKit.Below.heap_alloc w _ b (hb.lt hbo).1)
  · have := h.bound b hb
    simp only [World.alloc, Array.size_push]; omega
  · simp only [World.alloc, Array.size_push] at hb
    exact h.may b (by omega)

/-- A row, cut short. -/
theorem Rel.trunc (h : Rel M A ρ F st a w) {id sz : Nat} {xs : List (List C)} (hf : find st.heap id = some (.row sz xs)) (n : Nat) : Rel M A ρ F { st with heap := upd st.heap id (.row sz (xs.take n)) } a w := by
  refine ⟨h.size, h.defers, h.tmps, fun k blk hk => ?_, fun k k' blk blk' b h1 h2 r1 r2 => ?_, h.fresh, h.bound, h.may, h.glob⟩
  · simp only [find_upd] at hk
    split at hk
    · rename_i ek
      subst ek
      simp only [hf, Option.map_some, Option.some.injEq] at hk
      subst hk
      obtain ⟨h1, h2⟩ := h.heap k _ hf
      refine ⟨fun e he => h1 e (List.mem_of_mem_take he), ?_⟩
      rcases h2 with ⟨b, c, e, k1, k2, k3, k4, k5, k6⟩ | ⟨k1, k2⟩
      · refine .inl ⟨b, c, e, k1, k2, k3, k4, ?_, fun i el j q hi hj => ?_⟩
        · have : (xs.take n).length * sz ≤ xs.length * sz := Nat.mul_le_mul_right _ (by simp; omega)
          omega
        · have hi' : xs[i]? = some el := by
            rw [List.getElem?_take] at hi
            split at hi
            · exact hi
            · simp at hi
          exact k6 i el j q hi' hj
      · exact .inr ⟨k1, by simp [k2]⟩
    · exact h.heap k blk hk
  · have g : ∀ q bl, find (upd st.heap id (.row sz (xs.take n))) q = some bl → ∃ bl', find st.heap q = some bl' := by
      intro q bl hq
      simp only [find_upd] at hq
      split at hq
      · rename_i e; subst e; exact ⟨_, hf⟩
      · exact ⟨_, hq⟩
    obtain ⟨bl1, g1⟩ := g k blk h1
    obtain ⟨bl2, g2⟩ := g k' blk' h2
    exact h.inj k k' bl1 bl2 b g1 g2 r1 r2

end Go.Abs
