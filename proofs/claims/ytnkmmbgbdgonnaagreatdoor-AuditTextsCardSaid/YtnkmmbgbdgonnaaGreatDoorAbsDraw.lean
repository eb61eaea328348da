import Derived.Test.YtnkmmbgbdgonnaaGreatDoorAbsLocB
import Derived.Test.YtnkmmbgbdgonnaaGreatDoorAbsX
namespace Go.Abs
open Go

/-! A region that draws its order: the operations commute where no edge orders them. -/

variable {P : Program} {M A : Nat → Prop} {ρ : Env} {F : Nat → Prop} {a : Act} {w : World}

def setAll (ids : List Nat) (src h : HS) : HS :=
  ids.foldl (fun h id => match find src id with | some b => (id, b) :: del h id | none => del h id) h

theorem find_setAll (src : HS) (id : Nat) : ∀ (ids : List Nat) (h : HS), find (setAll ids src h) id = if id ∈ ids then find src id else find h id
  | [], h => by simp [setAll]
  | k :: r, h => by
    have ih := find_setAll src id r (match find src k with | some b => (k, b) :: del h k | none => del h k)
    simp only [setAll, List.foldl_cons] at ih ⊢
    rw [ih]
    by_cases hr : id ∈ r
    · simp [hr]
    · simp only [hr, if_false, List.mem_cons, or_false]
      by_cases hk : id = k
      · subst hk
        simp only [if_true]
        cases hs : find src id with
        | none => simp [find_del]
        | some b => simp [find_cons]
      · simp only [hk, if_false]
        have hk' : ¬ k = id := fun e => hk e.symm
        cases hs : find src k with
        | none => simp [find_del, hk]
        | some b => simp [find_cons, find_del, hk, hk']

section
variable (dst : Nat → Option Nat) (v : Nat → V) (wr : Nat → List Nat) (hpT : Nat → HS) (tm0 : TS) (hp0 : HS)

def tmD (L : Nat → Bool) : Nat → TS
  | 0 => tm0
  | i + 1 => if L i then putT (tmD L i) (dst i) (v i) else tmD L i

def hpD (L : Nat → Bool) : Nat → HS
  | 0 => hp0
  | i + 1 => if L i then setAll (wr i) (hpT (i + 1)) (hpD L i) else hpD L i

theorem find_putT (tm : TS) (d : Option Nat) (u : V) (t : Nat) : find (putT tm d u) t = if d = some t then some u else find tm t := by
  cases d with
  | none => simp [putT]
  | some d => simp only [putT, find_cons, Option.some.injEq]

theorem tm_agree (L1 L2 : Nat → Bool) (t : Nat) : ∀ k, (∀ i, i < k → dst i = some t → L1 i = L2 i) → find (tmD dst v tm0 L1 k) t = find (tmD dst v tm0 L2 k) t
  | 0, _ => rfl
  | k + 1, h => by
    have ih := tm_agree L1 L2 t k (fun i hi => h i (by omega))
    simp only [tmD]
    by_cases hd : dst k = some t
    · rw [h k (by omega) hd]
      split
      · simp only [find_putT, hd, if_true]
      · exact ih
    · have e : ∀ (L : Nat → Bool), find (if L k then putT (tmD dst v tm0 L k) (dst k) (v k) else tmD dst v tm0 L k) t = find (tmD dst v tm0 L k) t := by
        intro L
        split
        · simp only [find_putT, hd, if_false]
        · rfl
      rw [e L1, e L2, ih]

theorem tm_last (L : Nat → Bool) (t i : Nat) (hd : dst i = some t) (hL : L i = true) : ∀ k, i < k → (∀ j, i < j → j < k → dst j = some t → L j = false) → find (tmD dst v tm0 L k) t = some (v i)
  | 0, h, _ => by omega
  | k + 1, h, hj => by
    simp only [tmD]
    by_cases e : i = k
    · subst e
      simp only [hL, if_true, find_putT, hd]
    · have ih := tm_last L t i hd hL k (by omega) (fun j h1 h2 => hj j h1 (by omega))
      by_cases hk : dst k = some t
      · rw [hj k (by omega) (by omega) hk]
        exact ih
      · split
        · simp only [find_putT, hk, if_false]; exact ih
        · exact ih

theorem hp_agree (L1 L2 : Nat → Bool) (id : Nat) : ∀ k, (∀ i, i < k → id ∈ wr i → L1 i = L2 i) → find (hpD wr hpT hp0 L1 k) id = find (hpD wr hpT hp0 L2 k) id
  | 0, _ => rfl
  | k + 1, h => by
    have ih := hp_agree L1 L2 id k (fun i hi => h i (by omega))
    simp only [hpD]
    by_cases hd : id ∈ wr k
    · rw [h k (by omega) hd]
      split
      · simp only [find_setAll, hd, if_true]
      · exact ih
    · have e : ∀ (L : Nat → Bool), find (if L k then setAll (wr k) (hpT (k + 1)) (hpD wr hpT hp0 L k) else hpD wr hpT hp0 L k) id = find (hpD wr hpT hp0 L k) id := by
        intro L
        split
        · simp only [find_setAll, hd, if_false]
        · rfl
      rw [e L1, e L2, ih]

theorem hp_last (L : Nat → Bool) (id i : Nat) (hd : id ∈ wr i) (hL : L i = true) : ∀ k, i < k → (∀ j, i < j → j < k → id ∈ wr j → L j = false) → find (hpD wr hpT hp0 L k) id = find (hpT (i + 1)) id
  | 0, h, _ => by omega
  | k + 1, h, hj => by
    simp only [hpD]
    by_cases e : i = k
    · subst e
      simp only [hL, if_true, find_setAll, hd]
    · have ih := hp_last L id i hd hL k (by omega) (fun j h1 h2 => hj j h1 (by omega))
      by_cases hk : id ∈ wr k
      · rw [hj k (by omega) (by omega) hk]
        exact ih
      · split
        · simp only [find_setAll, hk, if_false]; exact ih
        · exact ih

theorem tm_text (tmT : Nat → TS) (N : Nat) (h0 : tmT 0 = tm0) (hs : ∀ i, i < N → ∀ t, find (tmT (i + 1)) t = find (putT (tmT i) (dst i) (v i)) t) (L : Nat → Bool) (t : Nat) : ∀ k, k ≤ N → (∀ i, i < k → L i = true) → find (tmD dst v tm0 L k) t = find (tmT k) t
  | 0, _, _ => by rw [h0]; rfl
  | k + 1, hk, hL => by
    simp only [tmD, hL k (by omega), if_true]
    rw [hs k (by omega) t, find_putT, find_putT, tm_text tmT N h0 hs L t k (by omega) (fun i hi => hL i (by omega))]

theorem hp_text (N : Nat) (h0 : hpT 0 = hp0) (hs : ∀ i, i < N → ∀ id, ¬ id ∈ wr i → find (hpT (i + 1)) id = find (hpT i) id) (L : Nat → Bool) (id : Nat) : ∀ k, k ≤ N → (∀ i, i < k → L i = true) → find (hpD wr hpT hp0 L k) id = find (hpT k) id
  | 0, _, _ => by rw [h0]; rfl
  | k + 1, hk, hL => by
    simp only [hpD, hL k (by omega), if_true, find_setAll]
    split
    · rfl
    · rename_i hn
      rw [hp_text N h0 hs L id k (by omega) (fun i hi => hL i (by omega)), hs k (by omega) id hn]

/-- Nothing is carried out from i on. -/
theorem tmD_stop (i : Nat) (t : Nat) : ∀ k, i ≤ k → find (tmD dst v tm0 (fun j => decide (j < i)) k) t = find (tmD dst v tm0 (fun j => decide (j < i)) i) t
  | 0, h => by have : i = 0 := by omega
               subst this; rfl
  | k + 1, h => by
    by_cases e : i = k + 1
    · subst e; rfl
    · have ih := tmD_stop i t k (by omega)
      have hn : decide (k < i) = false := by simp; omega
      simp only [tmD]
      rw [if_neg (by simp; omega)]
      exact ih

theorem hpD_stop (i : Nat) (id : Nat) : ∀ k, i ≤ k → find (hpD wr hpT hp0 (fun j => decide (j < i)) k) id = find (hpD wr hpT hp0 (fun j => decide (j < i)) i) id
  | 0, h => by have : i = 0 := by omega
               subst this; rfl
  | k + 1, h => by
    by_cases e : i = k + 1
    · subst e; rfl
    · have ih := hpD_stop i id k (by omega)
      simp only [hpD]
      rw [if_neg (by simp; omega)]
      exact ih
end

/-- One operation, run in any state that fits. -/
theorem StepOk.sound {ops : Array Oper} {o : Oper} {i n nid : Nat} {tm : TS} {hp hp' : HS} {v : V} {Q : Exit → Act → World → Prop} {K' : Act → World → Prop} (hi : ops[i]? = some o)
    (h : StepOk P ops o n tm hp nid v hp') (hr : Rel M A ρ F ⟨n, tm, hp⟩ a w) (hF : ∀ k, nid ≤ k → k < nid + 4 → F k)
    (hk : ∀ a' w' A' ρ', Rel M A' ρ' (Sub F nid) ⟨n, putT tm o.dst v, hp'⟩ a' w' → Evo M w w' → Ext ρ ρ' → Grow A A' w → K' a' w') : wpOp P ops Q i K' a w := by
  obtain ⟨hd, h⟩ := h
  have hd' := dstOk_spec hd
  unfold wpOp
  simp only [hi]
  have fin : ∀ {a2 : Act} {w2 : World} {A2 : Nat → Prop} {ρ2 : Env} {x : Value} {hp2 : HS}, Rel M A2 ρ2 (Sub F nid) ⟨n, tm, hp2⟩ a2 w2 → RV w2 A2 ρ2 v x → Rel M A2 ρ2 (Sub F nid) ⟨n, putT tm o.dst v, hp2⟩ (a2.put o.dst x) w2 := by
    intro a2 w2 A2 ρ2 x hp2 r1 r2
    have := r1.put (dst := o.dst) r2 hd'
    rw [putT_eq'] at this
    exact this
  split at h
  · exact h.elim
  · rename_i hg
    have := evalGuard_sound hr hg
    simp only [this, Bool.false_eq_true, if_false]
    obtain ⟨rfl, rfl⟩ := h
    exact hk _ _ A ρ (fin (hr.sub fun id h => h.1) undef_tup) (Evo.refl _ _) (Ext.refl _) (Grow.refl _ _)
  · rename_i hg
    have := evalGuard_sound hr hg
    simp only [this, if_true]
    refine .inl ?_
    split at h
    · rename_i g us hc
      obtain ⟨he, hct⟩ := h
      obtain ⟨xs, hx, hxs⟩ := callOf_sound (P := P) hr hc he
      simp only [Oper.wp, hx, Oper.upon]
      refine (CallTo.sound hr hF hct hxs).mono ?_
      rintro e w' ⟨x, A', ρ', rfl, r1, r2, r3, r4, r5⟩
      exact hk _ _ A' ρ' (fin r1 r2) r3 r4 r5
    · obtain ⟨x, w', A', ρ', hrun, r1, r2, r3, r4, r5⟩ := evalOp_sound h hr (hF nid (Nat.le_refl _) (by omega))
      rcases hrun with hrun | ⟨hrun, rfl⟩
      · simp only [Oper.wp, hrun, Oper.upon]
        exact hk _ _ A' ρ' (fin r1 r2) r3 r4 r5
      · simp only [Oper.wp, hrun, Oper.upon]
        exact hk _ _ A' ρ' (fin r1 r2) r3 r4 r5


def edgesOf (o : Oper) : List Nat := (o.after.toList.filter (Region.binds .any)).map (·.on)

/-- For each operation the set of those that must come before it, as a number's bits. -/
def ancL : List (List Nat) → List Nat → List Nat
  | [], acc => acc
  | es :: r, acc => ancL r (acc ++ [es.foldl (fun s e => s ||| 2 ^ e ||| acc.getD e 0) 0])

theorem ancL_pre : ∀ (r : List (List Nat)) (acc : List Nat), ∃ tail, ancL r acc = acc ++ tail ∧ tail.length = r.length
  | [], acc => ⟨[], by simp [ancL]⟩
  | es :: r, acc => by
    obtain ⟨tail, h1, h2⟩ := ancL_pre r (acc ++ [es.foldl (fun s e => s ||| 2 ^ e ||| acc.getD e 0) 0])
    exact ⟨_ :: tail, by simp only [ancL]; rw [h1, List.append_assoc]; rfl, by simp [h2]⟩

theorem ancL_get : ∀ (r : List (List Nat)) (acc : List Nat) (k : Nat) (es : List Nat), r[k]? = some es → (∀ e, e ∈ es → e < acc.length + k) →
    (ancL r acc).getD (acc.length + k) 0 = es.foldl (fun s e => s ||| 2 ^ e ||| (ancL r acc).getD e 0) 0
  | [], acc, k, es, h, _ => by simp at h
  | es0 :: r, acc, 0, es, h, he => by
    simp only [List.getElem?_cons_zero, Option.some.injEq] at h
    subst h
    simp only [ancL, Nat.add_zero]
    obtain ⟨tail, h1, _⟩ := ancL_pre r (acc ++ [es0.foldl (fun s e => s ||| 2 ^ e ||| acc.getD e 0) 0])
    rw [h1]
    have e1 : ∀ e, e ∈ es0 → (acc ++ [es0.foldl (fun s e => s ||| 2 ^ e ||| acc.getD e 0) 0] ++ tail).getD e 0 = acc.getD e 0 := by
      intro e hm
      have := he e hm
      simp only [List.getD_eq_getElem?_getD, List.append_assoc]
      rw [List.getElem?_append_left (by omega)]
    have e2 : (acc ++ [es0.foldl (fun s e => s ||| 2 ^ e ||| acc.getD e 0) 0] ++ tail).getD acc.length 0 = es0.foldl (fun s e => s ||| 2 ^ e ||| acc.getD e 0) 0 := by
      simp [List.getD_eq_getElem?_getD]
    rw [e2]
    have gen : ∀ (l : List Nat) (s : Nat), (∀ e, e ∈ l → e ∈ es0) → l.foldl (fun s e => s ||| 2 ^ e ||| acc.getD e 0) s = l.foldl (fun s e => s ||| 2 ^ e ||| (acc ++ [es0.foldl (fun s e => s ||| 2 ^ e ||| acc.getD e 0) 0] ++ tail).getD e 0) s := by
      intro l
      induction l with
      | nil => intro s _; rfl
      | cons x l ih =>
        intro s hs
        simp only [List.foldl_cons]
        rw [e1 x (hs x (by simp)), ih _ (fun e h => hs e (by simp [h]))]
    exact gen es0 0 (fun _ h => h)
  | es0 :: r, acc, k + 1, es, h, he => by
    have := ancL_get r (acc ++ [es0.foldl (fun s e => s ||| 2 ^ e ||| acc.getD e 0) 0]) k es (by simpa using h) (fun e hm => by have := he e hm; simp; omega)
    simp only [ancL]
    rw [show acc.length + (k + 1) = (acc ++ [es0.foldl (fun s e => s ||| 2 ^ e ||| acc.getD e 0) 0]).length + k by simp; omega]
    exact this

theorem testBit_foldl (g : Nat → Nat) (j : Nat) : ∀ (l : List Nat) (s : Nat), (l.foldl (fun s e => s ||| 2 ^ e ||| g e) s).testBit j = true → s.testBit j = true ∨ ∃ e, e ∈ l ∧ (j = e ∨ (g e).testBit j = true)
  | [], s, h => .inl h
  | e :: r, s, h => by
    simp only [List.foldl_cons] at h
    rcases testBit_foldl g j r _ h with h | ⟨e', h1, h2⟩
    · simp only [Nat.testBit_or, Bool.or_eq_true, Nat.testBit_two_pow, decide_eq_true_eq] at h
      rcases h with (h | h) | h
      · exact .inl h
      · exact .inr ⟨e, by simp, .inl h.symm⟩
      · exact .inr ⟨e, by simp, .inr h⟩
    · exact .inr ⟨e', by simp [h1], h2⟩

/-- A set that is closed under edges holds whatever must come before its members. -/
theorem anc_closed {Es : List (List Nat)} (hE : ∀ (i : Nat) (es : List Nat), Es[i]? = some es → ∀ e, e ∈ es → e < i) {L : Nat → Bool} : ∀ (i : Nat), i < Es.length →
    (∀ (k : Nat) (es : List Nat), k < i → L k = true → Es[k]? = some es → ∀ e, e ∈ es → L e = true) → (∀ (es : List Nat), Es[i]? = some es → ∀ e, e ∈ es → L e = true) → ∀ j, ((ancL Es []).getD i 0).testBit j = true → L j = true ∧ j < i := by
  intro i
  induction i using Nat.strongRecOn with
  | _ i ih =>
    intro hi hcl hE' j hb
    obtain ⟨es, hes⟩ : ∃ es, Es[i]? = some es := ⟨Es[i], by simp [hi]⟩
    have := ancL_get Es [] i es hes (fun e he => by simpa using hE i es hes e he)
    simp only [List.length_nil, Nat.zero_add] at this
    rw [this] at hb
    rcases testBit_foldl _ j es 0 hb with h | ⟨e, he, h⟩
    · simp at h
    · have hlt := hE i es hes e he
      have hLe := hE' es hes e he
      rcases h with rfl | h
      · exact ⟨hLe, hlt⟩
      · obtain ⟨h1, h2⟩ := ih e hlt (by omega) (fun k es' hk => hcl k es' (by omega)) (fun es' hes' e' he' => hcl e es' hlt hLe hes' e' he') j h
        exact ⟨h1, by omega⟩

def disj (l r : List Nat) : Bool := l.all fun x => !r.contains x

theorem disj_spec {l r : List Nat} (h : disj l r = true) {x : Nat} (hx : x ∈ l) (hy : x ∈ r) : False := by
  have := List.all_eq_true.1 h x hx
  simp only [Bool.not_eq_true', List.contains_eq_mem] at this
  simp [hy] at this

/-- What an operation of a region does, for the check: its destination, the temporaries it looks at, the blocks it looks at, and those it writes. -/
structure Foot where
  dst : Option Nat
  nm : List Nat
  rd : List Nat
  wr : List Nat

def Foot.apart (f g : Foot) : Bool :=
  disj f.dst.toList g.nm && disj g.dst.toList f.nm && disj f.dst.toList g.dst.toList && disj f.wr g.rd && disj g.wr f.rd && disj f.wr g.wr

def drawOk (Es : List (List Nat)) (fs : List Foot) : Bool :=
  let bits := ancL Es []
  (List.range fs.length).all fun j => match fs[j]? with
    | some g => (List.range j).all fun i => match fs[i]? with
      | some f => (bits.getD j 0).testBit i || f.apart g
      | none => true
    | none => true

theorem drawOk_spec {Es : List (List Nat)} {fs : List Foot} (h : drawOk Es fs = true) {i j : Nat} {f g : Foot} (hij : i < j) (hf : fs[i]? = some f) (hg : fs[j]? = some g) :
    ((ancL Es []).getD j 0).testBit i = true ∨ f.apart g = true := by
  unfold drawOk at h
  have hj : j < fs.length := (List.getElem?_eq_some_iff.1 hg).1
  have := List.all_eq_true.1 h j (List.mem_range.2 hj)
  simp only [hg] at this
  have := List.all_eq_true.1 this i (List.mem_range.2 hij)
  simp only [hf, Bool.or_eq_true] at this
  exact this


theorem exists_least {p : Nat → Bool} : ∀ {N : Nat}, (∃ i, i < N ∧ p i = false) → ∃ i, i < N ∧ p i = false ∧ ∀ j, j < i → p j = true
  | 0, ⟨i, h, _⟩ => by omega
  | N + 1, ⟨i, h, hp⟩ => by
    by_cases hq : ∃ i, i < N ∧ p i = false
    · obtain ⟨k, h1, h2, h3⟩ := exists_least hq
      exact ⟨k, by omega, h2, h3⟩
    · have hi : i = N := by
        rcases Nat.lt_or_ge i N with hl | hl
        · exact absurd ⟨i, hl, hp⟩ hq
        · omega
      subst hi
      refine ⟨i, by omega, hp, fun j hj => ?_⟩
      cases hpj : p j with
      | true => rfl
      | false => exact absurd ⟨j, hj, hpj⟩ hq

def cntF (L : Nat → Bool) : Nat → Nat
  | 0 => 0
  | k + 1 => cntF L k + if L k then 0 else 1

theorem cntF_zero {L : Nat → Bool} : ∀ {k : Nat}, cntF L k = 0 → ∀ i, i < k → L i = true
  | 0, _, i, hi => by omega
  | k + 1, h, i, hi => by
    simp only [cntF] at h
    by_cases e : i = k
    · subst e
      cases hL : L i with
      | true => rfl
      | false => simp [hL] at h
    · exact cntF_zero (k := k) (by omega) i (by omega)

theorem cntF_set {L L' : Nat → Bool} {i : Nat} (hi : L i = false) (hi' : L' i = true) (hne : ∀ j, j ≠ i → L' j = L j) : ∀ {k : Nat}, i < k → cntF L' k + 1 = cntF L k
  | 0, h => by omega
  | k + 1, h => by
    simp only [cntF]
    by_cases e : i = k
    · subst e
      have same : ∀ {m : Nat}, m ≤ i → cntF L' m = cntF L m := by
        intro m
        induction m with
        | zero => intro _; rfl
        | succ m ih => intro hm; simp only [cntF]; rw [ih (by omega), hne m (by omega)]
      rw [same (Nat.le_refl _), hi, hi']
      simp
    · have := cntF_set hi hi' hne (k := k) (by omega)
      rw [hne k (fun e' => e e'.symm)]
      omega

/-- Where a piece of code ends, no block renamed. -/
def PostX (M A : Nat → Prop) (ρ : Env) (w : World) (Q : St → Nat → Prop) (a' : Act) (w' : World) : Prop :=
  ∃ st' ctr' A' ρ', Q st' ctr' ∧ Rel M A' ρ' (From ctr') st' a' w' ∧ Evo M w w' ∧ Ext ρ ρ' ∧ Grow A A' w

theorem PostX.to4 {Q : St → Nat → Prop} {a' : Act} {w' : World} (h : PostX M A ρ w Q a' w') : Post M A ρ w Q a' w' := by
  obtain ⟨st', c', A', ρ', h1, h2, h3, h4, h5⟩ := h
  exact ⟨st', c', A', ρ', h1, h2, h3, h4.to4, h5⟩

/-- THE REGION IN WHATEVER ORDER: a run in the order of the text that passes the check stands for every order. -/
theorem draw_soundX {ops : Array Oper} {n base : Nat} {tmT : Nat → TS} {hpT : Nat → HS} {v : Nat → V} {fs : List Foot} {id : Nat} {Q : Exit → Act → World → Prop}
    (hfo : P.follows .mixedOrders = true)
    (hstep : ∀ i o, ops[i]? = some o → StepOk P ops o n (tmT i) (hpT i) (base + 4 * i) (v i) (hpT (i + 1)) ∧ (∀ t, find (tmT (i + 1)) t = find (putT (tmT i) o.dst (v i)) t) ∧
      ∃ f, fs[i]? = some f ∧ f.dst = o.dst ∧ (∀ t, t ∈ names ops o → t ∈ f.nm) ∧ (∀ k, k ∈ touch (St.get ⟨n, tmT i, hpT i⟩) o → k ∈ f.rd) ∧ (∀ k, k ∈ wrs (St.get ⟨n, tmT i, hpT i⟩) (base + 4 * i) o → k ∈ f.wr))
    (hE : ∀ i o, ops[i]? = some o → ∀ e, e ∈ edgesOf o → e < i)
    (hok : drawOk (ops.toList.map edgesOf) fs = true)
    (hrel : Rel M A ρ (From base) ⟨n, tmT 0, hpT 0⟩ a w)
    (hQ : ∀ a' w', PostX M A ρ w (fun st c => st = ⟨n, tmT ops.size, hpT ops.size⟩ ∧ c = base + 4 * ops.size) a' w' → Q .normal a' w') : (Code.region id ops true).wp P Q a w := by
  refine wp_region_any hfo ?_
  let N := ops.size
  let dst : Nat → Option Nat := fun i => (ops[i]?).bind (·.dst)
  let wr : Nat → List Nat := fun i => ((ops[i]?).map fun o => wrs (St.get ⟨n, tmT i, hpT i⟩) (base + 4 * i) o).getD []
  have hop : ∀ i, i < N → ∃ o, ops[i]? = some o := fun i hi => ⟨ops[i], by simp [show i < ops.size from hi]⟩
  have hdst : ∀ i o, ops[i]? = some o → dst i = o.dst := fun i o h => by simp only [dst, h, Option.bind_some]
  have hwr : ∀ i o, ops[i]? = some o → wr i = wrs (St.get ⟨n, tmT i, hpT i⟩) (base + 4 * i) o := by
    intro i o h
    simp only [wr, h, Option.map_some, Option.getD_some]
  have hnotwr : ∀ i, i < N → ∀ k, ¬ k ∈ wr i → find (hpT (i + 1)) k = find (hpT i) k := by
    intro i hi k hk
    obtain ⟨o, ho⟩ := hop i hi
    obtain ⟨h1, _⟩ := hstep i o ho
    obtain ⟨_, _, h3⟩ := h1.loc (tm2 := tmT i) (hp2 := hpT i) (fun _ _ => rfl) (fun _ _ => rfl) (fun _ _ => rfl)
    rw [hwr i o ho] at hk
    exact (h3.2 k hk).1
  have htmT : ∀ i, i < N → ∀ t, find (tmT (i + 1)) t = find (putT (tmT i) (dst i) (v i)) t := by
    intro i hi t
    obtain ⟨o, ho⟩ := hop i hi
    rw [(hstep i o ho).2.1 t, hdst i o ho]
  have hEs : ∀ (i : Nat) (es : List Nat), (ops.toList.map edgesOf)[i]? = some es → ∀ e, e ∈ es → e < i := by
    intro i es h e he
    simp only [List.getElem?_map, Array.getElem?_toList, Option.map_eq_some_iff] at h
    obtain ⟨o, ho, rfl⟩ := h
    exact hE i o ho e he
  let Lof : Array Bool → Nat → Bool := fun listed i => listed.getD i false
  let Fr : (Nat → Bool) → Nat → Prop := fun L k => base + 4 * N ≤ k ∨ ∃ j, j < N ∧ L j = false ∧ base + 4 * j ≤ k ∧ k < base + 4 * j + 4
  have closed_anc : ∀ {L : Nat → Bool} {i : Nat}, i < N → (∀ k o, ops[k]? = some o → L k = true → ∀ e, e ∈ edgesOf o → L e = true) → (∀ o, ops[i]? = some o → ∀ e, e ∈ edgesOf o → L e = true) →
      ∀ j, ((ancL (ops.toList.map edgesOf) []).getD i 0).testBit j = true → L j = true := by
    intro L i hi hcl hEi j hb
    refine (anc_closed hEs i (by simpa using hi) (fun k es _ hLk hes e he => ?_) (fun es hes e he => ?_) j hb).1
    · simp only [List.getElem?_map, Array.getElem?_toList, Option.map_eq_some_iff] at hes
      obtain ⟨o, ho, rfl⟩ := hes
      exact hcl k o ho hLk e he
    · simp only [List.getElem?_map, Array.getElem?_toList, Option.map_eq_some_iff] at hes
      obtain ⟨o, ho, rfl⟩ := hes
      exact hEi o ho e he
  have hNs : N = ops.size := rfl
  have finish : ∀ (L : Nat → Bool) (a' : Act) (w' : World) (A' : Nat → Prop) (ρ' : Env), (∀ i, i < N → L i = true) →
      Rel M A' ρ' (Fr L) ⟨n, tmD dst v (tmT 0) L N, hpD wr hpT (hpT 0) L N⟩ a' w' → Evo M w w' → Ext ρ ρ' → Grow A A' w → Q .normal a' w' := by
    intro L a' w' A' ρ' hall hr hev hext hg
    refine hQ _ _ ⟨⟨n, tmT ops.size, hpT ops.size⟩, base + 4 * ops.size, A', ρ', ⟨rfl, rfl⟩, ?_, hev, hext, hg⟩
    have h1 : Rel M A' ρ' (Fr L) ⟨n, tmT ops.size, hpT ops.size⟩ a' w' := hr.forget rfl (fun t u hu => by
        rw [show find (⟨n, tmD dst v (tmT 0) L N, hpD wr hpT (hpT 0) L N⟩ : St).tmps t = find (tmT N) t from tm_text dst v (tmT 0) tmT N rfl htmT L t N (Nat.le_refl _) hall]; exact hu) (fun k b hb => by
        rw [show find (⟨n, tmD dst v (tmT 0) L N, hpD wr hpT (hpT 0) L N⟩ : St).heap k = find (hpT N) k from hp_text wr hpT (hpT 0) N rfl hnotwr L k N (Nat.le_refl _) hall]; exact hb)
    exact h1.sub (fun k hk => .inl hk)
  have main : ∀ (fuel : Nat) (listed : Array Bool) (a' : Act) (w' : World) (A' : Nat → Prop) (ρ' : Env), listed.size = N → cntF (Lof listed) N ≤ fuel →
      (∀ k o, ops[k]? = some o → Lof listed k = true → ∀ e, e ∈ edgesOf o → Lof listed e = true) →
      Rel M A' ρ' (Fr (Lof listed)) ⟨n, tmD dst v (tmT 0) (Lof listed) N, hpD wr hpT (hpT 0) (Lof listed) N⟩ a' w' → Evo M w w' → Ext ρ ρ' → Grow A A' w →
      wpAny P .any ops Q fuel listed a' w' := by
    intro fuel
    induction fuel with
    | zero =>
      intro listed a' w' A' ρ' hsz hcnt hcl hr hev hext hg
      have hall := cntF_zero (Nat.le_zero.1 hcnt)
      refine ⟨?_, finish _ a' w' A' ρ' hall hr hev hext hg⟩
      apply List.eq_nil_iff_forall_not_mem.2
      intro i hi
      rw [mem_ready] at hi
      obtain ⟨h0, o, ho, _⟩ := hi
      have hlt : i < N := (Array.getElem?_eq_some_iff.1 ho).1
      have := hall i hlt
      simp only [Lof, Array.getD_eq_getD_getElem?] at this h0
      have hlt' : i < listed.size := by omega
      simp [hlt'] at this h0
      simp [this] at h0
    | succ fuel ih =>
      intro listed a' w' A' ρ' hsz hcnt hcl hr hev hext hg
      refine ⟨fun hnil => ?_, fun i hi => ?_⟩
      · by_cases hex : ∃ i, i < N ∧ Lof listed i = false
        · exfalso
          obtain ⟨i, hi, hL, hleast⟩ := exists_least hex
          obtain ⟨o, ho⟩ := hop i hi
          have : i ∈ Region.ready .any ops listed := by
            rw [mem_ready]
            refine ⟨?_, o, ho, fun e he hb => ?_⟩
            · simp only [Lof, Array.getD_eq_getD_getElem?] at hL ⊢
              have hlt' : i < listed.size := by omega
              simpa [hlt'] using hL
            · have hm : e.on ∈ edgesOf o := by simp only [edgesOf, List.mem_map, List.mem_filter]; exact ⟨e, ⟨by simpa using he, hb⟩, rfl⟩
              exact hleast _ (hE i o ho _ hm)
          rw [hnil] at this
          simp at this
        · exact finish _ a' w' A' ρ' (fun i hi => by cases h : Lof listed i with | true => rfl | false => exact absurd ⟨i, hi, h⟩ hex) hr hev hext hg
      · rw [mem_ready] at hi
        obtain ⟨h0, o, ho, hedges⟩ := hi
        have hiN : i < N := (Array.getElem?_eq_some_iff.1 ho).1
        have hLi : Lof listed i = false := by
          simp only [Lof, Array.getD_eq_getD_getElem?] at h0 ⊢
          have hlt' : i < listed.size := by omega
          simpa [hlt'] using h0
        have hEi : ∀ e, e ∈ edgesOf o → Lof listed e = true := by
          intro e he
          simp only [edgesOf, List.mem_map, List.mem_filter] at he
          obtain ⟨ed, ⟨h1, h2⟩, rfl⟩ := he
          exact hedges ed (by simpa using h1) h2
        obtain ⟨hst, htm1, f, hf, fd, fn, fr, fw⟩ := hstep i o ho
        -- every other operation is ordered, or apart
        have order : ∀ j oj g, j ≠ i → ops[j]? = some oj → fs[j]? = some g → (f.apart g = true ∨ g.apart f = true) ∨ (j < i ∧ Lof listed j = true) ∨ (i < j ∧ Lof listed j = false) := by
          intro j oj g hji hoj hg'
          have hjN : j < N := (Array.getElem?_eq_some_iff.1 hoj).1
          rcases Nat.lt_or_gt_of_ne hji with hlt | hgt
          · rcases drawOk_spec hok hlt hg' hf with hb | hb
            · exact .inr (.inl ⟨hlt, closed_anc hiN hcl (fun o' ho' => by rw [ho] at ho'; simp only [Option.some.injEq] at ho'; subst ho'; exact hEi) j hb⟩)
            · exact .inl (.inr hb)
          · rcases drawOk_spec hok hgt hf hg' with hb | hb
            · refine .inr (.inr ⟨hgt, ?_⟩)
              cases hLj : Lof listed j with
              | false => rfl
              | true =>
                have := closed_anc hjN hcl (fun o' ho' => hcl j o' ho' hLj) i hb
                rw [hLi] at this
                simp at this
            · exact .inl (.inl hb)
        have foot : ∀ j, j < N → ∃ oj g, ops[j]? = some oj ∧ fs[j]? = some g ∧ g.dst = dst j ∧ ∀ k, k ∈ wr j → k ∈ g.wr := by
          intro j hj
          obtain ⟨oj, hoj⟩ := hop j hj
          obtain ⟨_, _, g, g1, g2, _, _, g5⟩ := hstep j oj hoj
          exact ⟨oj, g, hoj, g1, by rw [g2, hdst j oj hoj], fun k hk => g5 k (by rw [hwr j oj hoj] at hk; exact hk)⟩
        have apart_spec : ∀ {f g : Foot}, (f.apart g = true ∨ g.apart f = true) → (∀ t, f.dst = some t → g.dst = some t → False) ∧ (∀ t, g.dst = some t → t ∈ f.nm → False) ∧ (∀ k, k ∈ g.wr → k ∈ f.rd → False) ∧ (∀ k, k ∈ g.wr → k ∈ f.wr → False) := by
          intro f g h
          rcases h with h | h <;> simp only [Foot.apart, Bool.and_eq_true] at h <;> obtain ⟨⟨⟨⟨⟨h1, h2⟩, h3⟩, h4⟩, h5⟩, h6⟩ := h
          · exact ⟨fun t a b => disj_spec (x := t) h3 (by simp [a]) (by simp [b]), fun t a b => disj_spec (x := t) h2 (by simp [a]) b, fun k a b => disj_spec h5 a b, fun k a b => disj_spec h6 b a⟩
          · exact ⟨fun t a b => disj_spec (x := t) h3 (by simp [b]) (by simp [a]), fun t a b => disj_spec (x := t) h1 (by simp [a]) b, fun k a b => disj_spec h4 a b, fun k a b => disj_spec h6 a b⟩
        -- what the operation looks at is as in the order of the text
        have agreeT : ∀ t, t ∈ names ops o → find (tmD dst v (tmT 0) (Lof listed) N) t = find (tmT i) t := by
          intro t ht
          rw [tm_agree dst v (tmT 0) (Lof listed) (fun j => decide (j < i)) t N ?_, tmD_stop dst v (tmT 0) i t N (Nat.le_of_lt hiN), tm_text dst v (tmT 0) tmT N rfl htmT _ t i (Nat.le_of_lt hiN) (fun j hj => by simpa using hj)]
          intro j hj hdj
          by_cases hji : j = i
          · subst hji; rw [hLi]; simp
          · obtain ⟨oj, g, hoj, hg', gd, gw⟩ := foot j hj
            rcases order j oj g hji hoj hg' with hap | ⟨h1, h2⟩ | ⟨h1, h2⟩
            · exact ((apart_spec hap).2.1 t (by rw [gd, hdj]) (fn t ht)).elim
            · rw [h2]; simp [h1]
            · rw [h2]; simp; omega
        have agreeH : ∀ k, (k ∈ f.rd ∨ k ∈ f.wr) → find (hpD wr hpT (hpT 0) (Lof listed) N) k = find (hpT i) k := by
          intro k hk
          rw [hp_agree wr hpT (hpT 0) (Lof listed) (fun j => decide (j < i)) k N ?_, hpD_stop wr hpT (hpT 0) i k N (Nat.le_of_lt hiN), hp_text wr hpT (hpT 0) N rfl hnotwr _ k i (Nat.le_of_lt hiN) (fun j hj => by simpa using hj)]
          intro j hj hdj
          by_cases hji : j = i
          · subst hji; rw [hLi]; simp
          · obtain ⟨oj, g, hoj, hg', gd, gw⟩ := foot j hj
            rcases order j oj g hji hoj hg' with hap | ⟨h1, h2⟩ | ⟨h1, h2⟩
            · rcases hk with hk | hk
              · exact ((apart_spec hap).2.2.1 k (gw k hdj) hk).elim
              · exact ((apart_spec hap).2.2.2 k (gw k hdj) hk).elim
            · rw [h2]; simp [h1]
            · rw [h2]; simp; omega
        have hfour : ∀ k, k ∈ four (base + 4 * i) → k ∈ f.wr := fun k hk => fw k (by simp only [wrs, List.mem_append]; exact .inl hk)
        obtain ⟨hp2', hst2, hal⟩ := hst.loc (tm2 := tmD dst v (tmT 0) (Lof listed) N) (hp2 := hpD wr hpT (hpT 0) (Lof listed) N) agreeT (fun k hk => agreeH k (.inl (fr k hk))) (fun k hk => agreeH k (.inr (hfour k hk)))
        rw [← hwr i o ho] at hal
        refine StepOk.sound ho hst2 hr (fun k h1 h2 => .inr ⟨i, hiN, hLi, h1, h2⟩) ?_
        intro a2 w2 A2 ρ2 r1 r2 r3 r4
        have hset : ∀ j, Lof (listed.setIfInBounds i true) j = if j = i then true else Lof listed j := by
          intro j
          by_cases hji : j = i
          · subst hji
            have : j < listed.size := by omega
            simp [Lof, Array.getD_eq_getD_getElem?, this]
          · simp only [Lof, hji, if_false]
            exact getD_set_ne false (fun e => hji e.symm)
        have hL'i : Lof (listed.setIfInBounds i true) i = true := by rw [hset]; simp
        have hL'ne : ∀ j, j ≠ i → Lof (listed.setIfInBounds i true) j = Lof listed j := fun j hj => by rw [hset, if_neg hj]
        have later : ∀ j, i < j → j < N → (∀ oj g, ops[j]? = some oj → fs[j]? = some g → (f.apart g = true ∨ g.apart f = true) → False) → Lof (listed.setIfInBounds i true) j = false := by
          intro j h1 h2 h3
          obtain ⟨oj, g, hoj, hg', gd, gw⟩ := foot j h2
          rw [hL'ne j (by omega)]
          rcases order j oj g (by omega) hoj hg' with hap | ⟨h4, _⟩ | ⟨_, h5⟩
          · exact (h3 oj g hoj hg' hap).elim
          · omega
          · exact h5
        refine ih (listed.setIfInBounds i true) a2 w2 A2 ρ2 (by simpa using hsz) ?_ ?_ ?_ (hev.trans r2) (hext.trans r3) (hg.trans r4 hev.size)
        · have := cntF_set (L := Lof listed) (L' := Lof (listed.setIfInBounds i true)) hLi hL'i hL'ne (k := N) hiN
          omega
        · intro k ok' hok' hLk e he
          by_cases hki : k = i
          · subst hki
            rw [ho] at hok'
            simp only [Option.some.injEq] at hok'
            subst hok'
            exact getD_set_true (hEi e he)
          · rw [hL'ne k hki] at hLk
            exact getD_set_true (hcl k ok' hok' hLk e he)
        · refine (Rel.forget (st' := ⟨n, tmD dst v (tmT 0) (Lof (listed.setIfInBounds i true)) N, hpD wr hpT (hpT 0) (Lof (listed.setIfInBounds i true)) N⟩) r1 rfl (fun t u hu => ?_) (fun k b hb => ?_)).sub (fun k hk => ?_)
          · simp only [find_putT]
            split
            · rename_i hd
              have hlast := tm_last dst v (tmT 0) (Lof (listed.setIfInBounds i true)) t i (by rw [hdst i o ho]; exact hd) hL'i N hiN (fun j h1 h2 h3 => later j h1 h2 (fun oj g hoj hg' hap => by
                obtain ⟨_, g', _, hg2, gd, _⟩ := foot j h2
                rw [hg'] at hg2
                simp only [Option.some.injEq] at hg2
                subst hg2
                exact (apart_spec hap).1 t (by rw [fd]; exact hd) (by rw [gd]; exact h3)))
              rw [← hlast]; exact hu
            · rename_i hd
              rw [tm_agree dst v (tmT 0) (Lof listed) (Lof (listed.setIfInBounds i true)) t N (fun j hj hdj => by
                by_cases hji : j = i
                · subst hji; rw [hdst j o ho] at hdj; exact absurd hdj hd
                · exact (hL'ne j hji).symm)]
              exact hu
          · by_cases hk : k ∈ wr i
            · have hkw : k ∈ f.wr := fw k (by rw [← hwr i o ho]; exact hk)
              have hlast := hp_last wr hpT (hpT 0) (Lof (listed.setIfInBounds i true)) k i hk hL'i N hiN (fun j h1 h2 h3 => later j h1 h2 (fun oj g hoj hg' hap => by
                obtain ⟨_, g', _, hg2, _, gw⟩ := foot j h2
                rw [hg'] at hg2
                simp only [Option.some.injEq] at hg2
                subst hg2
                exact (apart_spec hap).2.2.2 k (gw k h3) hkw))
              rw [hal.1 k hk, ← hlast]; exact hb
            · rw [(hal.2 k hk).2, hp_agree wr hpT (hpT 0) (Lof listed) (Lof (listed.setIfInBounds i true)) k N (fun j hj hdj => by
                by_cases hji : j = i
                · subst hji; exact absurd hdj hk
                · exact (hL'ne j hji).symm)]
              exact hb
          · refine ⟨?_, ?_⟩
            · rcases hk with hk | ⟨j, h1, h2, h3⟩
              · exact .inl hk
              · by_cases hji : j = i
                · subst hji; rw [hL'i] at h2; simp at h2
                · rw [hL'ne j hji] at h2; exact .inr ⟨j, h1, h2, h3⟩
            · rintro ⟨q1, q2⟩
              rcases hk with hk | ⟨j, h1, h2, h3, h4⟩
              · omega
              · by_cases hji : j = i
                · subst hji; rw [hL'i] at h2; simp at h2
                · omega
  have h0 : ∀ i, Lof (Array.replicate ops.size false) i = false := by
    intro i
    simp only [Lof, Array.getD_eq_getD_getElem?]
    by_cases hi : i < ops.size <;> simp [hi]
  refine main ops.size (Array.replicate ops.size false) a _ A ρ (by simp [N]) ?_ (fun k o _ hL => by rw [h0] at hL; simp at hL) ?_ (Evo.drew M w) (Ext.refl _) (Grow.refl _ _)
  · have : ∀ k, cntF (Lof (Array.replicate ops.size false)) k = k := by
      intro k
      induction k with
      | zero => rfl
      | succ k ih => simp only [cntF, ih, h0]; simp
    rw [this]
    exact Nat.le_refl _
  · have eT : ∀ k, tmD dst v (tmT 0) (Lof (Array.replicate ops.size false)) k = tmT 0 := by
      intro k
      induction k with
      | zero => rfl
      | succ k ih => simp only [tmD, h0, Bool.false_eq_true, if_false, ih]
    have eH : ∀ k, hpD wr hpT (hpT 0) (Lof (Array.replicate ops.size false)) k = hpT 0 := by
      intro k
      induction k with
      | zero => rfl
      | succ k ih => simp only [hpD, h0, Bool.false_eq_true, if_false, ih]
    rw [eT, eH]
    refine hrel.drew.sub (fun k hk => ?_)
    simp only [From]
    rcases hk with hk | ⟨j, _, _, h3, _⟩ <;> omega

theorem draw_sound {ops : Array Oper} {n base : Nat} {tmT : Nat → TS} {hpT : Nat → HS} {v : Nat → V} {fs : List Foot} {id : Nat} {Q : Exit → Act → World → Prop}
    (hfo : P.follows .mixedOrders = true)
    (hstep : ∀ i o, ops[i]? = some o → StepOk P ops o n (tmT i) (hpT i) (base + 4 * i) (v i) (hpT (i + 1)) ∧ (∀ t, find (tmT (i + 1)) t = find (putT (tmT i) o.dst (v i)) t) ∧
      ∃ f, fs[i]? = some f ∧ f.dst = o.dst ∧ (∀ t, t ∈ names ops o → t ∈ f.nm) ∧ (∀ k, k ∈ touch (St.get ⟨n, tmT i, hpT i⟩) o → k ∈ f.rd) ∧ (∀ k, k ∈ wrs (St.get ⟨n, tmT i, hpT i⟩) (base + 4 * i) o → k ∈ f.wr))
    (hE : ∀ i o, ops[i]? = some o → ∀ e, e ∈ edgesOf o → e < i)
    (hok : drawOk (ops.toList.map edgesOf) fs = true)
    (hrel : Rel M A ρ (From base) ⟨n, tmT 0, hpT 0⟩ a w)
    (hQ : ∀ a' w', Post M A ρ w (fun st c => st = ⟨n, tmT ops.size, hpT ops.size⟩ ∧ c = base + 4 * ops.size) a' w' → Q .normal a' w') : (Code.region id ops true).wp P Q a w :=
  draw_soundX hfo hstep hE hok hrel fun a' w' h => hQ a' w' h.to4

end Go.Abs
