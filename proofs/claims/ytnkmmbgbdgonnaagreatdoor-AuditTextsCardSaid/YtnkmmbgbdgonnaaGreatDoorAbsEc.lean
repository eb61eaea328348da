import Derived.Test.YtnkmmbgbdgonnaaGreatDoorAbsEs
namespace Go.Abs
open Go

/-! Results, freezing, calls. -/

inductive Rv where
  | tmp (t : Nat)
  | cell (t : Nat) (n : Option Nat)

def resolveRvs (P : Program) : List ResultVar → Option (List Rv)
  | [] => some []
  | .tmp t :: r => match resolveRvs P r with
    | some l => some (.tmp t :: l)
    | none => none
  | .cell t ty :: r => match szOf P ty, resolveRvs P r with
    | some n, some l => some (.cell t n :: l)
    | _, _ => none

section
variable {α : Type} (bad : α)

def resG (tm : Tr) (hp : HS) : List Rv → (List W → α) → α
  | [], k => k []
  | .tmp t :: r, k => match tm.get (key t) with
    | some (.w u) => resG tm hp r fun us => k (u :: us)
    | _ => bad
  | .cell t n :: r, k => match tm.get (key t) with
    | some (.w (.one c)) => derefG bad hp c fun cs j => pickG bad n cs j fun v => match v with
      | .w u => resG tm hp r fun us => k (u :: us)
      | _ => bad
    | _ => bad

def listG {β γ : Type} (f : β → (γ → α) → α) : List β → (List γ → α) → α
  | [], k => k []
  | x :: r, k => f x fun y => listG f r fun l => k (y :: l)

/-- A cell as a tree: own rows are frozen. -/
def frzG : Nat → HS → C → (T → α) → α
  | _, _, .t x, k => k x
  | 0, _, _, _ => bad
  | d + 1, hp, .own id sz i len, k => match find hp id with
    | some (.row sz' xs) => sel (Nat.beq sz' sz && Nat.ble (i + len) xs.length) (listG (listG (frzG d hp)) ((xs.drop i).take len) fun ts => k (.lst sz ts)) bad
    | _ => bad
  | _ + 1, _, _, _ => bad

def frzW (hp : HS) : W → (W → α) → α
  | .one c, k => frzG bad 6 hp c fun t => k (.one (.t t))
  | .agg cs, k => listG (frzG bad 6 hp) cs fun ts => k (.agg (ts.map .t))
end

def optL {β γ : Type} (f : β → Option γ) : List β → Option (List γ)
  | [] => some []
  | x :: r => match f x, optL f r with
    | some y, some l => some (y :: l)
    | _, _ => none

def frzP : Nat → HS → C → Option T
  | _, _, .t x => some x
  | 0, _, _ => none
  | d + 1, hp, .own id sz i len => match find hp id with
    | some (.row sz' xs) => if sz' = sz ∧ i + len ≤ xs.length then (optL (optL (frzP d hp)) ((xs.drop i).take len)).map (.lst sz) else none
    | _ => none
  | _ + 1, _, _ => none

theorem listG_eq {β γ : Type} {f : β → (γ → Bool) → Bool} {g : β → Option γ} (hf : ∀ x k, f x k = true → ∃ y, g x = some y ∧ k y = true) : ∀ {l : List β} {k : List γ → Bool}, listG f l k = true → ∃ l', optL g l = some l' ∧ k l' = true
  | [], k, h => ⟨[], rfl, h⟩
  | x :: r, k, h => by
    simp only [listG] at h
    obtain ⟨y, h1, h2⟩ := hf _ _ h
    obtain ⟨l', h3, h4⟩ := listG_eq hf h2
    exact ⟨_, by simp only [optL, h1, h3], h4⟩

theorem frzG_eq : ∀ {d : Nat} {hp : HS} {c : C} {k : T → Bool}, frzG false d hp c k = true → ∃ t, frzP d hp c = some t ∧ k t = true
  | d, hp, .t x, k, h => ⟨x, by cases d <;> rfl, by cases d <;> exact h⟩
  | 0, hp, .own .., k, h => by simp [frzG] at h
  | 0, hp, .ptr .., k, h => by simp [frzG] at h
  | 0, hp, .roe .., k, h => by simp [frzG] at h
  | 0, hp, .clo .., k, h => by simp [frzG] at h
  | 0, hp, .any, k, h => by simp [frzG] at h
  | 0, hp, .map _, k, h => by simp [frzG] at h
  | 0, hp, .it _, k, h => by simp [frzG] at h
  | 0, hp, .bnd .., k, h => by simp [frzG] at h
  | d + 1, hp, .own id sz i len, k, h => by
    simp only [frzG] at h
    split at h
    · rename_i sz' xs hf
      obtain ⟨hc, h⟩ := sel_true h
      simp only [Bool.and_eq_true, Nat.beq_eq, Nat.ble_eq] at hc
      obtain ⟨ts, h1, h2⟩ := listG_eq (fun x k h => listG_eq (fun y k h => frzG_eq h) h) h
      exact ⟨_, by simp only [frzP, hf, if_pos hc, h1, Option.map_some], h2⟩
    · simp at h
  | d + 1, hp, .ptr .., k, h => by simp [frzG] at h
  | d + 1, hp, .roe .., k, h => by simp [frzG] at h
  | d + 1, hp, .clo .., k, h => by simp [frzG] at h
  | d + 1, hp, .any, k, h => by simp [frzG] at h
  | d + 1, hp, .map _, k, h => by simp [frzG] at h
  | d + 1, hp, .it _, k, h => by simp [frzG] at h
  | d + 1, hp, .bnd .., k, h => by simp [frzG] at h

theorem optL_len {β γ : Type} {g : β → Option γ} : ∀ {l : List β} {l' : List γ}, optL g l = some l' → l'.length = l.length
  | [], l', h => by simp only [optL, Option.some.injEq] at h; subst h; rfl
  | x :: r, l', h => by
    simp only [optL] at h
    split at h
    · rename_i y l2 h1 h2
      simp only [Option.some.injEq] at h
      subst h
      simp [optL_len h2]
    · simp at h

theorem optL_get {β γ : Type} {g : β → Option γ} : ∀ {l : List β} {l' : List γ}, optL g l = some l' → ∀ (i : Nat) (y : γ), l'[i]? = some y → ∃ x, l[i]? = some x ∧ g x = some y
  | [], l', h, i, y, hy => by simp only [optL, Option.some.injEq] at h; subst h; simp at hy
  | x :: r, l', h, i, y, hy => by
    simp only [optL] at h
    split at h
    · rename_i y' l2 h1 h2
      simp only [Option.some.injEq] at h
      subst h
      cases i with
      | zero => simp only [List.getElem?_cons_zero, Option.some.injEq] at hy; subst hy; exact ⟨x, by simp, h1⟩
      | succ i => obtain ⟨x', h3, h4⟩ := optL_get h2 i y (by simpa using hy); exact ⟨x', by simpa using h3, h4⟩
    · simp at h

variable {P : Program} {M A : Nat → Prop} {ρ : Env} {F : Nat → Prop} {st : St} {a : Act} {w : World}

/-- A frozen cell, over a set of blocks that the own rows are not in. -/
theorem frz_sound (h : Rel M A ρ F st a w) {B : Nat → Prop} (hBA : ∀ b, B b → A b) (hB : ∀ id blk b, find st.heap id = some blk → ρ id = some (.cel b) → ¬ B b) :
    ∀ {d : Nat} {c : C} {t : T} {x : Value}, frzP d st.heap c = some t → RC w A ρ c x → RT w B t x
  | d, .t y, t, x, hf, hr => by
    have : t = y := by cases d <;> simpa [frzP] using hf.symm
    subst this
    exact RT.keeps (w := w) ⟨Nat.le_refl _, fun b _ hn => ⟨rfl, fun hb => hn (hBA b hb)⟩⟩ hr
  | 0, .own .., t, x, hf, hr => by simp [frzP] at hf
  | 0, .ptr .., t, x, hf, hr => by simp [frzP] at hf
  | 0, .roe .., t, x, hf, hr => by simp [frzP] at hf
  | 0, .clo .., t, x, hf, hr => by simp [frzP] at hf
  | 0, .any, t, x, hf, hr => by simp [frzP] at hf
  | 0, .map _, t, x, hf, hr => by simp [frzP] at hf
  | 0, .it _, t, x, hf, hr => by simp [frzP] at hf
  | 0, .bnd .., t, x, hf, hr => by simp [frzP] at hf
  | d + 1, .ptr .., t, x, hf, hr => by simp [frzP] at hf
  | d + 1, .roe .., t, x, hf, hr => by simp [frzP] at hf
  | d + 1, .clo .., t, x, hf, hr => by simp [frzP] at hf
  | d + 1, .any, t, x, hf, hr => by simp [frzP] at hf
  | d + 1, .map _, t, x, hf, hr => by simp [frzP] at hf
  | d + 1, .it _, t, x, hf, hr => by simp [frzP] at hf
  | d + 1, .bnd .., t, x, hf, hr => by simp [frzP] at hf
  | d + 1, .own id sz i len, t, x, hf, hr => by
    simp only [frzP] at hf
    split at hf
    · rename_i sz' xs hfi
      split at hf
      · rename_i hc
        simp only [Option.map_eq_some_iff] at hf
        obtain ⟨ts, hts, rfl⟩ := hf
        have he : elems st.heap (.own id sz i len) = some (sz, (xs.drop i).take len) := by simp only [elems, hfi, if_pos hc]
        obtain ⟨hsz, b0, cap0, hx0, hcap0⟩ := elems_len h he hr
        by_cases hne : (xs.drop i).take len = []
        · rw [hne] at hts
          simp only [optL, Option.some.injEq] at hts
          subst hts
          rw [hx0, hne]
          exact .nil
        · obtain ⟨b, o, cap, rfl, hcell⟩ := elems_sound h he hr hne
          simp only [Value.slice.injEq] at hx0
          obtain ⟨_, _, rfl⟩ := hx0
          have hρ : ρ id = some (.cel b) ∧ b < w.heap.size := by
            rcases hr with ⟨b', cap', q, e', k1, k2, k3, k4, k5⟩ | ⟨_, _, h2, h3⟩
            · simp only [Value.slice.injEq, Option.some.injEq, Addr.mk.injEq] at k2
              obtain ⟨⟨rfl, _⟩, _⟩ := k2
              refine ⟨k1, ?_⟩
              rcases Nat.lt_or_ge b w.heap.size with hlt | hge
              · exact hlt
              · simp [World.shape?, Array.getElem?_eq_none hge] at k4
            · simp at h3
          have hc2 : ∀ (i' : Nat) (e : List T) (j : Nat) (t : T), ts[i']? = some e → e[j]? = some t → ∃ y, w.cell? ⟨b, o + (i' * sz + j), none⟩ = some y ∧ RT w B t y := by
            intro i' e j t hi hj
            obtain ⟨el, hel, hfe⟩ := optL_get hts i' e hi
            obtain ⟨c, hcc, hfc⟩ := optL_get hfe j t hj
            obtain ⟨y, hy, hry, _⟩ := hcell i' el j c hel hcc
            exact ⟨y, hy, frz_sound h hBA hB hfc hry⟩
          have hE : RT w B (.lst sz ts) (.slice (some ⟨b, o, none⟩) ((xs.drop i).take len).length cap) := by
            refine .lst (fun i j => (w.cell? ⟨b, o + (i * sz + j), none⟩).getD undef) (optL_len hts).symm hcap0 hρ.2 (hB id _ b hfi hρ.1) (fun e he' => ?_) (fun i e j t hi hj => ?_) (fun i e j t hi hj => ?_)
            · obtain ⟨k, hk, hke⟩ := List.getElem_of_mem he'
              obtain ⟨el, hel, hfe⟩ := optL_get hts k e (by rw [← hke]; simp [hk])
              rw [optL_len hfe]
              exact hsz el (List.mem_of_getElem? hel)
            · obtain ⟨y, hy, _⟩ := hc2 i e j t hi hj
              rw [Nat.add_assoc, hy]; rfl
            · obtain ⟨y, hy, hr'⟩ := hc2 i e j t hi hj
              rw [hy]; exact hr'
          exact hE
      · simp at hf
    · simp at hf

def frzWP (hp : HS) : W → Option W
  | .one c => (frzP 6 hp c).map fun t => .one (.t t)
  | .agg cs => (optL (frzP 6 hp) cs).map fun ts => .agg (ts.map .t)

theorem frzW_eq {hp : HS} {u : W} {k : W → Bool} (h : frzW false hp u k = true) : ∃ u', frzWP hp u = some u' ∧ k u' = true := by
  cases u with
  | one c => obtain ⟨t, h1, h2⟩ := frzG_eq h; exact ⟨_, by simp only [frzWP, h1, Option.map_some], h2⟩
  | agg cs => obtain ⟨t, h1, h2⟩ := listG_eq (fun x k h => frzG_eq h) h; exact ⟨_, by simp only [frzWP, h1, Option.map_some], h2⟩

theorem RC.isCell' {c : C} {x : Value} {B : Nat → Prop} {t : T} (h : RT w B t x) : isCell x = true := h.cell

theorem frzW_sound (h : Rel M A ρ F st a w) {B : Nat → Prop} (hBA : ∀ b, B b → A b) (hB : ∀ id blk b, find st.heap id = some blk → ρ id = some (.cel b) → ¬ B b) {u u' : W} {x : Value}
    (hf : frzWP st.heap u = some u') (hr : RW w A ρ u x) (ρ' : Env) : RW w B ρ' u' x := by
  cases u with
  | one c =>
    simp only [frzWP, Option.map_eq_some_iff] at hf
    obtain ⟨t, h1, rfl⟩ := hf
    exact ⟨frz_sound h hBA hB h1 hr.1, hr.2⟩
  | agg cs =>
    simp only [frzWP, Option.map_eq_some_iff] at hf
    obtain ⟨ts, h1, rfl⟩ := hf
    obtain ⟨vs, rfl, h2, h3⟩ := hr
    refine ⟨vs, rfl, by simp [optL_len h1, h2], fun k c y hk hy => ?_⟩
    simp only [List.getElem?_map, Option.map_eq_some_iff] at hk
    obtain ⟨t, ht, rfl⟩ := hk
    obtain ⟨c', hc', hfc⟩ := optL_get h1 k t ht
    obtain ⟨r1, r2⟩ := h3 k c' y hc' hy
    exact ⟨frz_sound h hBA hB hfc r1, r2⟩

/-! A function, resolved. -/
structure FnR where
  n : Nat
  code : Rc
  res : List Rv
  flat : Bool
  inl : Bool

def FnOk (P : Program) (f : FuncId) (fr : FnR) : Prop :=
  ∃ fn c, P.funcs[f]? = some fn ∧ fn.body = some c ∧ resolveC P c = some fr.code ∧ fn.ntmps = fr.n ∧ resolveRvs P fn.results.toList = some fr.res ∧ dstsOk fr.n fr.code = true

theorem resG_eq {tm : Tr} {hp : HS} : ∀ {rs : List ResultVar} {rvs : List Rv} {k : List W → Bool}, resolveRvs P rs = some rvs → resG false tm hp rvs k = true →
    ∃ us, (∀ L, TmOk tm L → resultsOf P hp L rs = some us) ∧ k us = true
  | [], rvs, k, hr, h => by
    simp only [resolveRvs, Option.some.injEq] at hr
    subst hr
    exact ⟨[], fun _ _ => rfl, h⟩
  | .tmp t :: r, rvs, k, hr, h => by
    simp only [resolveRvs] at hr
    split at hr
    · rename_i l hl
      simp only [Option.some.injEq] at hr
      subst hr
      simp only [resG] at h
      split at h
      · rename_i u hu
        obtain ⟨us, h1, h2⟩ := resG_eq hl h
        refine ⟨u :: us, fun L hL => ?_, h2⟩
        rw [← hL t] at hu
        simp only [resultsOf, resultOf, hu, h1 L hL]
      · simp at h
    · simp at hr
  | .cell t ty :: r, rvs, k, hr, h => by
    simp only [resolveRvs] at hr
    split at hr
    · rename_i n l hn hl
      simp only [Option.some.injEq] at hr
      subst hr
      simp only [resG] at h
      split at h
      · rename_i c hc
        obtain ⟨cs, j, h1, h2⟩ := derefG_eq h
        obtain ⟨u, h3, h4⟩ := pickR_sound (P := P) hn (pickG_eq h2)
        simp only at h4
        obtain ⟨us, h5, h6⟩ := resG_eq hl h4
        refine ⟨u :: us, fun L hL => ?_, h6⟩
        rw [← hL t] at hc
        have hev : evalLoad P ty (.w (.one c)) hp = some (.w u) := by simp only [evalLoad, h1, h3, Option.map_some]
        simp only [resultsOf, resultOf, hc, hev, h5 L hL]
      · simp at h
    · simp at hr

/-! The first temporaries. -/
def initG {α : Type} : Nat → List W → Tr → (Tr → α) → α
  | _, [], tm, k => k tm
  | n, u :: r, tm, k => Tr.put (key n) tm (.w u) fun tm => frN (n + 1) fun m => initG m r tm k

def initTr : Nat → List W → Tr → Tr
  | _, [], tm => tm
  | n, u :: r, tm => initTr (n + 1) r (Tr.set (key n) tm (.w u))

theorem initG_eq {α : Type} : ∀ (us : List W) (n : Nat) (tm : Tr) (k : Tr → α), initG n us tm k = k (initTr n us tm)
  | [], n, tm, k => rfl
  | u :: r, n, tm, k => by simp only [initG, initTr, Tr.put_eq, frN_eq, initG_eq r]

theorem initTr_ok : ∀ (us : List W) (n : Nat) (tm : Tr) (L : TS), TmOk tm L → (∀ t, n ≤ t → find L t = none) → TmOk (initTr n us tm) (initTmps n us ++ L)
  | [], n, tm, L, h, _ => h
  | u :: r, n, tm, L, h, hn => by
    have ih := initTr_ok r (n + 1) (Tr.set (key n) tm (.w u)) ((n, .w u) :: L) (h.put (some n) (.w u)) (fun t ht => by rw [find_cons, if_neg (by omega)]; exact hn t (by omega))
    intro t
    rw [initTr, ← ih t]
    simp only [initTmps, List.cons_append, find_cons, find_append]
    by_cases e : n = t
    · subst e
      have : find (initTmps (n + 1) r) n = none := by
        cases h' : find (initTmps (n + 1) r) n with
        | none => rfl
        | some v => have := (find_initTmps _ _ _ _ h').1; omega
      simp [this]
    · simp [e]

theorem initTr_tm (us : List W) : TmOk (initTr 0 us .nil) (initTmps 0 us) := by
  have := initTr_ok us 0 .nil [] (fun t => by rw [Tr.get_nil]; rfl) (fun t _ => rfl)
  simpa using this

theorem Rel.toM {M' : Nat → Prop} (h : Rel M' A ρ F st a w) (hM : ∀ b, M' b → M b) (hmay : ∀ b, w.heap.size ≤ b → M b) (hgl : Glob M A w) : Rel M A ρ F st a w := by
  refine ⟨h.size, h.defers, h.tmps, fun id blk hb => ?_, h.inj, h.fresh, h.bound, hmay, hgl⟩
  have := h.heap id blk hb
  cases blk with
  | row sz xs =>
    obtain ⟨h1, h2⟩ := this
    refine ⟨h1, ?_⟩
    rcases h2 with ⟨b, c, e, k1, k2, k3⟩ | h2
    · exact .inl ⟨b, c, e, k1, hM b k2, k3⟩
    · exact .inr h2
  | mp es clock =>
    obtain ⟨b, en, k1, k2, k3⟩ := this
    exact ⟨b, en, k1, hM b k2, k3⟩

theorem Rel.own {id : Nat} {blk : Blk} {b : Nat} (h : Rel M A ρ F st a w) (hf : find st.heap id = some blk) (hρ : ρ id = some (.cel b)) : M b ∧ A b ∧ b < w.heap.size := by
  have := (h.heap id blk hf).lt hρ
  exact ⟨this.2.1, this.2.2, this.1⟩

def isEnd (e : Exit) : Prop := e = .normal ∨ e = .ret

/-- The body of a function, run from a state with the arguments, up to its results. -/
theorem body_calls {f : FuncId} {fr : FnR} (hok : FnOk P f fr) {us : List W} {hp hp' : HS} {ctr ctr' : Nat} {e : Exit} {tm' : Tr} {vs : List W} (hn : us.length ≤ fr.n) (he : isEnd e)
    (hrun : ∀ c, (∃ fn, P.funcs[f]? = some fn ∧ fn.body = some c) → Run P fr.n c (initTr 0 us .nil) hp ctr e tm' hp' ctr') (hres : ∀ fn, P.funcs[f]? = some fn → ∀ L, TmOk tm' L → resultsOf P hp' L fn.results.toList = some vs)
    {M A : Nat → Prop} {ρ : Env} {w : World} {xs : Array Value} (hr : HR M A ρ (From ctr) hp w) (hx : RWs w A ρ us xs.toList) :
    Calls P f xs w fun e w' => ∃ x A' ρ', e = .returned x ∧ HR M A' ρ' (From ctr') hp' w' ∧ RV w' A' ρ' (resV vs) x ∧ Evo M w w' ∧ Ext ρ ρ' ∧ Grow A A' w := by
  obtain ⟨fn, c, hf, hb, hrc, hnt, hrv, hds⟩ := hok
  refine calls_of_wp hf hb ?_
  have hl : us.length = xs.size := by simpa using hx.1
  have hrel : Rel M A ρ (From ctr) ⟨fr.n, initTmps 0 us, hp⟩ { tmps := xs ++ Array.replicate (fn.ntmps - xs.size) undef, defers := [] } w := by
    refine ⟨by simp; omega, rfl, fun t v hv => ?_, hr.heap, hr.inj, hr.fresh, hr.bound, hr.may, hr.glob⟩
    obtain ⟨_, u, hu, rfl⟩ := find_initTmps _ _ _ _ hv
    simp only [Nat.sub_zero] at hu
    have ht : t < xs.size := by rw [← hl]; exact (List.getElem?_eq_some_iff.1 hu).1
    have hxx : xs.toList[t]? = some xs[t] := by simp [ht]
    have := hx.2 t u _ hu hxx
    have e : (xs ++ Array.replicate (fn.ntmps - xs.size) undef).getD t undef = xs[t] := by simp [Array.getD_eq_getD_getElem?, Array.getElem?_append_left ht, ht]
    rw [e]
    exact this
  refine wp_mono (hrun c ⟨fn, hf, hb⟩ M A ρ _ w _ (initTr_tm us) hrel) ?_
  rintro e2 a' w' ⟨rfl, L', A', ρ', hL', hr', hev, hext, hg⟩
  have hus := hres fn hf L' hL'
  obtain ⟨ws, hvs, hR⟩ := resultsOf_sound hr' hus
  have hm : (fn.results.mapM fun (r : ResultVar) => match r with
      | .tmp t => (pure (a'.tmps.getD t undef) : Sem Value)
      | .cell b t => do loadVar t (← asAddr (a'.tmps.getD b undef))).run P w' = .ok ws.toArray w' := by
    rw [Array.mapM_eq_mapM_toList]
    simp only [Sem.run_map]
    exact (congrArg (fun r : Result (List Value) => Result.andThen r fun a w' => Result.ok a.toArray w') hvs).trans rfl
  have hrun : (results fn a'.tmps).run P w' = .ok (if h : ws.toArray.size = 1 then ws.toArray[0] else .tuple ws.toArray) w' := by
    show (Bind.bind (fn.results.mapM fun (r : ResultVar) => match r with
      | .tmp t => (pure (a'.tmps.getD t undef) : Sem Value)
      | .cell b t => do loadVar t (← asAddr (a'.tmps.getD b undef))) fun vs => Pure.pure (if h : vs.size = 1 then vs[0] else .tuple vs)).run P w' = _
    rw [Sem.run_bind, hm]
    rfl
  have fin : a'.defers = [] ∧ ∃ v, (results fn a'.tmps).run P w' = .ok v w' ∧ ∃ x A' ρ', Ending.returned v = .returned x ∧ HR M A' ρ' (From ctr') hp' w' ∧ RV w' A' ρ' (resV vs) x ∧ Evo M w w' ∧ Ext ρ ρ' ∧ Grow A A' w := by
    refine ⟨hr'.defers, _, hrun, _, A', ρ', rfl, ⟨rfl, rfl, fun t v hv => by simp [find] at hv, hr'.heap, hr'.inj, hr'.fresh, hr'.bound, hr'.may, hr'.glob⟩, ?_, hev, hext, hg⟩
    match vs, ws, hR with
    | [], [], _ => exact ⟨#[], by simp, rfl, by simp⟩
    | [u], [v], hR => exact hR.2 0 u v rfl rfl
    | u :: u2 :: r, v :: v2 :: s, hR =>
      have hne : ¬ (v :: v2 :: s).toArray.size = 1 := by simp
      simp only [hne, dite_false]
      exact ⟨_, rfl, by simpa using hR.1, fun k x y hx hy => hR.2 k x y hx (by simpa using hy)⟩
    | [], _ :: _, hR => exact absurd hR.1 (by simp)
    | _ :: _, [], hR => exact absurd hR.1 (by simp)
    | [_], _ :: _ :: _, hR => exact absurd hR.1 (by simp)
    | _ :: _ :: _, [_], hR => exact absurd hR.1 (by simp)
  rcases he with rfl | rfl
  · exact fin
  · exact fin

/-- A call over the caller's own heap. -/
theorem callRun_inline {f : FuncId} {fr : FnR} (hok : FnOk P f fr) {us : List W} {hp hp' : HS} {ctr ctr' : Nat} {e : Exit} {tm' : Tr} {vs : List W} (hn : us.length ≤ fr.n) (he : isEnd e)
    (hrun : ∀ c, (∃ fn, P.funcs[f]? = some fn ∧ fn.body = some c) → Run P fr.n c (initTr 0 us .nil) hp ctr e tm' hp' ctr') (hres : ∀ fn, P.funcs[f]? = some fn → ∀ L, TmOk tm' L → resultsOf P hp' L fn.results.toList = some vs) :
    CallRun P f us hp ctr (resV vs) hp' ctr' := by
  intro M A ρ a w n L xs hr hx
  let M' : Nat → Prop := fun b => (M b ∧ A b) ∨ w.heap.size ≤ b
  have hH : HR M' A ρ (From ctr) hp w := by
    refine ⟨rfl, rfl, fun t v hv => by simp [find] at hv, fun id blk hb => ?_, hr.inj, hr.fresh, hr.bound, fun b hb => .inr hb, hr.glob.sub (fun b hb hm => hm.elim (fun h => h.1) (fun h => by omega)) (fun _ h => h)⟩
    have := hr.heap id blk hb
    cases blk with
    | row sz ys =>
      obtain ⟨h1, h2⟩ := this
      refine ⟨h1, ?_⟩
      rcases h2 with ⟨b, c, e, k1, k2, k3, k4⟩ | h2
      · exact .inl ⟨b, c, e, k1, .inl ⟨k2, k3⟩, k3, k4⟩
      · exact .inr h2
    | mp es clock =>
      obtain ⟨b, en, k1, k2, k3, k4⟩ := this
      exact ⟨b, en, k1, .inl ⟨k2, k3⟩, k3, k4⟩
  refine (body_calls hok hn he hrun hres hH hx).mono ?_
  rintro e w' ⟨x, A', ρ', rfl, h1, h2, h3, h4, h5⟩
  have hM : ∀ b, M' b → M b := fun b hb => hb.elim (fun h => h.1) (hr.may b)
  have hmay : ∀ b, w'.heap.size ≤ b → M b := fun b hb => hr.may b (Nat.le_trans h3.size hb)
  have hk : Keeps A A' w w' := ⟨h3.size, fun b hb hnA => ⟨h3.block b hb (fun hm => by
    rcases hm with hm | hm
    · exact hnA hm.2
    · omega), fun hA => hnA (h5.2 b hb hA)⟩⟩
  refine ⟨x, A', ρ', rfl, ?_, h2, h3.weaken (fun i _ ho => hM i ho), h4, h5⟩
  have hrM := h1.toM hM hmay (hr.glob.evo (h3.weaken (fun i _ ho => hM i ho)) h5.2)
  exact ⟨hr.size, hr.defers, fun t v hv => (hr.tmps t v hv).keeps hk h3.shape h4, hrM.heap, hrM.inj, hrM.fresh, hrM.bound, hrM.may, hrM.glob⟩

/-- A function of trees, its results frozen. -/
theorem fn_of_run {f : FuncId} {fr : FnR} (hok : FnOk P f fr) {us : List W} {hp' : HS} {ctr' : Nat} {e : Exit} {tm' : Tr} {vs ts : List W} (hn : us.length ≤ fr.n) (he : isEnd e)
    (hrun : ∀ c, (∃ fn, P.funcs[f]? = some fn ∧ fn.body = some c) → Run P fr.n c (initTr 0 us .nil) [] 4 e tm' hp' ctr') (hres : ∀ fn, P.funcs[f]? = some fn → ∀ L, TmOk tm' L → resultsOf P hp' L fn.results.toList = some vs)
    (hts : optL (frzWP hp') vs = some ts) : Fn P f us [] (resV ts) [] := by
  intro w A ρ xs hH hxs
  refine (body_calls hok hn he hrun hres hH hxs).mono ?_
  rintro e w' ⟨x, A', ρ', rfl, h1, h2, h3, h4, h5⟩
  have hB : ∀ id blk b, find hp' id = some blk → ρ' id = some (.cel b) → ¬ A b := by
    intro id blk b hf hρ hA
    have hM := (h1.own hf hρ).1
    rcases hM with ⟨id', blk', hf', _⟩ | hM
    · simp [find] at hf'
    · have := hH.bound b hA
      omega
  refine ⟨x, A, ρ, From 4, rfl, ?_, ⟨rfl, rfl, fun t v hv => by simp [find] at hv, fun id blk hb => by simp [find] at hb, fun id id' b b' q hb => by simp [find] at hb, hH.fresh, fun b hb => Nat.lt_of_lt_of_le (hH.bound b hb) h3.size, fun b hb => .inr (Nat.le_trans h3.size hb), hH.glob.evo h3 (fun _ _ h => h)⟩, h3, Ext4.refl _, Grow.refl _ _⟩
  have hlen := optL_len hts
  have one : ∀ (k : Nat) (u : W) (y : Value), ts[k]? = some u → (∀ v, vs[k]? = some v → RW w' A' ρ' v y) → RW w' A ρ u y := by
    intro k u y hu hv
    obtain ⟨v, hv', hfv⟩ := optL_get hts k u hu
    exact frzW_sound (st := ⟨0, [], hp'⟩) h1 (fun b hb => h5.1 b hb) hB hfv (hv v hv') ρ
  match vs, ts, hlen with
  | [], [], _ =>
    obtain ⟨ys, h6, h7, _⟩ := h2
    exact ⟨ys, h6, h7, fun k u y hu => by simp at hu⟩
  | [v], [u], _ => exact one 0 u x rfl (fun v' hv' => by simp only [List.getElem?_cons_zero, Option.some.injEq] at hv'; subst hv'; exact h2)
  | v :: v2 :: r, u :: u2 :: s, hlen =>
    obtain ⟨ys, rfl, h6, h7⟩ := h2
    refine ⟨ys, rfl, by rw [← h6]; simpa using hlen, fun k u' y hu hy => one k u' y hu (fun v' hv' => h7 k v' y hv' hy)⟩
  | [], _ :: _, hlen => simp at hlen
  | _ :: _, [], hlen => simp at hlen
  | [_], _ :: _ :: _, hlen => simp at hlen
  | _ :: _ :: _, [_], hlen => simp at hlen

def allT (us : List W) : Bool := us.all W.isT

theorem up_isT {n : Nat} {u : W} (h : u.isT = true) : u.up n = u := by
  cases u with
  | one c => cases c <;> simp [W.isT, C.isT] at h; rfl
  | agg cs =>
    simp only [W.isT, List.all_eq_true] at h
    simp only [W.up, W.agg.injEq]
    have : ∀ c, c ∈ cs → c.up n = id c := by
      intro c hc
      have := h c hc
      cases c <;> simp [C.isT] at this
      rfl
    rw [List.map_congr_left this]; simp

theorem frzWP_isT {hp : HS} {u u' : W} (h : frzWP hp u = some u') : u'.isT = true := by
  cases u with
  | one c =>
    simp only [frzWP, Option.map_eq_some_iff] at h
    obtain ⟨t, _, rfl⟩ := h
    rfl
  | agg cs =>
    simp only [frzWP, Option.map_eq_some_iff] at h
    obtain ⟨t, _, rfl⟩ := h
    simp [W.isT, C.isT]

def V.isT : V → Bool
  | .w u => u.isT
  | .tup ws => ws.all W.isT
  | .undef => false

theorem V.up_isT {n : Nat} {v : V} (h : v.isT = true) : v.up n = v := by
  cases v with
  | w u => simp only [V.isT] at h; simp only [V.up, Go.Abs.up_isT h]
  | tup ws =>
    simp only [V.isT, List.all_eq_true] at h
    simp only [V.up, V.tup.injEq]
    have : ∀ c, c ∈ ws → c.up n = id c := fun c hc => Go.Abs.up_isT (h c hc)
    rw [List.map_congr_left this]; simp
  | undef => rfl

theorem resV_isT {ts : List W} (h : ts.all W.isT = true) : (resV ts).isT = true := by
  match ts with
  | [] => rfl
  | [u] => simpa [resV, V.isT] using h
  | _ :: _ :: _ => simpa only [resV, V.isT] using h

/-- Numbers, bools, strings alone. -/
def C.plain : C → Bool
  | .t (.val (.int ..)) | .t (.val (.bool _)) | .t (.val (.string _)) => true
  | _ => false
def W.plain : W → Bool
  | .one c => c.plain
  | .agg cs => cs.all C.plain
def V.plain : V → Bool
  | .w u => u.plain
  | .tup ws => ws.all W.plain
  | .undef => false

end Go.Abs
