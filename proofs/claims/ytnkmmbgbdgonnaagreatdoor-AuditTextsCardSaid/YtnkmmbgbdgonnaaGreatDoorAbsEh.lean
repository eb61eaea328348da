import Derived.Test.YtnkmmbgbdgonnaaGreatDoorAbsEc
namespace Go.Abs
open Go

section
variable {α : Type} (bad : α)

def valRun (P : Program) (call : CallH α) (callD : CallD α) (fuel : Nat) (fr : FnR) (us : List W) (k : V → α) : α :=
  sel (Nat.ble us.length fr.n) (initG 0 us .nil fun tm => E bad call callD P fuel fr.code (fun e tm' hp' _ => match e with
    | .normal => resG bad tm' hp' fr.res fun vs => listG (frzW bad hp') vs fun ts => k (resV ts)
    | .ret => resG bad tm' hp' fr.res fun vs => listG (frzW bad hp') vs fun ts => k (resV ts)
    | _ => bad) tm [] 4) bad

def inlRun (P : Program) (call : CallH α) (callD : CallD α) (fuel : Nat) (fr : FnR) (us : List W) (hp : HS) (ctr : Nat) (K : V → HS → Nat → α) : α :=
  sel (Nat.ble us.length fr.n) (initG 0 us .nil fun tm => E bad call callD P fuel fr.code (fun e tm' hp' ctr' => match e with
    | .normal => resG bad tm' hp' fr.res fun vs => K (resV vs) hp' ctr'
    | .ret => resG bad tm' hp' fr.res fun vs => K (resV vs) hp' ctr'
    | _ => bad) tm hp ctr) bad

variable (P : Program) (fns : Nat → Option FnR) (tab : Nat → List W → Option V) (fuel : Nat)

def handlers : Nat → CallH α × CallD α
  | 0 => (fun _ _ _ _ _ => bad, fun _ _ _ _ _ => bad)
  | d + 1 =>
    (fun f us hp ctr K => match fns f with
      | some fr => sel fr.inl (inlRun bad P (handlers d).1 (handlers d).2 fuel fr us hp ctr K)
          (sel (allT us) (match tab f us with
            | some v => frN (ctr + 4) fun c => K v hp c
            | none => valRun bad P (handlers d).1 (handlers d).2 fuel fr us fun v => frN (ctr + 4) fun c => K v hp c)
          (sel (fr.flat && (optL (frzWP hp) us).isSome) (listG (frzW bad hp) us fun ts => match tab f ts with
              | some v => sel v.flat (frN (ctr + 4) fun c => K v hp c) bad
              | none => valRun bad P (handlers d).1 (handlers d).2 fuel fr ts fun v => sel v.flat (frN (ctr + 4) fun c => K v hp c) bad)
          (inlRun bad P (handlers d).1 (handlers d).2 fuel fr us hp ctr K)))
      | none => bad,
     fun f us hp _ K => match fns f with
      | some fr => sel (allT us) (match tab f us with
            | some v => K v hp
            | none => valRun bad P (handlers d).1 (handlers d).2 fuel fr us fun v => K v hp)
          (match lendWs hp us with
            | some ts => match tab f ts with
              | some v => sel v.flat (K v hp) bad
              | none => valRun bad P (handlers d).1 (handlers d).2 fuel fr ts fun v => sel v.flat (K v hp) bad
            | none => bad)
      | none => bad)
end

variable {P : Program}

theorem callTo_run {f : FuncId} {us : List W} {hp hp' : HS} {ctr : Nat} {v : V} (h : CallTo P hp ctr f us v hp') : CallRun P f us hp ctr v hp' (ctr + 4) := by
  intro M A ρ a w n L xs hr hx
  refine (CallTo.sound hr (fun k h1 _ => h1) h hx).mono ?_
  rintro e w' ⟨x, A', ρ', rfl, r1, r2, r3, r4, r5⟩
  exact ⟨x, A', ρ', rfl, r1.sub sub_from, r2, r3, r4, r5⟩

theorem callTo_tree {f : FuncId} {us : List W} {hp : HS} {ctr : Nat} {v : V} (hv : v.isT = true) (hT : allT us = true) (h : Fn P f us [] v []) : CallTo P hp ctr f us v hp :=
  ⟨v, [], us, h, (V.up_isT hv).symm, rfl, .inl ⟨rfl, hT⟩⟩

theorem callTo_lend {f : FuncId} {us ts : List W} {hp : HS} {ctr : Nat} {v : V} (hv : v.isT = true) (hl : lendWs hp us = some ts) (hfl : v.flat = true) (h : Fn P f ts [] v []) : CallTo P hp ctr f us v hp :=
  ⟨v, [], ts, h, (V.up_isT hv).symm, rfl, .inr ⟨hl, hfl, fun id blk hb => by simp [find] at hb⟩⟩

/-- A call to which own rows are lent, whatever they hold. -/
theorem callRun_lend {f : FuncId} {us ts : List W} {hp : HS} {ctr : Nat} {v : V} (hv : v.isT = true) (hl : optL (frzWP hp) us = some ts) (hfl : v.flat = true) (hfn : Fn P f ts [] v []) : CallRun P f us hp ctr v hp (ctr + 4) := by
  intro M A ρ a w n L xs h hx
  have hM : ∀ (ρ0 : Env), (fun b => Own ρ0 [] b ∨ w.heap.size ≤ b) = fun b => w.heap.size ≤ b := by
    intro ρ0
    funext b
    simp [Own, find]
  have empty : HR (fun b => Own (fun _ => none) [] b ∨ w.heap.size ≤ b) (fun _ => False) (fun _ => none) (From 4) [] w :=
    ⟨rfl, rfl, fun t v hv => by simp [find] at hv, fun id b hb => by simp [find] at hb, fun id id' b b' c hb => by simp [find] at hb, fun _ _ => rfl, fun _ h => h.elim, fun b hb => .inr hb, h.glob.sub (fun b hb hm => hm.elim (fun ho => by obtain ⟨_, _, hf, _⟩ := ho; simp [find] at hf) (fun hl => by omega)) (fun _ h => h.elim)⟩
  have hx' : RWs w (fun _ => False) (fun _ => none) ts xs.toList := ⟨(optL_len hl).trans hx.1, fun k u x hu hxx => by
    obtain ⟨c, hc, hlc⟩ := optL_get hl k u hu
    exact frzW_sound (st := ⟨n, L, hp⟩) h (fun _ hb => hb.elim) (fun _ _ _ _ _ hb => hb) hlc (hx.2 k c x hc hxx) _⟩
  refine (hfn w (fun _ => False) (fun _ => none) xs empty hx').mono ?_
  rintro e w' ⟨x, A1, ρ1, F1, rfl, hvx, hr, hev, _, hg⟩
  rw [hM] at hr hev
  obtain ⟨A2, ρ2, r1, r2, r3, r4, r5⟩ := Rel.import (st := ⟨n, L, hp⟩) h (nid := ctr) (fun k h1 _ => h1) hev hr (fun b hb hA => (hg.2 b hb hA).elim) hvx (.inr ⟨hfl, fun id blk hb => by simp [find] at hb⟩)
  rw [V.up_isT hv] at r2
  exact ⟨x, A2, ρ2, rfl, r1.sub sub_from, r2, r3, r4, r5⟩

theorem valRun_sound {call : CallH Bool} {callD : CallD Bool} {fuel : Nat} (hc : CallOk P call) (hd : CallDOk P callD) {f : FuncId} {fr : FnR} (hok : FnOk P f fr) {us : List W} {k : V → Bool}
    (h : valRun false P call callD fuel fr us k = true) : ∃ v, Fn P f us [] v [] ∧ v.isT = true ∧ k v = true := by
  unfold valRun at h
  obtain ⟨hn, h⟩ := sel_true h
  simp only [Nat.ble_eq] at hn
  rw [initG_eq] at h
  obtain ⟨fn, c, hf, hb, hrc, hnt, hrv, hds⟩ := hok
  obtain ⟨e, tm', hp', ctr', h1, h2⟩ := E_sound (P := P) hc hd hrc hds h
  have hrun : ∀ c', (∃ fn, P.funcs[f]? = some fn ∧ fn.body = some c') → Run P fr.n c' (initTr 0 us .nil) [] 4 e tm' hp' ctr' := by
    rintro c' ⟨fn', hf', hb'⟩
    rw [hf] at hf'
    simp only [Option.some.injEq] at hf'
    subst hf'
    rw [hb] at hb'
    simp only [Option.some.injEq] at hb'
    subst hb'
    exact h2
  have fin : isEnd e → resG false tm' hp' fr.res (fun vs => listG (frzW false hp') vs fun ts => k (resV ts)) = true → ∃ v, Fn P f us [] v [] ∧ v.isT = true ∧ k v = true := by
    intro he hr
    obtain ⟨vs, h3, h4⟩ := resG_eq hrv hr
    obtain ⟨ts, h5, h6⟩ := listG_eq (fun x k h => frzW_eq h) h4
    refine ⟨resV ts, fn_of_run ⟨fn, c, hf, hb, hrc, hnt, hrv, hds⟩ hn he hrun (fun fn' hf' => ?_) h5, ?_, h6⟩
    · rw [hf] at hf'
      simp only [Option.some.injEq] at hf'
      subst hf'
      exact h3
    · refine resV_isT ?_
      rw [List.all_eq_true]
      intro u hu
      obtain ⟨k', hk', hke⟩ := List.getElem_of_mem hu
      obtain ⟨v, _, hfv⟩ := optL_get h5 k' u (by rw [← hke]; simp [hk'])
      exact frzWP_isT hfv
  cases e with
  | normal => exact fin (.inl rfl) h1
  | ret => exact fin (.inr rfl) h1
  | _ => simp at h1

theorem inlRun_sound {call : CallH Bool} {callD : CallD Bool} {fuel : Nat} (hc : CallOk P call) (hd : CallDOk P callD) {f : FuncId} {fr : FnR} (hok : FnOk P f fr) {us : List W} {hp : HS} {ctr : Nat} {K : V → HS → Nat → Bool}
    (h : inlRun false P call callD fuel fr us hp ctr K = true) : ∃ v hp' ctr', CallRun P f us hp ctr v hp' ctr' ∧ K v hp' ctr' = true := by
  unfold inlRun at h
  obtain ⟨hn, h⟩ := sel_true h
  simp only [Nat.ble_eq] at hn
  rw [initG_eq] at h
  obtain ⟨fn, c, hf, hb, hrc, hnt, hrv, hds⟩ := hok
  obtain ⟨e, tm', hp', ctr', h1, h2⟩ := E_sound (P := P) hc hd hrc hds h
  have hrun : ∀ c', (∃ fn, P.funcs[f]? = some fn ∧ fn.body = some c') → Run P fr.n c' (initTr 0 us .nil) hp ctr e tm' hp' ctr' := by
    rintro c' ⟨fn', hf', hb'⟩
    rw [hf] at hf'
    simp only [Option.some.injEq] at hf'
    subst hf'
    rw [hb] at hb'
    simp only [Option.some.injEq] at hb'
    subst hb'
    exact h2
  have fin : isEnd e → resG false tm' hp' fr.res (fun vs => K (resV vs) hp' ctr') = true → ∃ v hp' ctr', CallRun P f us hp ctr v hp' ctr' ∧ K v hp' ctr' = true := by
    intro he hr
    obtain ⟨vs, h3, h4⟩ := resG_eq hrv hr
    refine ⟨resV vs, hp', ctr', callRun_inline ⟨fn, c, hf, hb, hrc, hnt, hrv, hds⟩ hn he hrun (fun fn' hf' => ?_), h4⟩
    rw [hf] at hf'
    simp only [Option.some.injEq] at hf'
    subst hf'
    exact h3
  cases e with
  | normal => exact fin (.inl rfl) h1
  | ret => exact fin (.inr rfl) h1
  | _ => simp at h1

def FnsOk (P : Program) (fns : Nat → Option FnR) : Prop := ∀ f fr, fns f = some fr → FnOk P f fr
def TabOk (P : Program) (tab : Nat → List W → Option V) : Prop := ∀ f us v, tab f us = some v → Fn P f us [] v [] ∧ v.isT = true

theorem handlers_ok {fns : Nat → Option FnR} {tab : Nat → List W → Option V} {fuel : Nat} (hfns : FnsOk P fns) (htab : TabOk P tab) : ∀ d, CallOk P (handlers false P fns tab fuel d).1 ∧ CallDOk P (handlers false P fns tab fuel d).2
  | 0 => ⟨fun f us hp ctr K h => by simp [handlers] at h, fun f us hp ctr K h => by simp [handlers] at h⟩
  | d + 1 => by
    obtain ⟨ih1, ih2⟩ := handlers_ok hfns htab (fuel := fuel) d
    refine ⟨fun f us hp ctr K h => ?_, fun f us hp ctr K h => ?_⟩
    · simp only [handlers] at h
      split at h
      · rename_i fr hfr
        have hok := hfns f fr hfr
        cases hi : fr.inl with
        | true =>
          rw [hi] at h
          exact inlRun_sound ih1 ih2 hok h
        | false =>
          rw [hi] at h
          simp only [sel] at h
          cases hT : allT us with
          | true =>
            rw [hT] at h
            simp only at h
            split at h
            · rename_i v hv
              rw [frN_eq] at h
              obtain ⟨h1, h2⟩ := htab f us v hv
              exact ⟨v, hp, ctr + 4, callTo_run (callTo_tree h2 hT h1), h⟩
            · obtain ⟨v, h1, h2, h3⟩ := valRun_sound ih1 ih2 hok h
              rw [frN_eq] at h3
              exact ⟨v, hp, ctr + 4, callTo_run (callTo_tree h2 hT h1), h3⟩
          | false =>
            rw [hT] at h
            simp only at h
            cases hfl : (fr.flat && (optL (frzWP hp) us).isSome) with
            | true =>
              rw [hfl] at h
              simp only at h
              obtain ⟨ts, hts, h⟩ := listG_eq (fun x k h => frzW_eq h) h
              split at h
              · rename_i v hv
                have hvf : v.flat = true ∧ (frN (ctr + 4) fun c => K v hp c) = true := sel_true h
                rw [frN_eq] at hvf
                obtain ⟨h1, h2⟩ := htab f ts v hv
                exact ⟨v, hp, ctr + 4, callRun_lend h2 hts hvf.1 h1, hvf.2⟩
              · obtain ⟨v, h1, h2, h3⟩ := valRun_sound ih1 ih2 hok h
                have hvf : v.flat = true ∧ (frN (ctr + 4) fun c => K v hp c) = true := sel_true h3
                rw [frN_eq] at hvf
                exact ⟨v, hp, ctr + 4, callRun_lend h2 hts hvf.1 h1, hvf.2⟩
            | false =>
              rw [hfl] at h
              exact inlRun_sound ih1 ih2 hok h
      · simp at h
    · simp only [handlers] at h
      split at h
      · rename_i fr hfr
        have hok := hfns f fr hfr
        cases hT : allT us with
        | true =>
          rw [hT] at h
          simp only [sel] at h
          split at h
          · rename_i v hv
            obtain ⟨h1, h2⟩ := htab f us v hv
            exact ⟨v, hp, callTo_tree h2 hT h1, h⟩
          · obtain ⟨v, h1, h2, h3⟩ := valRun_sound ih1 ih2 hok h
            exact ⟨v, hp, callTo_tree h2 hT h1, h3⟩
        | false =>
          rw [hT] at h
          simp only [sel] at h
          split at h
          · rename_i ts hts
            split at h
            · rename_i v hv
              have hvf : v.flat = true ∧ K v hp = true := sel_true h
              obtain ⟨h1, h2⟩ := htab f ts v hv
              exact ⟨v, hp, callTo_lend h2 hts hvf.1 h1, hvf.2⟩
            · obtain ⟨v, h1, h2, h3⟩ := valRun_sound ih1 ih2 hok h
              have hvf : v.flat = true ∧ K v hp = true := sel_true h3
              exact ⟨v, hp, callTo_lend h2 hts hvf.1 h1, hvf.2⟩
          · simp at h
      · simp at h

/-! Equality of trees, for tables. -/
def eqVal : Value → Value → Bool
  | .int k a, .int k' b => Nat.beq (kidx k) (kidx k') && eqI a b
  | .bool a, .bool b => a == b
  | .string a, .string b => a.data.toList == b.data.toList
  | .slice none 0 0, .slice none 0 0 => true
  | _, _ => false

theorem eqVal_eq {a b : Value} (h : eqVal a b = true) : a = b := by
  unfold eqVal at h
  split at h
  · simp only [Bool.and_eq_true, eqI_eq, beq_iff_eq] at h
    rw [kidx_eq h.1, h.2]
  · simp only [beq_iff_eq] at h; rw [h]
  · rename_i a b
    simp only [beq_iff_eq] at h
    congr 1
    cases a; cases b
    congr 1
    exact Array.toList_inj.1 h
  · rfl
  · simp at h

mutual
def eqT : T → T → Bool
  | .val a, .val b => eqVal a b
  | .lst sz xs, .lst sz' ys => Nat.beq sz sz' && eqTss xs ys
  | _, _ => false
def eqTs : List T → List T → Bool
  | [], [] => true
  | a :: r, b :: s => eqT a b && eqTs r s
  | _, _ => false
def eqTss : List (List T) → List (List T) → Bool
  | [], [] => true
  | a :: r, b :: s => eqTs a b && eqTss r s
  | _, _ => false
end

mutual
theorem eqT_eq : ∀ {a b : T}, eqT a b = true → a = b
  | .val a, .val b, h => by simp only [eqT] at h; rw [eqVal_eq h]
  | .lst sz xs, .lst sz' ys, h => by
    simp only [eqT, Bool.and_eq_true, Nat.beq_eq] at h
    rw [h.1, eqTss_eq h.2]
  | .val _, .lst .., h => by simp [eqT] at h
  | .lst .., .val _, h => by simp [eqT] at h
theorem eqTs_eq : ∀ {a b : List T}, eqTs a b = true → a = b
  | [], [], _ => rfl
  | a :: r, b :: s, h => by
    simp only [eqTs, Bool.and_eq_true] at h
    rw [eqT_eq h.1, eqTs_eq h.2]
  | [], _ :: _, h => by simp [eqTs] at h
  | _ :: _, [], h => by simp [eqTs] at h
theorem eqTss_eq : ∀ {a b : List (List T)}, eqTss a b = true → a = b
  | [], [], _ => rfl
  | a :: r, b :: s, h => by
    simp only [eqTss, Bool.and_eq_true] at h
    rw [eqTs_eq h.1, eqTss_eq h.2]
  | [], _ :: _, h => by simp [eqTss] at h
  | _ :: _, [], h => by simp [eqTss] at h
end

def eqC : C → C → Bool
  | .t a, .t b => eqT a b
  | _, _ => false
def eqCs : List C → List C → Bool
  | [], [] => true
  | a :: r, b :: s => eqC a b && eqCs r s
  | _, _ => false
def eqW : W → W → Bool
  | .one a, .one b => eqC a b
  | .agg a, .agg b => eqCs a b
  | _, _ => false
def eqWs : List W → List W → Bool
  | [], [] => true
  | a :: r, b :: s => eqW a b && eqWs r s
  | _, _ => false
def eqV : V → V → Bool
  | .w a, .w b => eqW a b
  | .tup a, .tup b => eqWs a b
  | _, _ => false

theorem eqC_eq {a b : C} (h : eqC a b = true) : a = b := by
  cases a <;> cases b <;> simp [eqC] at h
  rw [eqT_eq h]
theorem eqCs_eq : ∀ {a b : List C}, eqCs a b = true → a = b
  | [], [], _ => rfl
  | a :: r, b :: s, h => by
    simp only [eqCs, Bool.and_eq_true] at h
    rw [eqC_eq h.1, eqCs_eq h.2]
  | [], _ :: _, h => by simp [eqCs] at h
  | _ :: _, [], h => by simp [eqCs] at h
theorem eqW_eq {a b : W} (h : eqW a b = true) : a = b := by
  cases a <;> cases b <;> simp [eqW] at h
  · rw [eqC_eq h]
  · rw [eqCs_eq h]
theorem eqWs_eq : ∀ {a b : List W}, eqWs a b = true → a = b
  | [], [], _ => rfl
  | a :: r, b :: s, h => by
    simp only [eqWs, Bool.and_eq_true] at h
    rw [eqW_eq h.1, eqWs_eq h.2]
  | [], _ :: _, h => by simp [eqWs] at h
  | _ :: _, [], h => by simp [eqWs] at h
theorem eqV_eq {a b : V} (h : eqV a b = true) : a = b := by
  cases a <;> cases b <;> simp [eqV] at h
  · rw [eqW_eq h]
  · rw [eqWs_eq h]

/-- A function at given arguments. -/
theorem fn_of_E {fns : Nat → Option FnR} {tab : Nat → List W → Option V} {fuel d : Nat} (hfns : FnsOk P fns) (htab : TabOk P tab) {f : FuncId} {fr : FnR} (hfr : fns f = some fr) {us : List W} {v : V}
    (h : valRun false P (handlers false P fns tab fuel d).1 (handlers false P fns tab fuel d).2 fuel fr us (fun v' => eqV v' v) = true) : Fn P f us [] v [] ∧ v.isT = true := by
  obtain ⟨h1, h2⟩ := handlers_ok hfns htab (fuel := fuel) d
  obtain ⟨v', h3, h4, h5⟩ := valRun_sound h1 h2 (hfns f fr hfr) h
  have := eqV_eq h5
  subst this
  exact ⟨h3, h4⟩

end Go.Abs
