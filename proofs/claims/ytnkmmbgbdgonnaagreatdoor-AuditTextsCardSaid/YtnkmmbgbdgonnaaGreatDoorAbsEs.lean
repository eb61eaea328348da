import Derived.Test.YtnkmmbgbdgonnaaGreatDoorAbsEy
import Derived.Test.YtnkmmbgbdgonnaaGreatDoorAbsSeg
namespace Go.Abs
open Go

abbrev CallH (α : Type) := FuncId → List W → HS → Nat → (V → HS → Nat → α) → α
abbrev CallD (α : Type) := FuncId → List W → HS → Nat → (V → HS → α) → α

section
variable {α : Type} (bad : α) (call : CallH α) (callD : CallD α)

/-- The function and the arguments of a call of a value. -/
def fnOf (v : V) (us : List W) (k : FuncId → List W → α) : α :=
  match v with
  | .w (.one (.clo f caps)) => k f (us ++ caps.map fun p => .one (.ptr p.1 p.2.1 p.2.2.1 p.2.2.2))
  | .w (.one (.bnd f true ts)) => k f (.agg (ts.map .t) :: us)
  | .w (.one (.bnd f false [t])) => k f (.one (.t t) :: us)
  | .w (.one (.t (.val (.func (.func f) first caps)))) => sel (first.isEmpty && caps.isEmpty) (k f us) bad
  | _ => bad

def EGo (P : Program) (o : Rop) (tm : Tr) (hp : HS) (ctr : Nat) (K : Tr → HS → Nat → α) : α :=
  match o.op with
  | .call f args => wsG bad (gT tm) args fun us => call f us hp ctr fun v hp' ctr' => frc v fun v => putD tm o.dst v fun tm => K tm hp' ctr'
  | .callc x args => wsG bad (gT tm) args fun us => fnOf bad (gT tm x) us fun f us => sel (enters P f) (call f us hp ctr fun v hp' ctr' => frc v fun v => putD tm o.dst v fun tm => K tm hp' ctr') bad
  | .raw op ty => EX P bad op ty (gT tm) hp ctr fun v hp' => putD tm o.dst v fun tm => frN (ctr + 4) fun c => K tm hp' c
  | .append size bytes s x => match gT tm s with
    | .w (.one (.own id sz 0 len)) => match find hp id with
      | some (.row sz2 xs) => frcL (upd hp id (.row sz2 (xs.take len))) fun hp => ER bad (.append size bytes s x) (gT tm) hp ctr fun v hp' => putD tm o.dst v fun tm => frN (ctr + 4) fun c => K tm hp' c
      | _ => bad
    | _ => ER bad (.append size bytes s x) (gT tm) hp ctr fun v hp' => putD tm o.dst v fun tm => frN (ctr + 4) fun c => K tm hp' c
  | .slice size x lo hi => match gT tm x with
    | .w (.one (.t (.val (.slice none 0 0)))) => match bound? (lo.map (gT tm)) 0, bound? (hi.map (gT tm)) 0 with
      | some 0, some 0 => putD tm o.dst (.w (.one (.t (.val (.slice none 0 0))))) fun tm => frN (ctr + 4) fun c => K tm hp c
      | _, _ => bad
    | _ => ER bad (.slice size x lo hi) (gT tm) hp ctr fun v hp' => putD tm o.dst v fun tm => frN (ctr + 4) fun c => K tm hp' c
  | r => ER bad r (gT tm) hp ctr fun v hp' => putD tm o.dst v fun tm => frN (ctr + 4) fun c => K tm hp' c

def EOp (P : Program) (o : Rop) (tm : Tr) (hp : HS) (ctr : Nat) (K : Tr → HS → Nat → α) : α :=
  match o.guard with
  | none => EGo bad call P o tm hp ctr K
  | some (d, want) =>
    match tm.get (key d) with
    | some (.w (.one (.t (.val (.bool b))))) => sel (b == want) (EGo bad call P o tm hp ctr K) (putD tm o.dst (.tup []) fun tm => K tm hp ctr)
    | some (.tup []) => putD tm o.dst (.tup []) fun tm => K tm hp ctr
    | _ => bad

def EOps (P : Program) : List Rop → Tr → HS → Nat → (Tr → HS → Nat → α) → α
  | [], tm, hp, ctr, K => K tm hp ctr
  | o :: r, tm, hp, ctr, K => EOp bad call P o tm hp ctr fun tm hp ctr => EOps P r tm hp ctr K

def EGoD (P : Program) (o : Rop) (tm : Tr) (hp : HS) (ctr : Nat) (K : Tr → HS → Nat → α) : α :=
  match o.op with
  | .call f args => wsG bad (gT tm) args fun us => callD f us hp ctr fun v hp' => frc v fun v => putD tm o.dst v fun tm => frN (ctr + 4) fun c => K tm hp' c
  | .callc x args => wsG bad (gT tm) args fun us => fnOf bad (gT tm x) us fun f us => sel (enters P f) (callD f us hp ctr fun v hp' => frc v fun v => putD tm o.dst v fun tm => frN (ctr + 4) fun c => K tm hp' c) bad
  | .raw op ty => match evalOp P (fun x => gT tm (opd x)) hp ctr (bare op ty) with
    | some (v, hp') => frc v fun v => putD tm o.dst v fun tm => frN (ctr + 4) fun c => K tm hp' c
    | none => bad
  | r => ER bad r (gT tm) hp ctr fun v hp' => putD tm o.dst v fun tm => frN (ctr + 4) fun c => K tm hp' c

def footG (o : Rop) (tm : Tr) (ctr : Nat) : Foot :=
  let rd := if o.op.looks then o.op.opds.flatMap fun x => (gT tm x).ids else []
  ⟨o.dst, o.op.opds.filterMap opdT ++ (o.guard.map (·.1)).toList, rd, four ctr ++ if o.op.wrt then rd else []⟩

def EOpD (P : Program) (o : Rop) (tm : Tr) (hp : HS) (ctr : Nat) (K : Tr → HS → Nat → α) : α :=
  match o.guard with
  | none => EGoD bad callD P o tm hp ctr K
  | some (d, want) =>
    match tm.get (key d) with
    | some (.w (.one (.t (.val (.bool b))))) => sel (b == want) (EGoD bad callD P o tm hp ctr K) (putD tm o.dst (.tup []) fun tm => frN (ctr + 4) fun c => K tm hp c)
    | some (.tup []) => putD tm o.dst (.tup []) fun tm => frN (ctr + 4) fun c => K tm hp c
    | _ => bad

def EDraw (P : Program) : List Rop → List Foot → Tr → HS → Nat → (List Foot → Tr → HS → Nat → α) → α
  | [], fs, tm, hp, ctr, K => K fs tm hp ctr
  | o :: r, fs, tm, hp, ctr, K => EOpD bad callD P o tm hp ctr fun tm' hp' ctr' => EDraw P r (fs ++ [footG o tm ctr]) tm' hp' ctr' K

/-- An operation that comes after all before it, and before all after it. -/
def isPiv (bits : List Nat) (N j : Nat) : Bool :=
  (List.range j).all (fun i => (bits.getD j 0).testBit i) && (List.range (N - (j + 1))).all (fun d => (bits.getD (j + 1 + d) 0).testBit j)

def splitPiv (bits : List Nat) (N : Nat) : Nat → List Rop → List Rop × List Rop
  | _, [] => ([], [])
  | j, o :: r => sel (isPiv bits N j) ([], o :: r) (o :: (splitPiv bits N (j + 1) r).1, (splitPiv bits N (j + 1) r).2)

def laterOk (bits : List Nat) (lo m N : Nat) : Bool :=
  (List.range (N - (lo + m))).all fun d => (List.range m).all fun i => (bits.getD (lo + m + d) 0).testBit (lo + i)

def EDrawP (P : Program) (bits : List Nat) (N : Nat) : Nat → Nat → List Rop → Tr → HS → Nat → (Tr → HS → Nat → α) → α
  | 0, _, _, _, _, _, _ => bad
  | f + 1, lo, ops, tm, hp, ctr, K =>
    EDraw bad callD P (splitPiv bits N lo ops).1 [] tm hp ctr fun fs tm hp ctr =>
      sel (segOk bits lo fs && laterOk bits lo (splitPiv bits N lo ops).1.length N)
        (match (splitPiv bits N lo ops).2 with
        | [] => K tm hp ctr
        | o :: r => EOp bad call P o tm hp ctr fun tm hp ctr => EDrawP P bits N f (lo + (splitPiv bits N lo ops).1.length + 1) r tm hp ctr K) bad

def ethen (K : Tr → HS → Nat → α) (Q : Exit → Tr → HS → Nat → α) : Exit → Tr → HS → Nat → α
  | .normal => K
  | e => Q e

def eblock (id : Nat) (Q : Exit → Tr → HS → Nat → α) : Exit → Tr → HS → Nat → α
  | .exit id' => sel (Nat.beq id' id) (Q .normal) (Q (.exit id'))
  | e => Q e

def eloop (body : (Tr → HS → Nat → α) → Tr → HS → Nat → α) : Nat → Tr → HS → Nat → α
  | 0 => fun _ _ _ => bad
  | n + 1 => body (eloop body n)

def E (P : Program) (fuel : Nat) : Rc → (Exit → Tr → HS → Nat → α) → Tr → HS → Nat → α
  | .skip, Q, tm, hp, ctr => Q .normal tm hp ctr
  | .ret, Q, tm, hp, ctr => Q .ret tm hp ctr
  | .exit id, Q, tm, hp, ctr => Q (.exit id) tm hp ctr
  | .seq a b, Q, tm, hp, ctr => E P fuel a (ethen (E P fuel b Q) Q) tm hp ctr
  | .cond c a b, Q, tm, hp, ctr =>
    match (gT tm c).bool? with
    | some v => sel v (E P fuel a Q tm hp ctr) (E P fuel b Q tm hp ctr)
    | none => bad
  | .block id b, Q, tm, hp, ctr => E P fuel b (eblock id Q) tm hp ctr
  | .loop b, Q, tm, hp, ctr => eloop bad (fun self => E P fuel b (ethen self Q)) fuel tm hp ctr
  | .region ops, Q, tm, hp, ctr => EOps bad call P ops tm hp ctr (Q .normal)
  | .draw ops es, Q, tm, hp, ctr => EDrawP bad call callD P (ancL es []) ops.length (ops.length + 1) 0 ops tm hp ctr (Q .normal)
end

/-- All destinations are there. -/
def dstsOk (n : Nat) : Rc → Bool
  | .seq a b => dstsOk n a && dstsOk n b
  | .cond _ a b => dstsOk n a && dstsOk n b
  | .block _ b => dstsOk n b
  | .loop b => dstsOk n b
  | .region ops => ops.all fun o => dstOk n o.dst
  | .draw ops _ => ops.all fun o => dstOk n o.dst
  | _ => true

variable {P : Program} {M A : Nat → Prop} {ρ : Env} {F : Nat → Prop} {st : St} {a : Act} {w : World}

/-- What is reached, in a world. -/
def At (M A : Nat → Prop) (ρ : Env) (w : World) (n : Nat) (tm : Tr) (hp : HS) (ctr : Nat) (a' : Act) (w' : World) : Prop :=
  ∃ L A' ρ', TmOk tm L ∧ Rel M A' ρ' (From ctr) ⟨n, L, hp⟩ a' w' ∧ Evo M w w' ∧ Ext ρ ρ' ∧ Grow A A' w

theorem At.trans {A1 : Nat → Prop} {ρ1 : Env} {w1 w' : World} {n : Nat} {tm : Tr} {hp : HS} {ctr : Nat} {a' : Act} (h : At M A1 ρ1 w1 n tm hp ctr a' w') (hev : Evo M w w1) (hext : Ext ρ ρ1) (hg : Grow A A1 w) : At M A ρ w n tm hp ctr a' w' := by
  obtain ⟨L, A', ρ', h1, h2, h3, h4, h5⟩ := h
  exact ⟨L, A', ρ', h1, h2, hev.trans h3, hext.trans h4, hg.trans h5 hev.size⟩

theorem At.here {n : Nat} {L : TS} {tm : Tr} {hp : HS} {ctr : Nat} (ht : TmOk tm L) (h : Rel M A ρ (From ctr) ⟨n, L, hp⟩ a w) : At M A ρ w n tm hp ctr a w :=
  ⟨L, A, ρ, ht, h, Evo.refl _ _, Ext.refl _, Grow.refl _ _⟩

/-- A piece of code leads from one state to another, in whatever world. -/
def Run (P : Program) (n : Nat) (c : Code) (tm : Tr) (hp : HS) (ctr : Nat) (e : Exit) (tm' : Tr) (hp' : HS) (ctr' : Nat) : Prop :=
  ∀ (M A : Nat → Prop) (ρ : Env) (a : Act) (w : World) (L : TS), TmOk tm L → Rel M A ρ (From ctr) ⟨n, L, hp⟩ a w →
    c.wp P (fun e2 a' w' => e2 = e ∧ At M A ρ w n tm' hp' ctr' a' w') a w

/-- A call, over the caller's heap. -/
def CallRun (P : Program) (f : FuncId) (us : List W) (hp : HS) (ctr : Nat) (v : V) (hp' : HS) (ctr' : Nat) : Prop :=
  ∀ (M A : Nat → Prop) (ρ : Env) (a : Act) (w : World) (n : Nat) (L : TS) (xs : Array Value), Rel M A ρ (From ctr) ⟨n, L, hp⟩ a w → RWs w A ρ us xs.toList →
    Calls P f xs w fun e w' => ∃ x A' ρ', e = .returned x ∧ Rel M A' ρ' (From ctr') ⟨n, L, hp'⟩ a w' ∧ RV w' A' ρ' v x ∧ Evo M w w' ∧ Ext ρ ρ' ∧ Grow A A' w

def CallOk (P : Program) (call : CallH Bool) : Prop := ∀ f us hp ctr K, call f us hp ctr K = true → ∃ v hp' ctr', CallRun P f us hp ctr v hp' ctr' ∧ K v hp' ctr' = true
def CallDOk (P : Program) (callD : CallD Bool) : Prop := ∀ f us hp ctr K, callD f us hp ctr K = true → ∃ v hp', CallTo P hp ctr f us v hp' ∧ K v hp' = true

def GuardOk (ops : Array Oper) (o : Oper) (g : Option (Nat × Bool)) : Prop :=
  (o.guard = none ∧ g = none) ∨ ∃ j want d, o.guard = some (j, want) ∧ (ops[j]?).bind (·.dst) = some d ∧ g = some (d, want)

/-- One operation leads from a state to another. -/
def RunOp (P : Program) (n : Nat) (ops : Array Oper) (i : Nat) (tm : Tr) (hp : HS) (ctr : Nat) (tm' : Tr) (hp' : HS) (ctr' : Nat) : Prop :=
  ∀ (M A : Nat → Prop) (ρ : Env) (a : Act) (w : World) (L : TS) (Q : Exit → Act → World → Prop) (K' : Act → World → Prop), TmOk tm L → Rel M A ρ (From ctr) ⟨n, L, hp⟩ a w →
    (∀ a' w', At M A ρ w n tm' hp' ctr' a' w' → K' a' w') → wpOp P ops Q i K' a w

/-- What an operation that is no call comes to, in the state's own words. -/
def StepV (P : Program) (n : Nat) (ops : Array Oper) (o : Oper) (tm : Tr) (hp : HS) (ctr : Nat) (v : V) (hp' : HS) : Prop :=
  ∀ L, TmOk tm L → StepOk P ops o n L hp ctr v hp'

theorem StepV.run {n : Nat} {ops : Array Oper} {o : Oper} {i : Nat} {tm : Tr} {hp hp' : HS} {ctr : Nat} {v : V} (hi : ops[i]? = some o) (h : StepV P n ops o tm hp ctr v hp') :
    RunOp P n ops i tm hp ctr (setD tm o.dst v) hp' (ctr + 4) := by
  intro M A ρ a w L Q K' hL hr hk
  refine StepOk.sound hi (h L hL) hr (fun k h1 _ => h1) ?_
  intro a' w' A' ρ' r1 r2 r3 r4
  exact hk a' w' ⟨_, A', ρ', hL.put o.dst v, r1.sub sub_from, r2, r3, r4⟩

theorem stepV_skip {n : Nat} {ops : Array Oper} {o : Oper} {g : Option (Nat × Bool)} {tm : Tr} {hp : HS} {ctr : Nat} (hd : dstOk n o.dst = true) (hgd : GuardOk ops o g)
    (hg : ∃ d want, g = some (d, want) ∧ ((∃ b, tm.get (key d) = some (bV b) ∧ (b == want) = false) ∨ tm.get (key d) = some (.tup []))) : StepV P n ops o tm hp ctr (.tup []) hp := by
  intro L hL
  obtain ⟨d, want, rfl, hg⟩ := hg
  rcases hgd with ⟨_, h⟩ | ⟨j, want', d', h1, h2, h3⟩
  · simp at h
  · simp only [Option.some.injEq, Prod.mk.injEq] at h3
    obtain ⟨rfl, rfl⟩ := h3
    refine ⟨hd, ?_⟩
    rcases hg with ⟨b, hb, hne⟩ | hb
    · rw [← hL d] at hb
      simp only [evalGuard, h1, h2, hb, hne]
      exact ⟨trivial, trivial⟩
    · rw [← hL d] at hb
      simp only [evalGuard, h1, h2, hb]
      exact ⟨trivial, trivial⟩

theorem guard_true {ops : Array Oper} {o : Oper} {g : Option (Nat × Bool)} {tm : Tr} {L : TS} (hL : TmOk tm L) (hgd : GuardOk ops o g)
    (hg : g = none ∨ ∃ d want b, g = some (d, want) ∧ tm.get (key d) = some (bV b) ∧ (b == want) = true) : evalGuard ops o L = some true := by
  rcases hgd with ⟨h0, rfl⟩ | ⟨j, want, d, h1, h2, rfl⟩
  · simp [evalGuard, h0]
  · rcases hg with h | ⟨d', want', b, h3, h4, h5⟩
    · simp at h
    · simp only [Option.some.injEq, Prod.mk.injEq] at h3
      obtain ⟨rfl, rfl⟩ := h3
      rw [← hL d] at h4
      simp only [evalGuard, h1, h2, h4, h5]

theorem ER_step {n : Nat} {ops : Array Oper} {o : Oper} {x : Ro} {g : Option (Nat × Bool)} {tm : Tr} {hp : HS} {ctr : Nat} {K : V → HS → Bool} (hx : resolveOp P o = some x) (hd : dstOk n o.dst = true)
    (hgd : GuardOk ops o g) (hg : g = none ∨ ∃ d want b, g = some (d, want) ∧ tm.get (key d) = some (bV b) ∧ (b == want) = true)
    (hE : ∃ L, TmOk tm L) (h : ER false x (gT tm) hp ctr K = true) : ∃ v hp', StepV P n ops o tm hp ctr v hp' ∧ K v hp' = true := by
  obtain ⟨L0, hL0⟩ := hE
  rw [gT_eq hL0] at h
  obtain ⟨h1, v, hp', h2, h3⟩ := XR_sound (st := ⟨n, L0, hp⟩) hx (ER_XR h)
  refine ⟨v, hp', fun L hL => ⟨hd, ?_⟩, h3⟩
  rw [guard_true hL hgd hg]
  have hget : ∀ y, St.get ⟨n, L, hp⟩ y = St.get ⟨n, L0, hp⟩ y := by
    intro y
    cases y with
    | tmp t => simp only [St.get]; rw [hL t, hL0 t]
    | _ => rfl
  have c1 : callOf (St.get ⟨n, L, hp⟩) o = none := by rw [callOf_congr (get' := St.get ⟨n, L0, hp⟩) (fun y _ => hget y)]; exact h1
  simp only [c1]
  rw [evalOp_congr (get' := St.get ⟨n, L0, hp⟩) (fun y _ => hget y)]
  exact h2

/-- Some list reads as the state. -/
def Tr.toL : Tr → (Pn → Pn) → List (Nat × V)
  | .nil, _ => []
  | .node v l r, f => (match v with | some x => [((f .e).dec, x)] | none => []) ++ l.toL (fun p => f (.o p)) ++ r.toL (fun p => f (.i p))

theorem dec_inj : ∀ {p q : Pn}, p.dec = q.dec → p = q
  | .e, .e, _ => rfl
  | .e, .o _, h => by simp [Pn.dec] at h
  | .e, .i _, h => by simp [Pn.dec] at h
  | .o _, .e, h => by simp [Pn.dec] at h
  | .i _, .e, h => by simp [Pn.dec] at h
  | .o p, .o q, h => by simp only [Pn.dec] at h; rw [dec_inj (p := p) (q := q) (by omega)]
  | .i p, .i q, h => by simp only [Pn.dec] at h; rw [dec_inj (p := p) (q := q) (by omega)]
  | .o p, .i q, h => by simp only [Pn.dec] at h; omega
  | .i p, .o q, h => by simp only [Pn.dec] at h; omega

theorem key_dec (p : Pn) : key p.dec = p := dec_inj (by unfold key; exact keyF_dec _ _ (Nat.le_refl _))

theorem find_none_of {β : Type} : ∀ {l : List (Nat × β)} {t : Nat}, (∀ p, p ∈ l → p.1 ≠ t) → find l t = none
  | [], t, _ => rfl
  | (k, v) :: r, t, h => by
    rw [find_cons, if_neg (h (k, v) (by simp))]
    exact find_none_of fun p hp => h p (by simp [hp])

theorem toL_keys : ∀ (tr : Tr) (f : Pn → Pn) (p : Nat × V), p ∈ tr.toL f → ∃ q, p.1 = (f q).dec
  | .nil, f, p, h => by simp [Tr.toL] at h
  | .node v l r, f, p, h => by
    simp only [Tr.toL, List.mem_append] at h
    rcases h with (h | h) | h
    · cases v with
      | none => simp at h
      | some x => simp only [List.mem_singleton] at h; subst h; exact ⟨.e, rfl⟩
    · obtain ⟨q, hq⟩ := toL_keys l _ p h; exact ⟨.o q, hq⟩
    · obtain ⟨q, hq⟩ := toL_keys r _ p h; exact ⟨.i q, hq⟩

theorem find_toL : ∀ (tr : Tr) (f : Pn → Pn) (hf : ∀ p q, f p = f q → p = q) (q : Pn), find (tr.toL f) (f q).dec = tr.get q
  | .nil, f, hf, q => by rw [Tr.get_nil]; rfl
  | .node v l r, f, hf, q => by
    have hl := find_toL l (fun p => f (.o p)) (fun p q h => by have := hf _ _ h; simpa using this)
    have hr := find_toL r (fun p => f (.i p)) (fun p q h => by have := hf _ _ h; simpa using this)
    have nl : ∀ q, (∀ q', Pn.o q' ≠ q) → find (l.toL fun p => f (.o p)) (f q).dec = none := by
      intro q hq
      refine find_none_of fun p hp he => ?_
      obtain ⟨q', hq'⟩ := toL_keys l _ p hp
      rw [hq'] at he
      exact hq q' (hf _ _ (dec_inj he))
    have nr : ∀ q, (∀ q', Pn.i q' ≠ q) → find (r.toL fun p => f (.i p)) (f q).dec = none := by
      intro q hq
      refine find_none_of fun p hp he => ?_
      obtain ⟨q', hq'⟩ := toL_keys r _ p hp
      rw [hq'] at he
      exact hq q' (hf _ _ (dec_inj he))
    have nv : ∀ q, q ≠ .e → find (match v with | some x => [((f .e).dec, x)] | none => []) (f q).dec = none := by
      intro q hq
      refine find_none_of fun p hp he => ?_
      cases v with
      | none => simp at hp
      | some x =>
        simp only [List.mem_singleton] at hp
        subst hp
        exact hq (hf _ _ (dec_inj he)).symm
    simp only [Tr.toL, find_append]
    cases q with
    | e =>
      rw [nl .e (by simp), nr .e (by simp)]
      cases v with
      | none => simp [find, Tr.get]
      | some x => simp [find, Tr.get]
    | o q =>
      rw [nv (.o q) (by simp), nr (.o q) (by simp), hl q]
      simp [Tr.get]
    | i q =>
      rw [nv (.i q) (by simp), nl (.i q) (by simp), hr q]
      simp [Tr.get]

theorem tmOk_ex (tr : Tr) : ∃ L, TmOk tr L := by
  refine ⟨tr.toL id, fun t => ?_⟩
  have h1 : t = (id (key t)).dec := by
    simp only [id]
    unfold key
    exact (keyF_dec t t (Nat.le_refl _)).symm
  have h2 := find_toL tr id (fun _ _ h => h) (key t)
  rw [← h1] at h2
  exact h2

variable {call : CallH Bool} {callD : CallD Bool}

theorem resolve0_callc {o : Oper} {x : Opd} {args : List Opd} (h : resolveOp0 P o = some (.callc x args)) : False := by
  obtain ⟨dst, op, ty, pos, after, guard⟩ := o
  cases op <;> simp only [resolveOp0] at h
  all_goals (repeat' split at h)
  all_goals simp at h

theorem resolve0_raw {o : Oper} {op : Op} {ty : TypeId} (h : resolveOp0 P o = some (.raw op ty)) : False := by
  obtain ⟨dst, op, ty, pos, after, guard⟩ := o
  cases op <;> simp only [resolveOp0] at h
  all_goals (repeat' split at h)
  all_goals simp at h

theorem resolve0_slice {o : Oper} {size : Nat} {x : Opd} {lo hi : Option Opd} (h : resolveOp0 P o = some (.slice size x lo hi)) :
    ∃ t x' lo' hi' e, o.op = .slice t x' lo' hi' none ∧ P.underlying t = some (.slice e) ∧ sizeT P e = some size ∧ x = opd x' ∧ lo = lo'.map opd ∧ hi = hi'.map opd := by
  obtain ⟨dst, op, ty, pos, after, guard⟩ := o
  cases op
  case slice t x' lo' hi' mx =>
    cases mx with
    | some m => simp [resolveOp0] at h
    | none =>
      simp only [resolveOp0] at h
      split at h
      · rename_i e hu
        simp only [Option.map_eq_some_iff, Ro.slice.injEq] at h
        obtain ⟨s, hs, rfl, rfl, rfl, rfl⟩ := h
        exact ⟨t, x', lo', hi', e, rfl, hu, hs, rfl, rfl, rfl⟩
      · simp at h
  all_goals
    exfalso
    simp only [resolveOp0] at h
    repeat' split at h
    all_goals first | (simp at h; done) | simp_all

theorem resolve_slice {o : Oper} {size : Nat} {x : Opd} {lo hi : Option Opd} (h : resolveOp P o = some (.slice size x lo hi)) :
    ∃ t x' lo' hi' e, o.op = .slice t x' lo' hi' none ∧ P.underlying t = some (.slice e) ∧ sizeT P e = some size ∧ x = opd x' ∧ lo = lo'.map opd ∧ hi = hi'.map opd := by
  unfold resolveOp at h
  split at h
  · rename_i r hr
    simp only [Option.some.injEq] at h
    subst h
    exact resolve0_slice hr
  · simp only [Option.some.injEq] at h
    rcases rawOp_or o with ⟨t, argsO, tys, ho, e⟩ | e
    · rw [e] at h; simp at h
    · rw [e] at h; simp at h

theorem evalOp_call {get : Operand → V} {o : Oper} {p : FuncId × List W} {hp : HS} {nid : Nat} {r : V × HS} (hc : callOf get o = some p) (he : evalOp P get hp nid o = some r) : False := by
  obtain ⟨dst, op, ty, pos, after, guard⟩ := o
  unfold callOf at hc
  simp only at hc
  split at hc
  · simp [evalOp] at he
  · simp at hc

theorem bound0 {tm : Tr} {L : TS} {n : Nat} {hp : HS} (hL : TmOk tm L) (hr : Rel M A ρ F ⟨n, L, hp⟩ a w) {lo : Option Operand} (h : bound? ((lo.map opd).map (gT tm)) 0 = some 0) : lo.map a.eval = none ∨ ∃ k, lo.map a.eval = some (.int k 0) := by
  cases lo with
  | none => exact .inl rfl
  | some x =>
    right
    simp only [Option.map_some, bound?] at h
    split at h
    · rename_i k m hm
      split at h
      · rename_i h0
        simp only [Option.some.injEq] at h
        have : m = 0 := by omega
        subst this
        exact ⟨k, by rw [Option.map_some, V.int?_spec hm (RV.at hL hr x)]⟩
      · simp at h
    · simp at h

theorem nilSlice_run {n : Nat} {o : Oper} {size : Nat} {x : Opd} {lo hi : Option Opd} {tm : Tr} {hp : HS} {ctr : Nat} (hx : resolveOp P o = some (.slice size x lo hi)) (hy : gT tm x = .w (.one (.t (.val (.slice none 0 0)))))
    (hlo : bound? (lo.map (gT tm)) 0 = some 0) (hhi : bound? (hi.map (gT tm)) 0 = some 0) : RunV P n o tm hp ctr (.w (.one (.t (.val (.slice none 0 0))))) hp := by
  obtain ⟨t, x', lo', hi', e, ho, hu, hs, rfl, rfl, rfl⟩ := resolve_slice hx
  intro M A ρ a w L hL hr
  have vx := RV.at hL hr x'
  rw [hy] at vx
  have hv : a.eval x' = .slice none 0 0 := V.val?_spec (v := .slice none 0 0) rfl vx
  have hrun : (execOp a.eval o).run P w = .ok (.value (.slice none 0 0)) w := by
    rw [← execOp_bare, ho]
    rcases bound0 hL hr hlo with h1 | ⟨k1, h1⟩ <;> rcases bound0 hL hr hhi with h2 | ⟨k2, h2⟩ <;>
      simp [execOp, Instr.sliceAt, Instr.slice, hv, h1, h2, run_underlying hu, Instr.sliceBounds, Instr.sliceBound, asIntOf, run_sizeOf hs]
  exact ⟨_, w, A, ρ, .inl hrun, hr.sub from_sub, RV.ofValue w A ρ (.slice none 0 0), Evo.refl _ _, Ext.refl _, Grow.refl _ _⟩

theorem callRun_op {n : Nat} {ops : Array Oper} {o : Oper} {i : Nat} {f : FuncId} {g : Option (Nat × Bool)} {tm : Tr} {hp hp' : HS} {ctr ctr' : Nat} {us : List W} {v : V}
    (hi : ops[i]? = some o) (hen : enters P f = true) (hd : dstOk n o.dst = true) (hgd : GuardOk ops o g) (hg : g = none ∨ ∃ d want b, g = some (d, want) ∧ tm.get (key d) = some (bV b) ∧ (b == want) = true)
    (hco : ∀ L, TmOk tm L → callOf (St.get ⟨n, L, hp⟩) o = some (f, us)) (hc : CallRun P f us hp ctr v hp' ctr') : RunOp P n ops i tm hp ctr (setD tm o.dst v) hp' ctr' := by
  intro M A ρ a w L Q K' hL hr hk
  have hgt := guard_true hL hgd hg
  have hwant := evalGuard_sound hr hgt
  obtain ⟨xs, hxs, hxr⟩ := callOf_sound (P := P) hr (hco L hL) hen
  unfold wpOp
  simp only [hi, hwant, if_true]
  refine .inl ?_
  simp only [Oper.wp, hxs, Oper.upon]
  refine (hc M A ρ a w n L xs hr hxr).mono ?_
  rintro e w' ⟨x, A', ρ', rfl, r1, r2, r3, r4, r5⟩
  refine hk _ _ ⟨_, A', ρ', hL.put o.dst v, ?_, r3, r4, r5⟩
  have := r1.put (dst := o.dst) r2 (dstOk_spec hd)
  rw [putT_eq'] at this
  exact this

/-- An operation that yields a value, in the region. -/
theorem runV_op {n : Nat} {ops : Array Oper} {o : Oper} {i : Nat} {g : Option (Nat × Bool)} {tm : Tr} {hp hp' : HS} {ctr : Nat} {v : V}
    (hi : ops[i]? = some o) (hd : dstOk n o.dst = true) (hgd : GuardOk ops o g) (hg : g = none ∨ ∃ d want b, g = some (d, want) ∧ tm.get (key d) = some (bV b) ∧ (b == want) = true)
    (h : RunV P n o tm hp ctr v hp') : RunOp P n ops i tm hp ctr (setD tm o.dst v) hp' (ctr + 4) := by
  intro M A ρ a w L Q K' hL hr hk
  have hgt := guard_true hL hgd hg
  have hwant := evalGuard_sound hr hgt
  obtain ⟨x, w', A', ρ', hrun, r1, r2, r3, r4, r5⟩ := h M A ρ a w L hL hr
  unfold wpOp
  simp only [hi, hwant, if_true]
  refine .inl ?_
  have fin : ∀ {y : Value}, RV w' A' ρ' v y → Rel M A' ρ' (From (ctr + 4)) ⟨n, putT L o.dst v, hp'⟩ (a.put o.dst y) w' := by
    intro y hy
    have := r1.put (dst := o.dst) hy (dstOk_spec hd)
    rw [putT_eq'] at this
    exact this
  rcases hrun with hrun | ⟨hrun, rfl⟩
  · simp only [Oper.wp, hrun, Oper.upon]
    exact hk _ _ ⟨_, A', ρ', hL.put o.dst v, fin r2, r3, r4, r5⟩
  · simp only [Oper.wp, hrun, Oper.upon]
    exact hk _ _ ⟨_, A', ρ', hL.put o.dst v, fin r2, r3, r4, r5⟩

theorem wsX_same {tm : Tr} {L L0 : TS} (hL : TmOk tm L) (hL0 : TmOk tm L0) (l : List Opd) : wsX L l = wsX L0 l := by
  have : (fun x => Opd.get L x) = fun x => Opd.get L0 x := by rw [← gT_eq hL, ← gT_eq hL0]
  induction l with
  | nil => rfl
  | cons y r ih => simp only [wsX, ih, congrFun this y]

theorem callOf_call {n : Nat} {o : Oper} {f : FuncId} {args : List Opd} {tm : Tr} {L0 : TS} {hp : HS} {us : List W} (hx : resolveOp P o = some (.call f args)) (hL0 : TmOk tm L0) (hus : wsX L0 args = some us) :
    enters P f = true ∧ ∀ L, TmOk tm L → callOf (St.get ⟨n, L, hp⟩) o = some (f, us) := by
  obtain ⟨argsO, tys, ho, rfl, hen⟩ := resolve_call hx
  refine ⟨hen, fun L hL => ?_⟩
  have hw2 : wsOf (St.get ⟨n, L, hp⟩) argsO.toList = some us := by rw [← wsX_eq, ← hus]; exact wsX_same hL hL0 _
  unfold callOf
  rw [ho]
  simp only [St.get, V.ofValue, hw2]
  rfl

theorem resolve_callc {o : Oper} {x : Opd} {args : List Opd} (h : resolveOp P o = some (.callc x args)) : ∃ t argsO tys, o.op = .call ⟨.value (.tmp t), argsO, tys⟩ ∧ x = .t t ∧ args = argsO.toList.map opd := by
  unfold resolveOp at h
  split at h
  · rename_i r hr
    simp only [Option.some.injEq] at h
    subst h
    exfalso
    exact resolve0_callc hr
  · simp only [Option.some.injEq] at h
    rcases rawOp_or o with ⟨t, argsO, tys, ho, e⟩ | e
    · rw [e] at h
      simp only [Ro.callc.injEq] at h
      exact ⟨t, argsO, tys, ho, h.1.symm, h.2.symm⟩
    · rw [e] at h; simp at h

theorem resolve_raw {o : Oper} {op : Op} {ty : TypeId} (h : resolveOp P o = some (.raw op ty)) : op = o.op ∧ ty = o.type := by
  unfold resolveOp at h
  split at h
  · rename_i r hr
    simp only [Option.some.injEq] at h
    subst h
    exfalso
    exact resolve0_raw hr
  · simp only [Option.some.injEq] at h
    rcases rawOp_or o with ⟨t, argsO, tys, ho, e⟩ | e
    · rw [e] at h; simp at h
    · rw [e] at h
      simp only [Ro.raw.injEq] at h
      exact ⟨h.1.symm, h.2.symm⟩

theorem fnOf_sound {v : V} {us : List W} {k : FuncId → List W → Bool} (h : fnOf false v us k = true) : ∃ f us', k f us' = true ∧
    ∀ {get : Operand → V} {o : Oper} {t : Nat} {args : Array Operand} {tys : Array TypeId}, o.op = .call ⟨.value (.tmp t), args, tys⟩ → get (.tmp t) = v → wsOf get args.toList = some us → callOf get o = some (f, us') := by
  unfold fnOf at h
  split at h
  · exact ⟨_, _, h, fun ho hv hus => by unfold callOf; rw [ho]; simp only [hv, hus]⟩
  · exact ⟨_, _, h, fun ho hv hus => by unfold callOf; rw [ho]; simp only [hv, hus, recvW, Option.map_some]⟩
  · exact ⟨_, _, h, fun ho hv hus => by unfold callOf; rw [ho]; simp only [hv, hus, recvW, Option.map_some]⟩
  · obtain ⟨hc, h⟩ := sel_true h
    exact ⟨_, _, h, fun ho hv hus => by unfold callOf; rw [ho]; simp only [hv, hus, hc, if_true]⟩
  · simp at h

theorem callOf_callc {n : Nat} {o : Oper} {x : Opd} {args : List Opd} {tm : Tr} {L0 : TS} {hp : HS} {us : List W} {k : FuncId → List W → Bool} (hx : resolveOp P o = some (.callc x args)) (hL0 : TmOk tm L0) (hus : wsX L0 args = some us)
    (h : fnOf false (gT tm x) us k = true) : ∃ f us', k f us' = true ∧ ∀ L, TmOk tm L → callOf (St.get ⟨n, L, hp⟩) o = some (f, us') := by
  obtain ⟨t, argsO, tys, ho, rfl, rfl⟩ := resolve_callc hx
  obtain ⟨f, us', h1, h2⟩ := fnOf_sound h
  refine ⟨f, us', h1, fun L hL => h2 ho ?_ ?_⟩
  · rw [gT_eq hL]
    exact (opd_get ⟨n, L, hp⟩ (.tmp t)).symm
  · rw [← wsX_eq, ← hus]; exact wsX_same hL hL0 _

theorem EGo_sound (hcall : CallOk P call) {n : Nat} {ops : Array Oper} {o : Oper} {i : Nat} {x : Ro} {g : Option (Nat × Bool)} {tm : Tr} {hp : HS} {ctr : Nat} {K : Tr → HS → Nat → Bool}
    (hi : ops[i]? = some o) (hx : resolveOp P o = some x) (hd : dstOk n o.dst = true) (hgd : GuardOk ops o g) (hg : g = none ∨ ∃ d want b, g = some (d, want) ∧ tm.get (key d) = some (bV b) ∧ (b == want) = true)
    (h : EGo false call P ⟨o.dst, g, x⟩ tm hp ctr K = true) : ∃ tm' hp' ctr', RunOp P n ops i tm hp ctr tm' hp' ctr' ∧ K tm' hp' ctr' = true := by
  obtain ⟨L0, hL0⟩ := tmOk_ex tm
  have plain : ∀ {hp : HS}, ER false x (gT tm) hp ctr (fun v hp' => putD tm o.dst v fun tm => frN (ctr + 4) fun c => K tm hp' c) = true → ∃ tm' hp' ctr', RunOp P n ops i tm hp ctr tm' hp' ctr' ∧ K tm' hp' ctr' = true := by
    intro hp h
    obtain ⟨v, hp', hs, hK⟩ := ER_step hx hd hgd hg ⟨L0, hL0⟩ h
    rw [putD_eq, frN_eq] at hK
    exact ⟨_, _, _, hs.run hi, hK⟩
  unfold EGo at h
  split at h
  · rename_i f args hxo
    simp only at hxo
    subst hxo
    rw [gT_eq hL0] at h
    obtain ⟨us, hus, h⟩ := wsG_eq h
    obtain ⟨v, hp', ctr', hc, h⟩ := hcall _ _ _ _ _ h
    rw [frc_eq, putD_eq] at h
    obtain ⟨hen, hco⟩ := callOf_call (n := n) (hp := hp) hx hL0 hus
    exact ⟨_, _, _, callRun_op hi hen hd hgd hg hco hc, h⟩
  · rename_i y args hxo
    simp only at hxo
    subst hxo
    have h' := h
    rw [gT_eq hL0] at h'
    obtain ⟨us, hus, h'⟩ := wsG_eq h'
    rw [← gT_eq hL0] at h'
    obtain ⟨f, us', h1, hco⟩ := callOf_callc (n := n) (hp := hp) hx hL0 hus h'
    obtain ⟨hen, h1⟩ := sel_true h1
    obtain ⟨v, hp', ctr', hc, h1⟩ := hcall _ _ _ _ _ h1
    rw [frc_eq, putD_eq] at h1
    exact ⟨_, _, _, callRun_op hi hen hd hgd hg hco hc, h1⟩
  · rename_i op ty hxo
    simp only at hxo
    subst hxo
    obtain ⟨rfl, rfl⟩ := resolve_raw hx
    obtain ⟨v, hp', h1, h2⟩ := EX_sound (n := n) h
    rw [putD_eq, frN_eq] at h2
    exact ⟨_, _, _, runV_op hi hd hgd hg h1, h2⟩
  · rename_i size bytes s y hxo
    simp only at hxo
    subst hxo
    split at h
    · rename_i id sz len hs
      split at h
      · rename_i sz2 xs hf
        rw [frcL_eq] at h
        obtain ⟨tm', hp', ctr', h1, h2⟩ := plain h
        refine ⟨tm', hp', ctr', ?_, h2⟩
        intro M A ρ a w L Q K' hL hr hk
        exact h1 M A ρ a w L Q K' hL (Rel.trunc (st := ⟨n, L, hp⟩) hr hf len) hk
      · simp at h
    · exact plain h
  · rename_i size y lo hi' hxo
    simp only at hxo
    subst hxo
    split at h
    · rename_i hy
      split at h
      · rename_i hlo hhi
        rw [putD_eq, frN_eq] at h
        refine ⟨_, _, _, runV_op hi hd hgd hg ?_, h⟩
        exact nilSlice_run hx hy hlo hhi
      · simp at h
    · exact plain h
  · exact plain h

theorem EOp_sound (hcall : CallOk P call) {n : Nat} {ops : Array Oper} {o : Oper} {i : Nat} {x : Ro} {g : Option (Nat × Bool)} {tm : Tr} {hp : HS} {ctr : Nat} {K : Tr → HS → Nat → Bool}
    (hi : ops[i]? = some o) (hx : resolveOp P o = some x) (hd : dstOk n o.dst = true) (hgd : GuardOk ops o g)
    (h : EOp false call P ⟨o.dst, g, x⟩ tm hp ctr K = true) : ∃ tm' hp' ctr', RunOp P n ops i tm hp ctr tm' hp' ctr' ∧ K tm' hp' ctr' = true := by
  unfold EOp at h
  have skip : (∃ d want, g = some (d, want) ∧ ((∃ b, tm.get (key d) = some (bV b) ∧ (b == want) = false) ∨ tm.get (key d) = some (.tup []))) → (putD tm o.dst (.tup []) fun tm => K tm hp ctr) = true →
      ∃ tm' hp' ctr', RunOp P n ops i tm hp ctr tm' hp' ctr' ∧ K tm' hp' ctr' = true := by
    intro hg h
    rw [putD_eq] at h
    have hs : StepV P n ops o tm hp ctr (.tup []) hp := stepV_skip hd hgd hg
    refine ⟨_, _, _, ?_, h⟩
    intro M A ρ a w L Q K' hL hr hk
    have hst := hs L hL
    unfold wpOp
    simp only [hi]
    obtain ⟨d, want, rfl, hgg⟩ := hg
    have hgf : evalGuard ops o L = some false := by
      rcases hgd with ⟨_, h0⟩ | ⟨j, want', d', h1, h2, h3⟩
      · simp at h0
      · simp only [Option.some.injEq, Prod.mk.injEq] at h3
        obtain ⟨rfl, rfl⟩ := h3
        rcases hgg with ⟨b, hb, hne⟩ | hb
        · rw [← hL d] at hb
          simp only [evalGuard, h1, h2, hb, hne]
        · rw [← hL d] at hb
          simp only [evalGuard, h1, h2, hb]
    have := evalGuard_sound hr hgf
    simp only [this, Bool.false_eq_true, if_false]
    refine hk _ _ ⟨_, A, ρ, hL.put o.dst (.tup []), ?_, Evo.refl _ _, Ext.refl _, Grow.refl _ _⟩
    have := hr.put (dst := o.dst) undef_tup (dstOk_spec hd)
    rw [putT_eq'] at this
    exact this
  split at h
  · rename_i hgn
    simp only at hgn
    exact EGo_sound hcall hi hx hd hgd (.inl hgn) h
  · rename_i d want hgs
    simp only at hgs
    split at h
    · rename_i b hb
      cases hbw : (b == want) with
      | true =>
        rw [hbw] at h
        exact EGo_sound hcall hi hx hd hgd (.inr ⟨d, want, b, hgs, hb, hbw⟩) h
      | false =>
        rw [hbw] at h
        exact skip ⟨d, want, hgs, .inl ⟨b, hb, hbw⟩⟩ h
    · rename_i hb
      exact skip ⟨d, want, hgs, .inr hb⟩ h
    · simp at h

theorem guardOk_of {ops : Array Oper} {o : Oper} {x : Ro} {l' rs : List Rop}
    (hrs : (match o.guard with
      | none => some (⟨o.dst, none, x⟩ :: l')
      | some (j, want) =>
        match (ops[j]?).bind (·.dst) with
        | some d => some (⟨o.dst, some (d, want), x⟩ :: l')
        | none => none) = some rs) : ∃ g, rs = ⟨o.dst, g, x⟩ :: l' ∧ GuardOk ops o g := by
  split at hrs
  · rename_i hg
    simp only [Option.some.injEq] at hrs
    exact ⟨_, hrs.symm, .inl ⟨hg, rfl⟩⟩
  · rename_i j want hg
    split at hrs
    · rename_i d hd
      simp only [Option.some.injEq] at hrs
      exact ⟨_, hrs.symm, .inr ⟨j, want, d, hg, hd, rfl⟩⟩
    · simp at hrs

theorem EOps_sound (hcall : CallOk P call) {n : Nat} {ops : Array Oper} : ∀ {l : List Oper} {rs : List Rop} {k : Nat} {tm : Tr} {hp : HS} {ctr : Nat} {K : Tr → HS → Nat → Bool},
    (∀ j, ops[k + j]? = l[j]?) → resolveOps P ops l = some rs → (rs.all fun o => dstOk n o.dst) = true → EOps false call P rs tm hp ctr K = true →
    ∃ tm' hp' ctr', K tm' hp' ctr' = true ∧ ∀ (M A : Nat → Prop) (ρ : Env) (a : Act) (w : World) (L : TS) (Q : Exit → Act → World → Prop), TmOk tm L → Rel M A ρ (From ctr) ⟨n, L, hp⟩ a w →
      (∀ a' w', At M A ρ w n tm' hp' ctr' a' w' → Q .normal a' w') → wpOps P ops Q (List.range' k l.length) a w
  | [], rs, k, tm, hp, ctr, K, hl, hrs, hd, h => by
    simp only [resolveOps, Option.some.injEq] at hrs
    subst hrs
    refine ⟨tm, hp, ctr, h, fun M A ρ a w L Q hL hr hq => ?_⟩
    exact hq _ _ (At.here hL hr)
  | o :: l, rs, k, tm, hp, ctr, K, hl, hrs, hd, h => by
    simp only [resolveOps] at hrs
    split at hrs
    · rename_i x l' hx hl'
      have hi : ops[k]? = some o := by simpa using hl 0
      obtain ⟨g, rfl, hgd⟩ := guardOk_of hrs
      simp only [List.all_cons, Bool.and_eq_true] at hd
      simp only [EOps] at h
      obtain ⟨tm1, hp1, c1, h1, h2⟩ := EOp_sound (n := n) hcall hi hx hd.1 hgd h
      obtain ⟨tm2, hp2, c2, h3, h4⟩ := EOps_sound hcall (k := k + 1) (fun j => by have := hl (j + 1); rw [show k + 1 + j = k + (j + 1) by omega, this]; simp) hl' hd.2 h2
      refine ⟨tm2, hp2, c2, h3, fun M A ρ a w L Q hL hr hq => ?_⟩
      rw [List.length_cons, List.range'_succ, wpOps_cons]
      refine h1 M A ρ a w L Q _ hL hr fun a' w' hat => ?_
      obtain ⟨L1, A1, ρ1, q1, q2, q3, q4, q5⟩ := hat
      exact h4 M A1 ρ1 a' w' L1 Q q1 q2 fun a2 w2 hat2 => hq _ _ (hat2.trans q3 q4 q5)
    · simp at hrs

theorem footG_eq {tm : Tr} {L : TS} (hL : TmOk tm L) (o : Rop) (ctr : Nat) : footG o tm ctr = footOf o L ctr := by
  unfold footG footOf
  rw [gT_eq hL]

theorem EGoD_sound (hcallD : CallDOk P callD) {n : Nat} {ops : Array Oper} {o : Oper} {x : Ro} {g : Option (Nat × Bool)} {tm : Tr} {hp : HS} {ctr : Nat} {K : Tr → HS → Nat → Bool}
    (hx : resolveOp P o = some x) (hd : dstOk n o.dst = true) (hgd : GuardOk ops o g) (hg : g = none ∨ ∃ d want b, g = some (d, want) ∧ tm.get (key d) = some (bV b) ∧ (b == want) = true)
    (h : EGoD false callD P ⟨o.dst, g, x⟩ tm hp ctr K = true) : ∃ v hp', StepV P n ops o tm hp ctr v hp' ∧ K (setD tm o.dst v) hp' (ctr + 4) = true := by
  obtain ⟨L0, hL0⟩ := tmOk_ex tm
  unfold EGoD at h
  split at h
  · rename_i f args hxo
    simp only at hxo
    subst hxo
    rw [gT_eq hL0] at h
    obtain ⟨us, hus, h⟩ := wsG_eq h
    obtain ⟨v, hp', hc, h⟩ := hcallD _ _ _ _ _ h
    rw [frc_eq, putD_eq, frN_eq] at h
    obtain ⟨hen, hco⟩ := callOf_call (n := n) (hp := hp) hx hL0 hus
    refine ⟨v, hp', fun L hL => ⟨hd, ?_⟩, h⟩
    rw [guard_true hL hgd hg]
    simp only [hco L hL]
    exact ⟨hen, hc⟩
  · rename_i y args hxo
    simp only at hxo
    subst hxo
    have h' := h
    rw [gT_eq hL0] at h'
    obtain ⟨us, hus, h'⟩ := wsG_eq h'
    rw [← gT_eq hL0] at h'
    obtain ⟨f, us', h1, hco⟩ := callOf_callc (n := n) (hp := hp) hx hL0 hus h'
    obtain ⟨hen, h1⟩ := sel_true h1
    obtain ⟨v, hp', hc, h1⟩ := hcallD _ _ _ _ _ h1
    rw [frc_eq, putD_eq, frN_eq] at h1
    refine ⟨v, hp', fun L hL => ⟨hd, ?_⟩, h1⟩
    rw [guard_true hL hgd hg]
    simp only [hco L hL]
    exact ⟨hen, hc⟩
  · rename_i op ty hxo
    simp only at hxo
    subst hxo
    obtain ⟨rfl, rfl⟩ := resolve_raw hx
    split at h
    · rename_i v hp' he
      rw [frc_eq, putD_eq, frN_eq] at h
      refine ⟨v, hp', fun L hL => ⟨hd, ?_⟩, h⟩
      rw [guard_true hL hgd hg]
      rw [evalOp_bare, get_eq hL n hp] at he
      have hno : callOf (St.get ⟨n, L, hp⟩) o = none := by
        cases hc : callOf (St.get ⟨n, L, hp⟩) o with
        | none => rfl
        | some p =>
          exfalso
          exact evalOp_call hc he
      simp only [hno]
      exact he
    · simp at h
  · obtain ⟨v, hp', hs, hK⟩ := ER_step (n := n) hx hd hgd hg ⟨L0, hL0⟩ h
    rw [putD_eq, frN_eq] at hK
    exact ⟨_, _, hs, hK⟩

theorem EOpD_sound (hcallD : CallDOk P callD) {n : Nat} {ops : Array Oper} {o : Oper} {x : Ro} {g : Option (Nat × Bool)} {tm : Tr} {hp : HS} {ctr : Nat} {K : Tr → HS → Nat → Bool}
    (hx : resolveOp P o = some x) (hd : dstOk n o.dst = true) (hgd : GuardOk ops o g)
    (h : EOpD false callD P ⟨o.dst, g, x⟩ tm hp ctr K = true) : ∃ v hp', StepV P n ops o tm hp ctr v hp' ∧ K (setD tm o.dst v) hp' (ctr + 4) = true := by
  unfold EOpD at h
  have skip : (∃ d want, g = some (d, want) ∧ ((∃ b, tm.get (key d) = some (bV b) ∧ (b == want) = false) ∨ tm.get (key d) = some (.tup []))) → (putD tm o.dst (.tup []) fun tm => frN (ctr + 4) fun c => K tm hp c) = true →
      ∃ v hp', StepV P n ops o tm hp ctr v hp' ∧ K (setD tm o.dst v) hp' (ctr + 4) = true := by
    intro hg h
    rw [putD_eq, frN_eq] at h
    exact ⟨_, _, stepV_skip hd hgd hg, h⟩
  split at h
  · rename_i hgn
    simp only at hgn
    exact EGoD_sound hcallD hx hd hgd (.inl hgn) h
  · rename_i d want hgs
    simp only at hgs
    split at h
    · rename_i b hb
      cases hbw : (b == want) with
      | true =>
        rw [hbw] at h
        exact EGoD_sound hcallD hx hd hgd (.inr ⟨d, want, b, hgs, hb, hbw⟩) h
      | false =>
        rw [hbw] at h
        exact skip ⟨d, want, hgs, .inl ⟨b, hb, hbw⟩⟩ h
    · rename_i hb
      exact skip ⟨d, want, hgs, .inr hb⟩ h
    · simp at h

/-- The trace of a region that draws, in the order of the text. -/
theorem EDraw_trace (hcallD : CallDOk P callD) {ops : Array Oper} {n base : Nat} {K : List Foot → Tr → HS → Nat → Bool} : ∀ {l : List Oper} {rs : List Rop} {k : Nat} {fs0 : List Foot} {tm : Tr} {hp : HS}, resolveOps P ops l = some rs →
    (rs.all fun o => dstOk n o.dst) = true → fs0.length = k → EDraw false callD P rs fs0 tm hp (base + 4 * k) K = true →
    ∃ (tmE : Nat → Tr) (hpT : Nat → HS) (v : Nat → V) (fs : List Foot), K fs (tmE (k + l.length)) (hpT (k + l.length)) (base + 4 * (k + l.length)) = true ∧ (∀ i, i < k → fs[i]? = fs0[i]?) ∧ tmE k = tm ∧ hpT k = hp ∧
      ∀ j o, l[j]? = some o → StepV P n ops o (tmE (k + j)) (hpT (k + j)) (base + 4 * (k + j)) (v (k + j)) (hpT (k + j + 1)) ∧ tmE (k + j + 1) = setD (tmE (k + j)) o.dst (v (k + j)) ∧
        ∃ f, fs[k + j]? = some f ∧ f.dst = o.dst ∧ ∀ L, TmOk (tmE (k + j)) L → (∀ t, t ∈ names ops o → t ∈ f.nm) ∧ (∀ q, q ∈ touch (St.get ⟨n, L, hpT (k + j)⟩) o → q ∈ f.rd) ∧ (∀ q, q ∈ wrs (St.get ⟨n, L, hpT (k + j)⟩) (base + 4 * (k + j)) o → q ∈ f.wr)
  | [], rs, k, fs0, tm, hp, hrs, hd, hk, h => by
    simp only [resolveOps, Option.some.injEq] at hrs
    subst hrs
    exact ⟨fun _ => tm, fun _ => hp, fun _ => .undef, fs0, by simpa [EDraw] using h, fun _ _ => rfl, rfl, rfl, fun j o hj => by simp at hj⟩
  | o :: l, rs, k, fs0, tm, hp, hrs, hd, hk, h => by
    simp only [resolveOps] at hrs
    split at hrs
    · rename_i x l' hx hl'
      obtain ⟨g, rfl, hgd⟩ := guardOk_of hrs
      simp only [List.all_cons, Bool.and_eq_true] at hd
      simp only [EDraw] at h
      obtain ⟨v0, hp', hst, hK⟩ := EOpD_sound (n := n) (ops := ops) hcallD hx hd.1 hgd h
      rw [show base + 4 * k + 4 = base + 4 * (k + 1) by omega] at hK
      obtain ⟨tmE, hpT, v, fs, q1, q2, q3, q4, q5⟩ := EDraw_trace hcallD (k := k + 1) hl' hd.2 (by simp [hk]) hK
      have hfk : fs[k]? = some (footG ⟨o.dst, g, x⟩ tm (base + 4 * k)) := by
        rw [q2 k (by omega), List.getElem?_append_right (by omega), hk]; simp
      refine ⟨fun i => if i = k then tm else tmE i, fun i => if i = k then hp else hpT i, fun i => if i = k then v0 else v i, fs, ?_, ?_, ?_, ?_, ?_⟩
      · have e1 : k + (o :: l).length = k + 1 + l.length := by simp; omega
        have e2 : ¬ k + 1 + l.length = k := by omega
        simp only [e1, e2, if_false]
        exact q1
      · intro i hi'
        rw [q2 i (by omega), List.getElem?_append_left (by omega)]
      · simp
      · simp
      · intro j oj hj
        cases j with
        | zero =>
          simp only [List.getElem?_cons_zero, Option.some.injEq] at hj
          subst hj
          have e2 : ¬ k + 1 = k := by omega
          simp only [Nat.add_zero, if_true, e2, if_false, q4, q3]
          refine ⟨hst, trivial, _, hfk, rfl, fun L hL => ?_⟩
          have hfoot := foot_spec (ops := ops) (n := n) (ctr := base + 4 * k) (tm := L) (hp := hp) hx hgd
          rw [footG_eq hL]
          exact hfoot.2
        | succ j =>
          have := q5 j oj (by simpa using hj)
          have e1 : ¬ k + (j + 1) = k := by omega
          have e2 : ¬ k + (j + 1) + 1 = k := by omega
          simp only [e1, e2, if_false]
          rw [show k + (j + 1) = k + 1 + j by omega]
          exact this
    · simp at hrs

theorem resolveOps_len {all : Array Oper} : ∀ {l : List Oper} {rs : List Rop}, resolveOps P all l = some rs → rs.length = l.length
  | [], rs, h => by simp only [resolveOps, Option.some.injEq] at h; subst h; rfl
  | o :: l, rs, h => by
    simp only [resolveOps] at h
    split at h
    · rename_i x l' hx hl'
      obtain ⟨g, rfl, _⟩ := guardOk_of h
      simp [resolveOps_len hl']
    · simp at h

theorem splitPiv_spec (bits : List Nat) (N : Nat) : ∀ (j : Nat) (rs : List Rop), rs = (splitPiv bits N j rs).1 ++ (splitPiv bits N j rs).2 ∧
    (∀ o r, (splitPiv bits N j rs).2 = o :: r → isPiv bits N (j + (splitPiv bits N j rs).1.length) = true)
  | j, [] => ⟨rfl, fun o r h => by simp [splitPiv] at h⟩
  | j, x :: q => by
    obtain ⟨h1, h2⟩ := splitPiv_spec bits N (j + 1) q
    cases hp : isPiv bits N j with
    | true =>
      have e : splitPiv bits N j (x :: q) = ([], x :: q) := by simp only [splitPiv, hp, sel]
      rw [e]
      exact ⟨rfl, fun o r _ => by simpa using hp⟩
    | false =>
      have e : splitPiv bits N j (x :: q) = (x :: (splitPiv bits N (j + 1) q).1, (splitPiv bits N (j + 1) q).2) := by simp only [splitPiv, hp, sel]
      rw [e]
      refine ⟨by simp only [List.cons_append, ← h1], fun o r h => ?_⟩
      have := h2 o r h
      rw [show j + (x :: (splitPiv bits N (j + 1) q).1).length = j + 1 + (splitPiv bits N (j + 1) q).1.length by simp; omega]
      exact this

theorem resolveOps_append {all : Array Oper} : ∀ {a b : List Rop} {l : List Oper}, resolveOps P all l = some (a ++ b) → ∃ l1 l2, l = l1 ++ l2 ∧ resolveOps P all l1 = some a ∧ resolveOps P all l2 = some b ∧ l1.length = a.length
  | [], b, l, h => ⟨[], l, rfl, rfl, h, rfl⟩
  | x :: a, b, [], h => by simp [resolveOps] at h
  | x :: a, b, o :: l, h => by
    simp only [resolveOps] at h
    split at h
    · rename_i y l' hy hl'
      have hcons : ∃ g, (⟨o.dst, g, y⟩ : Rop) = x ∧ l' = a ++ b ∧ ∀ l'', (match o.guard with
          | none => some ((⟨o.dst, none, y⟩ : Rop) :: l'')
          | some (j, want) => match (all[j]?).bind (·.dst) with
            | some d => some ((⟨o.dst, some (d, want), y⟩ : Rop) :: l'')
            | none => none) = some ((⟨o.dst, g, y⟩ : Rop) :: l'') := by
        split at h
        · rename_i hg
          simp only [List.cons_append, Option.some.injEq, List.cons.injEq] at h
          exact ⟨none, h.1, h.2, fun l'' => by simp only [hg]⟩
        · rename_i j want hg
          split at h
          · rename_i d hd
            simp only [List.cons_append, Option.some.injEq, List.cons.injEq] at h
            exact ⟨some (d, want), h.1, h.2, fun l'' => by simp only [hg, hd]⟩
          · simp at h
      obtain ⟨g, rfl, rfl, hg⟩ := hcons
      obtain ⟨l1, l2, rfl, h1, h2, h3⟩ := resolveOps_append hl'
      exact ⟨o :: l1, l2, rfl, by simp only [resolveOps, hy, h1]; exact hg a, h2, by simp [h3]⟩
    · simp at h

theorem allRange {p : Nat → Bool} {n : Nat} (h : (List.range n).all p = true) {i : Nat} (hi : i < n) : p i = true := List.all_eq_true.1 h i (List.mem_range.2 hi)

theorem isPiv_spec {bits : List Nat} {N j : Nat} (h : isPiv bits N j = true) : (∀ i, i < j → (bits.getD j 0).testBit i = true) ∧ ∀ k, j < k → k < N → (bits.getD k 0).testBit j = true := by
  simp only [isPiv, Bool.and_eq_true] at h
  refine ⟨fun i hi => allRange h.1 hi, fun k h1 h2 => ?_⟩
  have := allRange h.2 (i := k - (j + 1)) (by omega)
  rw [show j + 1 + (k - (j + 1)) = k by omega] at this
  exact this

theorem EDrawP_sound (hcall : CallOk P call) (hcallD : CallDOk P callD) {n : Nat} {ops : Array Oper} (hE : ∀ i o, ops[i]? = some o → ∀ e, e ∈ edgesOf o → e < i) : ∀ {f lo : Nat} {l : List Oper} {rs : List Rop} {tm : Tr} {hp : HS} {ctr : Nat} {K : Tr → HS → Nat → Bool},
    (∀ j, ops[lo + j]? = l[j]?) → lo + l.length = ops.size → resolveOps P ops l = some rs → (rs.all fun o => dstOk n o.dst) = true → EDrawP false call callD P (ancL (ops.toList.map edgesOf) []) ops.size f lo rs tm hp ctr K = true →
    ∃ tm' hp' ctr', K tm' hp' ctr' = true ∧ ∀ (M A : Nat → Prop) (ρ : Env) (a : Act) (w : World) (L : TS) (Q : Exit → Act → World → Prop), TmOk tm L → Rel M A ρ (From ctr) ⟨n, L, hp⟩ a w →
      (∀ a' w', At M A ρ w n tm' hp' ctr' a' w' → Q .normal a' w') → ∀ (fuel : Nat) (listed : Array Bool), listed.size = ops.size → (∀ i, i < ops.size → listed.getD i false = decide (i < lo)) → ops.size - lo ≤ fuel → wpAny P .any ops Q fuel listed a w := by
  intro f
  induction f with
  | zero => intro lo l rs tm hp ctr K _ _ _ _ h; simp [EDrawP] at h
  | succ f ih =>
    intro lo l rs tm hp ctr K hl hlen hrs hd h
    simp only [EDrawP] at h
    obtain ⟨hsp, hpv⟩ := splitPiv_spec (ancL (ops.toList.map edgesOf) []) ops.size lo rs
    revert h
    generalize (splitPiv (ancL (ops.toList.map edgesOf) []) ops.size lo rs).1 = seg at hsp hpv
    generalize (splitPiv (ancL (ops.toList.map edgesOf) []) ops.size lo rs).2 = rest at hsp hpv
    intro h
    subst hsp
    obtain ⟨l1, l2, rfl, hr1, hr2, hll⟩ := resolveOps_append hrs
    simp only [List.all_append, Bool.and_eq_true] at hd
    obtain ⟨tmE, hpT, v, fs, q1, _, q3, q4, q5⟩ := EDraw_trace (P := P) hcallD (ops := ops) (n := n) (base := ctr) (k := 0) (l := l1) hr1 hd.1 rfl (by simpa using h)
    obtain ⟨qc, q1⟩ := sel_true q1
    simp only [Bool.and_eq_true] at qc
    obtain ⟨qs, ql⟩ := qc
    simp only [Nat.zero_add] at q1 q5
    have hlm : lo + l1.length ≤ ops.size := by rw [← hlen]; simp
    have hop : ∀ i, i < l1.length → ops[lo + i]? = l1[i]? := fun i hi => by rw [hl i, List.getElem?_append_left hi]
    have hlater : ∀ k, lo + l1.length ≤ k → k < ops.size → ∀ i, i < l1.length → ((ancL (ops.toList.map edgesOf) []).getD k 0).testBit (lo + i) = true := by
      intro k hk hk' i hi
      unfold laterOk at ql
      rw [← hll] at ql
      have := allRange (allRange ql (i := k - (lo + l1.length)) (by omega)) hi
      rw [show lo + l1.length + (k - (lo + l1.length)) = k by omega] at this
      exact this
    -- the stretch, in whatever world
    have stretch : ∀ (M A : Nat → Prop) (ρ : Env) (a : Act) (w : World) (L : TS) (Q : Exit → Act → World → Prop), TmOk tm L → Rel M A ρ (From ctr) ⟨n, L, hp⟩ a w →
        (∀ (fuel : Nat) (listed : Array Bool) (a' : Act) (w' : World), listed.size = ops.size → (∀ i, i < ops.size → listed.getD i false = decide (i < lo + l1.length)) → ops.size - (lo + l1.length) ≤ fuel →
          At M A ρ w n (tmE l1.length) (hpT l1.length) (ctr + 4 * l1.length) a' w' → wpAny P .any ops Q fuel listed a' w') →
        ∀ (fuel : Nat) (listed : Array Bool), listed.size = ops.size → (∀ i, i < ops.size → listed.getD i false = decide (i < lo)) → ops.size - lo ≤ fuel → wpAny P .any ops Q fuel listed a w := by
      intro M A ρ a w L Q hL hrel hnext
      rw [← q3] at hL
      let Ls : Nat → TS := fun i => Nat.rec L (fun i l => putT l ((l1[i]?).bind (·.dst)) (v i)) i
      have hLs : ∀ i, i ≤ l1.length → TmOk (tmE i) (Ls i) := by
        intro i
        induction i with
        | zero => intro _; exact hL
        | succ i ihi =>
          intro hi
          have ho : l1[i]? = some l1[i] := by simp [show i < l1.length by omega]
          have := (q5 i l1[i] ho).2.1
          rw [this]
          have h2 := (ihi (by omega)).put (l1[i].dst) (v i)
          have e : Ls (i + 1) = putT (Ls i) l1[i].dst (v i) := by
            show putT (Ls i) ((l1[i]?).bind (·.dst)) (v i) = _
            rw [ho]; rfl
          rw [e]
          exact h2
      have hrel0 : Rel M A ρ (From ctr) ⟨n, Ls 0, hpT 0⟩ a w := by rw [q4]; exact hrel
      refine seg_sound (v := v) (tmT := Ls) (hpT := hpT) (base := ctr) (fs := fs) hlm (fun i o hi ho => ?_) hE qs hlater hrel0 ?_
      · rw [hop i hi] at ho
        obtain ⟨s1, s2, f, f1, f2, f3⟩ := q5 i o ho
        refine ⟨s1 _ (hLs i (by omega)), fun t => ?_, f, f1, f2, f3 _ (hLs i (by omega))⟩
        show find (putT (Ls i) ((l1[i]?).bind (·.dst)) (v i)) t = _
        rw [ho]; rfl
      · rintro fuel listed a' w' hsz hlst hfu ⟨st', c', A', ρ', ⟨rfl, rfl⟩, h2, h3, h4, h5⟩
        exact hnext fuel listed a' w' hsz hlst hfu ⟨_, A', ρ', hLs _ (Nat.le_refl _), h2, h3, h4, h5⟩
    cases rest with
    | nil =>
      simp only at q1
      have hl2 : l2 = [] := by
        cases l2 with
        | nil => rfl
        | cons o r => have := resolveOps_len hr2; simp at this
      subst hl2
      simp only [List.append_nil] at hlen
      refine ⟨_, _, _, q1, fun M A ρ a w L Q hL hrel hQ fuel listed hsz hlst hfu => stretch M A ρ a w L Q hL hrel (fun fuel listed a' w' hsz hlst hfu hat => ?_) fuel listed hsz hlst hfu⟩
      have hq := hQ a' w' hat
      have hnil : Region.ready .any ops listed = [] := by
        apply List.eq_nil_iff_forall_not_mem.2
        intro i hi
        rw [mem_ready] at hi
        obtain ⟨h0, o, ho, _⟩ := hi
        have hlt : i < ops.size := (Array.getElem?_eq_some_iff.1 ho).1
        have := hlst i hlt
        simp only [Array.getD_eq_getD_getElem?] at this h0
        have hlt' : i < listed.size := by omega
        simp [hlt'] at this h0
        simp [this] at h0
        omega
      cases fuel with
      | zero => exact ⟨hnil, hq⟩
      | succ fuel => exact ⟨fun _ => hq, fun i hi => by rw [hnil] at hi; simp at hi⟩
    | cons p r =>
      simp only at q1
      cases l2 with
      | nil => simp [resolveOps] at hr2
      | cons o l2 =>
        simp only [resolveOps] at hr2
        split at hr2
        · rename_i x l' hx hl'
          obtain ⟨g, hpg, hgd⟩ := guardOk_of hr2
          simp only [List.cons.injEq] at hpg
          obtain ⟨rfl, rfl⟩ := hpg
          simp only [List.all_cons, Bool.and_eq_true] at hd
          have hi : ops[lo + l1.length]? = some o := by rw [hl l1.length, List.getElem?_append_right (Nat.le_refl _)]; simp
          obtain ⟨tm1, hp1, c1, r1, r2⟩ := EOp_sound (n := n) hcall hi hx hd.2.1 hgd q1
          rw [← hll] at r2
          obtain ⟨tm2, hp2, c2, r3, r4⟩ := ih (lo := lo + l1.length + 1) (l := l2) (fun j => by
            rw [show lo + l1.length + 1 + j = lo + (l1.length + (j + 1)) by omega, hl, List.getElem?_append_right (by omega)]
            rw [show l1.length + (j + 1) - l1.length = j + 1 by omega]
            simp) (by rw [← hlen]; simp; omega) hl' hd.2.2 r2
          have hpiv := isPiv_spec (hpv _ _ rfl)
          rw [← hll] at hpiv
          refine ⟨tm2, hp2, c2, r3, fun M A ρ a w L Q hL hrel hQ fuel listed hsz hlst hfu => stretch M A ρ a w L Q hL hrel (fun fuel listed a' w' hsz hlst hfu hat => ?_) fuel listed hsz hlst hfu⟩
          have hps : lo + l1.length < ops.size := (Array.getElem?_eq_some_iff.1 hi).1
          obtain ⟨fuel, rfl⟩ : ∃ f, fuel = f + 1 := ⟨fuel - 1, by omega⟩
          obtain ⟨L1, A1, ρ1, t1, t2, t3, t4, t5⟩ := hat
          have hclosed : ∀ k o', ops[k]? = some o' → listed.getD k false = true → ∀ e, e ∈ edgesOf o' → listed.getD e false = true := by
            intro k o' ho' hk e he
            have hks : k < ops.size := (Array.getElem?_eq_some_iff.1 ho').1
            rw [hlst k hks] at hk
            have := hE k o' ho' e he
            rw [hlst e (by omega)]
            simp at hk ⊢
            omega
          refine ⟨fun hnil => ?_, fun i hir => ?_⟩
          · exfalso
            have : lo + l1.length ∈ Region.ready .any ops listed := by
              rw [mem_ready]
              refine ⟨?_, o, hi, fun e he hb => ?_⟩
              · have := hlst _ hps
                simp only [Array.getD_eq_getD_getElem?] at this ⊢
                have hlt' : lo + l1.length < listed.size := by omega
                simp [hlt'] at this ⊢
                exact this
              · have hm : e.on ∈ edgesOf o := by simp only [edgesOf, List.mem_map, List.mem_filter]; exact ⟨e, ⟨by simpa using he, hb⟩, rfl⟩
                have := hE _ o hi _ hm
                rw [hlst e.on (by omega)]
                simp
                omega
            rw [hnil] at this
            simp at this
          · rw [mem_ready] at hir
            obtain ⟨h0, oi, hoi, hedges⟩ := hir
            have his : i < ops.size := (Array.getElem?_eq_some_iff.1 hoi).1
            have hLi : listed.getD i false = false := by
              simp only [Array.getD_eq_getD_getElem?] at h0 ⊢
              have hlt' : i < listed.size := by omega
              simpa [hlt'] using h0
            have hge : lo + l1.length ≤ i := by
              rw [hlst i his] at hLi
              simp at hLi
              omega
            have hip : i = lo + l1.length := by
              rcases Nat.eq_or_lt_of_le hge with h | h
              · exact h.symm
              · exfalso
                have hb := hpiv.2 i h his
                have hEs : ∀ (i : Nat) (es : List Nat), (ops.toList.map edgesOf)[i]? = some es → ∀ e, e ∈ es → e < i := by
                  intro i es h e he
                  simp only [List.getElem?_map, Array.getElem?_toList, Option.map_eq_some_iff] at h
                  obtain ⟨o, ho, rfl⟩ := h
                  exact hE i o ho e he
                have := (anc_closed (L := fun k => listed.getD k false) hEs i (by simpa using his) (fun k es _ hLk hes e he => by
                  simp only [List.getElem?_map, Array.getElem?_toList, Option.map_eq_some_iff] at hes
                  obtain ⟨o, ho, rfl⟩ := hes
                  exact hclosed k o ho hLk e he) (fun es hes e he => by
                  simp only [List.getElem?_map, Array.getElem?_toList, Option.map_eq_some_iff] at hes
                  obtain ⟨o', ho', rfl⟩ := hes
                  rw [hoi] at ho'
                  simp only [Option.some.injEq] at ho'
                  subst ho'
                  simp only [edgesOf, List.mem_map, List.mem_filter] at he
                  obtain ⟨ed, ⟨g1, g2⟩, rfl⟩ := he
                  exact hedges ed (by simpa using g1) g2) _ hb).1
                rw [hlst _ hps] at this
                simp at this
            subst hip
            refine r1 M A1 ρ1 a' w' L1 Q _ t1 t2 fun a2 w2 hat2 => ?_
            obtain ⟨L2, A2, ρ2, u1, u2, u3, u4, u5⟩ := hat2
            refine r4 M A2 ρ2 a2 w2 L2 Q u1 u2 (fun a3 w3 hat3 => hQ a3 w3 ((hat3.trans u3 u4 u5).trans t3 t4 t5)) fuel _ (by simpa using hsz) (fun k hk => ?_) (by omega)
            by_cases hk' : k = lo + l1.length
            · subst hk'
              have hlt' : lo + l1.length < listed.size := by omega
              simp [Array.getD_eq_getD_getElem?, hlt']
            · have := getD_set_ne (listed := listed) false (fun e : lo + l1.length = k => hk' e.symm)
              rw [this, hlst k hk]
              simp only [decide_eq_decide]
              omega
        · simp at hr2

theorem E_sound (hcall : CallOk P call) (hcallD : CallDOk P callD) {n fuel : Nat} : ∀ {c : Code} {r : Rc}, resolveC P c = some r → dstsOk n r = true → ∀ {Q : Exit → Tr → HS → Nat → Bool} {tm : Tr} {hp : HS} {ctr : Nat}, E false call callD P fuel r Q tm hp ctr = true →
    ∃ e tm' hp' ctr', Q e tm' hp' ctr' = true ∧ Run P n c tm hp ctr e tm' hp' ctr' := by
  intro c
  induction c with
  | skip =>
    intro r hr hd Q tm hp ctr h
    simp only [resolveC, Option.some.injEq] at hr
    subst hr
    exact ⟨_, _, _, _, h, fun M A ρ a w L hL hrel => wp_skip ⟨rfl, At.here hL hrel⟩⟩
  | ret =>
    intro r hr hd Q tm hp ctr h
    simp only [resolveC, Option.some.injEq] at hr
    subst hr
    exact ⟨_, _, _, _, h, fun M A ρ a w L hL hrel => wp_ret ⟨rfl, At.here hL hrel⟩⟩
  | exit id =>
    intro r hr hd Q tm hp ctr h
    simp only [resolveC, Option.some.injEq] at hr
    subst hr
    exact ⟨_, _, _, _, h, fun M A ρ a w L hL hrel => wp_exit ⟨rfl, At.here hL hrel⟩⟩
  | seq x y ihx ihy =>
    intro r hr hd Q tm hp ctr h
    simp only [resolveC] at hr
    split at hr
    · rename_i rx ry hx hy
      simp only [Option.some.injEq] at hr
      subst hr
      simp only [dstsOk, Bool.and_eq_true] at hd
      simp only [E] at h
      obtain ⟨e1, tm1, hp1, c1, h1, h2⟩ := ihx hx hd.1 h
      cases e1 with
      | normal =>
        obtain ⟨e2, tm2, hp2, c2, h3, h4⟩ := ihy hy hd.2 h1
        refine ⟨e2, tm2, hp2, c2, h3, fun M A ρ a w L hL hrel => wp_seq (wp_mono (h2 M A ρ a w L hL hrel) ?_)⟩
        rintro e a' w' ⟨rfl, L1, A1, ρ1, q1, q2, q3, q4, q5⟩
        exact wp_mono (h4 M A1 ρ1 a' w' L1 q1 q2) fun e a2 w2 ⟨he, hat⟩ => ⟨he, hat.trans q3 q4 q5⟩
      | _ =>
        refine ⟨_, tm1, hp1, c1, h1, fun M A ρ a w L hL hrel => wp_seq (wp_mono (h2 M A ρ a w L hL hrel) ?_)⟩
        rintro e a' w' ⟨rfl, hat⟩
        exact ⟨rfl, hat⟩
    · simp at hr
  | cond c x y ihx ihy =>
    intro r hr hd Q tm hp ctr h
    simp only [resolveC] at hr
    split at hr
    · rename_i rx ry hx hy
      simp only [Option.some.injEq] at hr
      subst hr
      simp only [dstsOk, Bool.and_eq_true] at hd
      simp only [E] at h
      split at h
      · rename_i b hb
        have hb' : ∀ L, TmOk tm L → ((⟨n, L, hp⟩ : St).get c).bool? = some b := fun L hL => by
          rw [← opd_get]
          rw [gT_eq hL] at hb
          exact hb
        cases b with
        | true =>
          obtain ⟨e1, tm1, hp1, c1, h1, h2⟩ := ihx hx hd.1 h
          exact ⟨e1, tm1, hp1, c1, h1, fun M A ρ a w L hL hrel => wp_cond (V.bool?_spec (hb' L hL) (hrel.get c)) (h2 M A ρ a w L hL hrel)⟩
        | false =>
          obtain ⟨e1, tm1, hp1, c1, h1, h2⟩ := ihy hy hd.2 h
          exact ⟨e1, tm1, hp1, c1, h1, fun M A ρ a w L hL hrel => wp_cond (V.bool?_spec (hb' L hL) (hrel.get c)) (h2 M A ρ a w L hL hrel)⟩
      · simp at h
    · simp at hr
  | block id b ih =>
    intro r hr hd Q tm hp ctr h
    simp only [resolveC] at hr
    split at hr
    · rename_i rb hb
      simp only [Option.some.injEq] at hr
      subst hr
      simp only [dstsOk] at hd
      simp only [E] at h
      obtain ⟨e1, tm1, hp1, c1, h1, h2⟩ := ih hb hd h
      cases e1 with
      | exit id' =>
        simp only [eblock] at h1
        cases hid : Nat.beq id' id with
        | true =>
          rw [hid] at h1
          have hid' : id' = id := by simpa using hid
          refine ⟨_, tm1, hp1, c1, h1, fun M A ρ a w L hL hrel => wp_block (wp_mono (h2 M A ρ a w L hL hrel) ?_)⟩
          rintro e a' w' ⟨rfl, hat⟩
          simp only [Exit.inBlock, hid', if_true]
          exact ⟨trivial, hat⟩
        | false =>
          rw [hid] at h1
          have hid' : ¬ id' = id := by
            intro h; subst h; simp at hid
          refine ⟨_, tm1, hp1, c1, h1, fun M A ρ a w L hL hrel => wp_block (wp_mono (h2 M A ρ a w L hL hrel) ?_)⟩
          rintro e a' w' ⟨rfl, hat⟩
          simp only [Exit.inBlock, hid', if_false]
          exact ⟨trivial, hat⟩
      | _ =>
        refine ⟨_, tm1, hp1, c1, h1, fun M A ρ a w L hL hrel => wp_block (wp_mono (h2 M A ρ a w L hL hrel) ?_)⟩
        rintro e a' w' ⟨rfl, hat⟩
        exact ⟨rfl, hat⟩
    · simp at hr
  | loop b ih =>
    intro r hr hd Q tm hp ctr h
    simp only [resolveC] at hr
    split at hr
    · rename_i rb hb
      simp only [Option.some.injEq] at hr
      subst hr
      simp only [dstsOk] at hd
      simp only [E] at h
      have key : ∀ (k : Nat) (tm : Tr) (hp : HS) (ctr : Nat), eloop false (fun self => E false call callD P fuel rb (ethen self Q)) k tm hp ctr = true →
          ∃ e tm' hp' ctr', Q e tm' hp' ctr' = true ∧ ∀ (M A : Nat → Prop) (ρ : Env) (a : Act) (w : World) (L : TS) (b' : Frame) (kk : List _) (cs : List _), TmOk tm L → Rel M A ρ (From ctr) ⟨n, L, hp⟩ a w →
            ∃ a' w', At M A ρ w n tm' hp' ctr' a' w' ∧ Arrives P (lone (b'.at a (.code b :: .inLoop b :: kk)) cs w) b' kk cs e a' w' := by
        intro k
        induction k with
        | zero => intro tm hp ctr h; simp [eloop] at h
        | succ k ihk =>
          intro tm hp ctr h
          simp only [eloop] at h
          obtain ⟨e1, tm1, hp1, c1, h1, h2⟩ := ih hb hd h
          cases e1 with
          | normal =>
            obtain ⟨e2, tm2, hp2, c2, h3, h4⟩ := ihk tm1 hp1 c1 h1
            refine ⟨e2, tm2, hp2, c2, h3, fun M A ρ a w L b' kk cs hL hrel => ?_⟩
            obtain ⟨e, a1, w1, ⟨rfl, L1, A1, ρ1, q1, q2, q3, q4, q5⟩, harr⟩ := h2 M A ρ a w L hL hrel b' (.inLoop b :: kk) cs
            obtain ⟨a2, w2, hat, harr2⟩ := h4 M A1 ρ1 a1 w1 L1 b' kk cs q1 q2
            exact ⟨a2, w2, hat.trans q3 q4 q5, .of_steps (Steps.trans harr (.one step_inLoop)) harr2⟩
          | _ =>
            refine ⟨_, tm1, hp1, c1, h1, fun M A ρ a w L b' kk cs hL hrel => ?_⟩
            obtain ⟨e, a1, w1, ⟨rfl, hat⟩, harr⟩ := h2 M A ρ a w L hL hrel b' (.inLoop b :: kk) cs
            exact ⟨a1, w1, hat, .pass (x := .inLoop b) rfl (fun _ _ => .inl (by simp)) harr⟩
      obtain ⟨e, tm', hp', ctr', h1, h2⟩ := key fuel tm hp ctr h
      refine ⟨e, tm', hp', ctr', h1, fun M A ρ a w L hL hrel b' kk cs => ?_⟩
      obtain ⟨a', w', hat, harr⟩ := h2 M A ρ a w L b' kk cs hL hrel
      exact ⟨e, a', w', ⟨rfl, hat⟩, .of_steps (.one step_loop) harr⟩
    · simp at hr
  | region id ops d =>
    intro r hr hd Q tm hp ctr h
    cases d with
    | true =>
      simp only [resolveC] at hr
      split at hr
      · rename_i l hl
        split at hr
        · rename_i hc
          simp only [Bool.and_eq_true] at hc
          simp only [Option.some.injEq] at hr
          subst hr
          simp only [dstsOk] at hd
          simp only [E] at h
          have hE : ∀ i o, ops[i]? = some o → ∀ e, e ∈ edgesOf o → e < i := by
            intro i o ho e he
            have := edgesLt_spec hc.2 i (edgesOf o) (by simp [ho]) e he
            omega
          have hll := resolveOps_len hl
          rw [hll] at h
          obtain ⟨tm', hp', ctr', h1, h2⟩ := EDrawP_sound hcall hcallD (n := n) hE (lo := 0) (l := ops.toList) (fun j => by simp) (by simp) hl hd (by simpa using h)
          refine ⟨_, _, _, _, h1, fun M A ρ a w L hL hrel => wp_region_any hc.1 ?_⟩
          refine h2 M A ρ a _ L _ hL hrel.drew (fun a' w' hat => ?_) ops.size _ (by simp) (fun i hi => by simp [hi]) (by omega)
          exact ⟨rfl, hat.trans (Evo.drew M w) (Ext.refl _) (Grow.refl _ _)⟩
        · simp at hr
      · simp at hr
    | false =>
      simp only [resolveC] at hr
      split at hr
      · rename_i l hl
        simp only [Option.some.injEq] at hr
        subst hr
        simp only [dstsOk] at hd
        simp only [E] at h
        obtain ⟨tm', hp', ctr', h1, h2⟩ := EOps_sound hcall (n := n) (ops := ops) (k := 0) (l := ops.toList) (fun j => by simp) hl hd h
        refine ⟨_, _, _, _, h1, fun M A ρ a w L hL hrel => wp_region ?_⟩
        have := h2 M A ρ a w L (fun e2 a' w' => e2 = .normal ∧ At M A ρ w n tm' hp' ctr' a' w') hL hrel (fun _ _ hat => ⟨rfl, hat⟩)
        rw [List.range_eq_range']
        simpa using this
      · simp at hr
  | _ => intro r hr; simp [resolveC] at hr

end Go.Abs
