import Derived.Test.YtnkmmbgbdgonnaaGreatDoorAbsXr
import Derived.Test.YtnkmmbgbdgonnaaGreatDoorAbsDraw
namespace Go.Abs
open Go

inductive Rc where
  | skip
  | ret
  | exit (id : Nat)
  | seq (a b : Rc)
  | cond (c : Opd) (a b : Rc)
  | block (id : Nat) (b : Rc)
  | loop (b : Rc)
  | region (ops : List Rop)
  | draw (ops : List Rop) (es : List (List Nat))

def resolveOps (P : Program) (all : Array Oper) : List Oper → Option (List Rop)
  | [] => some []
  | o :: r =>
    match resolveOp P o, resolveOps P all r with
    | some x, some l =>
      match o.guard with
      | none => some (⟨o.dst, none, x⟩ :: l)
      | some (j, want) =>
        match (all[j]?).bind (·.dst) with
        | some d => some (⟨o.dst, some (d, want), x⟩ :: l)
        | none => none
    | _, _ => none

def edgesLt : Nat → List (List Nat) → Bool
  | _, [] => true
  | i, es :: r => es.all (fun e => decide (e < i)) && edgesLt (i + 1) r

def resolveC (P : Program) : Code → Option Rc
  | .skip => some .skip
  | .ret => some .ret
  | .exit id => some (.exit id)
  | .seq a b => match resolveC P a, resolveC P b with
    | some x, some y => some (.seq x y)
    | _, _ => none
  | .cond c a b => match resolveC P a, resolveC P b with
    | some x, some y => some (.cond (opd c) x y)
    | _, _ => none
  | .block id b => match resolveC P b with
    | some x => some (.block id x)
    | none => none
  | .loop b => match resolveC P b with
    | some x => some (.loop x)
    | none => none
  | .region _ ops false => match resolveOps P ops ops.toList with
    | some l => some (.region l)
    | none => none
  | .region _ ops true => match resolveOps P ops ops.toList with
    | some l => if P.follows .mixedOrders && edgesLt 0 (ops.toList.map edgesOf) then some (.draw l (ops.toList.map edgesOf)) else none
    | none => none
  | _ => none

def wsX (tm : TS) : List Opd → Option (List W)
  | [] => some []
  | x :: r => match x.get tm, wsX tm r with
    | .w u, some l => some (u :: l)
    | _, _ => none

/-- An operation that is wanted. -/
def XGo (P : Program) (o : Rop) (tm : TS) (hp : HS) (ctr : Nat) (K : TS → HS → Nat → Prop) : Prop :=
  match o.op with
  | .call f args => match wsX tm args with
    | some us => ∃ v hp', CallTo P hp ctr f us v hp' ∧ frc v fun v => K (putT tm o.dst v) hp' (ctr + 4)
    | none => False
  | r => XR r tm hp ctr fun v hp' => K (putT tm o.dst v) hp' (ctr + 4)

def XOp (P : Program) (n : Nat) (o : Rop) (tm : TS) (hp : HS) (ctr : Nat) (K : TS → HS → Nat → Prop) : Prop :=
  match dstOk n o.dst with
  | false => False
  | true =>
    match o.guard with
    | none => XGo P o tm hp ctr K
    | some (d, want) =>
      match find tm d with
      | some (.w (.one (.t (.val (.bool b))))) =>
        match want with
        | true => br b (XGo P o ((d, bV true) :: tm) hp ctr K) (K (putT ((d, bV false) :: tm) o.dst (.tup [])) hp ctr)
        | false => br b (K (putT ((d, bV true) :: tm) o.dst (.tup [])) hp ctr) (XGo P o ((d, bV false) :: tm) hp ctr K)
      | some (.tup []) => K (putT tm o.dst (.tup [])) hp ctr
      | _ => False

def XOps (P : Program) (n : Nat) : List Rop → TS → HS → Nat → (TS → HS → Nat → Prop) → Prop
  | [], tm, hp, ctr, K => K tm hp ctr
  | o :: r, tm, hp, ctr, K => XOp P n o tm hp ctr fun tm hp ctr => XOps P n r tm hp ctr K

def Ro.opds : Ro → List Opd
  | .mov x | .box x | .load _ x | .faddr _ x | .field _ _ x | .extract x _ | .len x | .slen x | .not x | .neg x | .conv _ x | .bstr x => [x]
  | .pick c x y => [c, x, y]
  | .alloc _ => []
  | .build _ ps => ps.map (·.2.2)
  | .bslice _ _ ps => ps.map (·.2)
  | .store _ x y | .iaddr _ x y | .iaddrA _ _ x y | .make _ _ x y | .append _ _ x y | .bin _ x y | .binB _ x y | .smin x y | .smax x y | .sidx x y => [x, y]
  | .slice _ x lo hi => x :: (lo.toList ++ hi.toList)
  | .clo _ caps => caps
  | .call _ xs => xs
  | .callc x xs => x :: xs
  | .raw op _ => op.operands.toList.map opd

def Ro.looks : Ro → Bool
  | .raw op _ => Go.Abs.looks op
  | .load .. | .store .. | .append .. | .len .. | .slen .. | .smin .. | .smax .. | .call .. | .callc .. | .conv .. | .bstr .. => true
  | _ => false

def Ro.wrt : Ro → Bool
  | .raw op _ => writes op
  | .store .. | .append .. => true
  | _ => false

def opdT : Opd → Option Nat
  | .t n => some n
  | .c _ => none

/-- What an operation looks at and writes, for the check. -/
def footOf (o : Rop) (tm : TS) (ctr : Nat) : Foot :=
  let rd := if o.op.looks then o.op.opds.flatMap fun x => (x.get tm).ids else []
  ⟨o.dst, o.op.opds.filterMap opdT ++ (o.guard.map (·.1)).toList, rd, four ctr ++ if o.op.wrt then rd else []⟩

/-- One operation of a region that draws. -/
def XOpD (P : Program) (n : Nat) (o : Rop) (tm : TS) (hp : HS) (ctr : Nat) (K : Foot → TS → HS → Nat → Prop) : Prop :=
  match dstOk n o.dst with
  | false => False
  | true =>
    match o.guard with
    | none => XGo P o tm hp ctr (K (footOf o tm ctr))
    | some (d, want) =>
      match find tm d with
      | some (.w (.one (.t (.val (.bool b))))) =>
        match want with
        | true => br b (XGo P o ((d, bV true) :: tm) hp ctr (K (footOf o ((d, bV true) :: tm) ctr))) (K (footOf o ((d, bV false) :: tm) ctr) (putT ((d, bV false) :: tm) o.dst (.tup [])) hp (ctr + 4))
        | false => br b (K (footOf o ((d, bV true) :: tm) ctr) (putT ((d, bV true) :: tm) o.dst (.tup [])) hp (ctr + 4)) (XGo P o ((d, bV false) :: tm) hp ctr (K (footOf o ((d, bV false) :: tm) ctr)))
      | some (.tup []) => K (footOf o tm ctr) (putT tm o.dst (.tup [])) hp (ctr + 4)
      | _ => False

def XDraw (P : Program) (n : Nat) : List Rop → List Foot → TS → HS → Nat → (List Foot → TS → HS → Nat → Prop) → Prop
  | [], fs, tm, hp, ctr, K => K fs tm hp ctr
  | o :: r, fs, tm, hp, ctr, K => XOpD P n o tm hp ctr fun f tm hp ctr => XDraw P n r (fs ++ [f]) tm hp ctr K

def xthen (K : TS → HS → Nat → Prop) (Q : Exit → TS → HS → Nat → Prop) : Exit → TS → HS → Nat → Prop
  | .normal => K
  | e => Q e

def xblock (id : Nat) (Q : Exit → TS → HS → Nat → Prop) : Exit → TS → HS → Nat → Prop
  | .exit id' => if id' = id then Q .normal else Q (.exit id')
  | e => Q e

/-- The state, with only what S keeps of it, is one of J's. -/
def XEnter (J : TS → HS → Nat → Prop) (tm : TS) (hp : HS) (ctr : Nat) : Prop := ∃ S : Ren, S.ok = true ∧ J (S.tm tm) (S.hp hp) S.ctr

def X (P : Program) (n : Nat) : Rc → (Exit → TS → HS → Nat → Prop) → TS → HS → Nat → Prop
  | .skip, Q, tm, hp, ctr => Q .normal tm hp ctr
  | .ret, Q, tm, hp, ctr => Q .ret tm hp ctr
  | .exit id, Q, tm, hp, ctr => Q (.exit id) tm hp ctr
  | .seq a b, Q, tm, hp, ctr => X P n a (xthen (X P n b Q) Q) tm hp ctr
  | .cond c a b, Q, tm, hp, ctr =>
    match (c.get tm).bool? with
    | some v => br v (X P n a Q tm hp ctr) (X P n b Q tm hp ctr)
    | none => False
  | .block id b, Q, tm, hp, ctr => X P n b (xblock id Q) tm hp ctr
  | .loop b, Q, tm, hp, ctr => ∃ I : Nat → TS → HS → Nat → Prop, XEnter (fun tm hp c => ∃ m, I m tm hp c) tm hp ctr ∧
      ∀ m tm hp c, I m tm hp c → X P n b (xthen (XEnter fun tm hp c => ∃ m', m' < m ∧ I m' tm hp c) Q) tm hp c
  | .region ops, Q, tm, hp, ctr => XOps P n ops tm hp ctr (Q .normal)
  | .draw ops es, Q, tm, hp, ctr => XDraw P n ops [] tm hp ctr fun fs tm hp ctr => drawOk es fs = true ∧ Q .normal tm hp ctr

variable {P : Program} {M A : Nat → Prop} {ρ : Env} {F : Nat → Prop} {st : St} {a : Act} {w : World}

theorem wsX_eq (st : St) : ∀ (xs : List Operand), wsX st.tmps (xs.map opd) = wsOf st.get xs
  | [] => rfl
  | x :: r => by simp only [List.map_cons, wsX, wsOf, opd_get, wsX_eq st r]; rfl

def onSt (n : Nat) (K : TS → HS → Nat → Prop) : St → Nat → Prop := fun st c => st.n = n ∧ K st.tmps st.heap c

theorem resolve_call0 {o : Oper} {f : FuncId} {args : List Opd} (h : resolveOp0 P o = some (.call f args)) :
    ∃ argsO tys, o.op = .call ⟨.value (.func f), argsO, tys⟩ ∧ args = argsO.toList.map opd ∧ enters P f = true := by
  obtain ⟨dst, op, ty, pos, after, guard⟩ := o
  cases op
  case call c =>
    obtain ⟨callee, argsO, tys⟩ := c
    simp only [resolveOp0] at h
    split at h
    · split at h
      · split at h
        · simp at h
        · simp at h
        · simp at h
      · simp at h
    · split at h
      · simp at h
      · simp at h
    · split at h
      · simp at h
      · simp at h
    · split at h
      · split at h
        · split at h
          · split at h
            · simp at h
            · simp at h
          · simp at h
        · simp at h
      · simp at h
    · rename_i g
      split at h
      · rename_i he
        simp only [Option.some.injEq, Ro.call.injEq] at h
        obtain ⟨rfl, rfl⟩ := h
        exact ⟨argsO, tys, rfl, rfl, he⟩
      · simp at h
    · simp at h
  all_goals
    exfalso
    simp only [resolveOp0] at h
    repeat' (split at h)
    all_goals first
      | contradiction
      | (simp at h; done)
      | (simp [Option.map_eq_some_iff] at h; done)

/-- A wanted operation, once the guard is decided. -/
theorem resolve_call {o : Oper} {f : FuncId} {args : List Opd} (h : resolveOp P o = some (.call f args)) :
    ∃ argsO tys, o.op = .call ⟨.value (.func f), argsO, tys⟩ ∧ args = argsO.toList.map opd ∧ enters P f = true := by
  unfold resolveOp at h
  split at h
  · rename_i r' hr'
    simp only [Option.some.injEq] at h
    subst h
    exact resolve_call0 hr'
  · simp only [Option.some.injEq] at h
    rcases rawOp_or o with ⟨t, args, tys, _, e⟩ | e
    · rw [e] at h; simp at h
    · rw [e] at h; simp at h

theorem XGo.wpOp {ops : Array Oper} {o : Oper} {i : Nat} {x : Ro} {g : Option (Nat × Bool)} {ctr : Nat} {K : TS → HS → Nat → Prop} (hi : ops[i]? = some o) (hx : resolveOp P o = some x)
    (hd : dstOk st.n o.dst = true) (hg : evalGuard ops o st.tmps = some true) (h : XGo P ⟨o.dst, g, x⟩ st.tmps st.heap ctr K) : WpOp P ops i (onSt st.n K) st ctr := by
  unfold WpOp
  simp only [hi]
  refine ⟨hd, ?_⟩
  simp only [hg]
  have other : (∀ f args, x ≠ .call f args) → XR x st.tmps st.heap ctr (fun v hp' => K (putT st.tmps o.dst v) hp' (ctr + 4)) →
      (match callOf st.get o with
      | some (g, us) => enters P g = true ∧ ∃ v heap', CallTo P st.heap ctr g us v heap' ∧ onSt st.n K (St.put { st with heap := heap' } o.dst v) (ctr + 4)
      | none => match evalOp P st.get st.heap ctr o with
        | some (v, heap') => onSt st.n K (St.put { st with heap := heap' } o.dst v) (ctr + 4)
        | none => False) := by
    intro _ hX
    obtain ⟨h1, v, heap', h2, h3⟩ := XR_sound hx hX
    simp only [h1, h2, putT_eq]
    exact ⟨rfl, h3⟩
  unfold XGo at h
  split at h
  · rename_i f args hxo
    simp only at hxo
    subst hxo
    obtain ⟨argsO, tys, ho, rfl, hen⟩ := resolve_call hx
    simp only [wsX_eq] at h
    split at h
    · rename_i us hus
      obtain ⟨v, hp', hc, hK⟩ := h
      rw [frc_eq] at hK
      have hco : callOf st.get o = some (f, us) := by
        unfold callOf
        rw [ho]
        simp only [St.get, V.ofValue, hus]
        rfl
      simp only [hco]
      exact ⟨hen, v, hp', hc, by rw [putT_eq]; exact ⟨rfl, hK⟩⟩
    · exact h.elim
  · rename_i r hne
    exact other (fun f args e => hne f args e) h


theorem St.eta (st : St) : (⟨st.n, st.tmps, st.heap⟩ : St) = st := rfl

theorem Rel.lit {n : Nat} {tm : TS} {hp : HS} {d : Nat} {b c : Bool} (h : Rel M A ρ F ⟨n, tm, hp⟩ a w) (hf : find tm d = some (bV b)) (hb : b = c) : Rel M A ρ F ⟨n, (d, bV c) :: tm, hp⟩ a w := by
  subst hb
  refine h.forget rfl (fun t v hv => ?_) (fun _ _ h => h)
  simp only [find_cons] at hv
  split at hv
  · rename_i e; subst e; rw [← hv]; exact hf
  · exact hv

/-- One operation of a region. -/
theorem XOp.sound {ops : Array Oper} {o : Oper} {i n : Nat} {x : Ro} {g : Option (Nat × Bool)} {ctr : Nat} {tm : TS} {hp : HS} {K : TS → HS → Nat → Prop} {Q : Exit → Act → World → Prop} {K' : Act → World → Prop}
    (hi : ops[i]? = some o) (hx : resolveOp P o = some x) (hgd : (o.guard = none ∧ g = none) ∨ ∃ j want d, o.guard = some (j, want) ∧ (ops[j]?).bind (·.dst) = some d ∧ g = some (d, want))
    (h : XOp P n ⟨o.dst, g, x⟩ tm hp ctr K) (hr : Rel M A ρ (From ctr) ⟨n, tm, hp⟩ a w) (hk : ∀ a' w', Post M A ρ w (onSt n K) a' w' → K' a' w') : wpOp P ops Q i K' a w := by
  unfold XOp at h
  split at h
  · exact h.elim
  · rename_i hd
    simp only at hd
    have skipped : ∀ {tm' : TS}, Rel M A ρ (From ctr) ⟨n, tm', hp⟩ a w → evalGuard ops o tm' = some false → K (putT tm' o.dst (.tup [])) hp ctr → wpOp P ops Q i K' a w := by
      intro tm' hr' hg' hK
      refine WpOp.sound (K := onSt n K) (ctr := ctr) ?_ hr' hk
      unfold WpOp
      simp only [hi]
      refine ⟨hd, ?_⟩
      simp only [hg', putT_eq']
      exact ⟨rfl, hK⟩
    have wanted : ∀ {tm' : TS}, Rel M A ρ (From ctr) ⟨n, tm', hp⟩ a w → evalGuard ops o tm' = some true → XGo P ⟨o.dst, g, x⟩ tm' hp ctr K → wpOp P ops Q i K' a w := by
      intro tm' hr' hg' hX
      exact WpOp.sound (K := onSt n K) (ctr := ctr) (XGo.wpOp (st := ⟨n, tm', hp⟩) hi hx hd hg' hX) hr' hk
    rcases hgd with ⟨hg0, rfl⟩ | ⟨j, want, d, hg0, hj, rfl⟩
    · simp only at h
      exact wanted hr (by simp [evalGuard, hg0]) h
    · have guardAt : ∀ {tm' : TS} {b : Bool}, find tm' d = some (bV b) → evalGuard ops o tm' = some (b == want) := by
        intro tm' b hf
        simp only [evalGuard, hg0, hj, hf]
      simp only at h
      split at h
      · rename_i b hf
        split at h
        · rcases br_elim h with ⟨hb, h⟩ | ⟨hb, h⟩
          · exact wanted (hr.lit hf hb) (by rw [guardAt (b := true) (by simp [find_cons])]; rfl) h
          · exact skipped (hr.lit hf hb) (by rw [guardAt (b := false) (by simp [find_cons])]; rfl) h
        · rcases br_elim h with ⟨hb, h⟩ | ⟨hb, h⟩
          · exact skipped (hr.lit hf hb) (by rw [guardAt (b := true) (by simp [find_cons])]; rfl) h
          · exact wanted (hr.lit hf hb) (by rw [guardAt (b := false) (by simp [find_cons])]; rfl) h
      · rename_i hf
        exact skipped hr (by simp only [evalGuard, hg0, hj, hf]) h
      · exact h.elim

theorem XOps.sound {ops : Array Oper} {n : Nat} {K : TS → HS → Nat → Prop} {Q : Exit → Act → World → Prop} : ∀ {l : List Oper} {rs : List Rop} {k : Nat} {M A : Nat → Prop} {ρ : Env} {tm : TS} {hp : HS} {a : Act} {w : World} {ctr : Nat},
    (∀ j, ops[k + j]? = l[j]?) → resolveOps P ops l = some rs → XOps P n rs tm hp ctr K → Rel M A ρ (From ctr) ⟨n, tm, hp⟩ a w → (∀ a' w', Post M A ρ w (onSt n K) a' w' → Q .normal a' w') →
    wpOps P ops Q (List.range' k l.length) a w
  | [], rs, k, M, A, ρ, tm, hp, a, w, ctr, hl, hrs, h, hr, hq => by
    simp only [resolveOps, Option.some.injEq] at hrs
    subst hrs
    exact hq _ _ (Post.here hr ⟨rfl, h⟩)
  | o :: l, rs, k, M, A, ρ, tm, hp, a, w, ctr, hl, hrs, h, hr, hq => by
    simp only [resolveOps] at hrs
    split at hrs
    · rename_i x l' hx hl'
      have hi : ops[k]? = some o := by simpa using hl 0
      have rest : ∀ {g : Option (Nat × Bool)}, rs = ⟨o.dst, g, x⟩ :: l' → ((o.guard = none ∧ g = none) ∨ ∃ j want d, o.guard = some (j, want) ∧ (ops[j]?).bind (·.dst) = some d ∧ g = some (d, want)) → wpOps P ops Q (List.range' k (l.length + 1)) a w := by
        intro g hrs' hgd
        subst hrs'
        simp only [XOps] at h
        rw [List.range'_succ, wpOps_cons]
        refine XOp.sound hi hx hgd h hr (fun a' w' hp' => ?_)
        obtain ⟨st', c', A', ρ', ⟨h1, h1'⟩, h2, h3, h4, h5⟩ := hp'
        subst h1
        exact XOps.sound (k := k + 1) (fun j => by have := hl (j + 1); rw [show k + 1 + j = k + (j + 1) by omega, this]; simp) hl' h1' h2 (fun a2 w2 hp2 => hq _ _ (hp2.trans h3 h4 h5))
      split at hrs
      · rename_i hg
        simp only [Option.some.injEq] at hrs
        exact rest hrs.symm (.inl ⟨hg, rfl⟩)
      · rename_i j want hg
        split at hrs
        · rename_i d hd
          simp only [Option.some.injEq] at hrs
          exact rest hrs.symm (.inr ⟨j, want, d, hg, hd, rfl⟩)
        · simp at hrs
    · simp at hrs

theorem ids_ofValue (v : Value) : (V.ofValue v).ids = [] := by
  cases v with
  | agg cs =>
    simp only [V.ofValue]
    split
    · simp only [V.ids, W.ids, List.flatMap_eq_nil_iff, List.mem_map]
      rintro c ⟨x, _, rfl⟩
      rfl
    · rfl
  | _ => rfl

theorem partsR_opd {place : Nat → Option (Nat × Nat)} : ∀ {ps : List (Nat × Operand)} {l : List (Nat × Nat × Opd)}, partsR place ps = some l → ∀ p, p ∈ ps → opd p.2 ∈ l.map (·.2.2)
  | [], l, h, p, hp => by simp at hp
  | (i, x) :: r, l, h, p, hp => by
    simp only [partsR] at h
    split at h
    · rename_i off size l' h1 h2
      simp only [Option.some.injEq] at h
      subst h
      rcases List.mem_cons.1 hp with rfl | hp
      · simp
      · simp only [List.map_cons, List.mem_cons]; exact .inr (partsR_opd h2 p hp)
    · simp at h

/-- Every operand of an operation is one of the resolved one's, but for a function that is called by its name. -/
theorem resolve_opds0 {o : Oper} {r : Ro} (h : resolveOp0 P o = some r) : (∀ x, x ∈ o.op.operands → opd x ∈ r.opds ∨ ∃ f, x = .func f) ∧ (looks o.op = true → r.looks = true) ∧ (writes o.op = true → r.wrt = true) := by
  obtain ⟨dst, op, ty, pos, after, guard⟩ := o
  cases op
  case call c =>
    obtain ⟨callee, args, tys⟩ := c
    simp only [resolveOp0] at h
    split at h
    · split at h
      · rename_i x t hx ht
        split at h
        · simp only [Option.some.injEq] at h
          subst h
          refine ⟨fun y hy => ?_, fun _ => rfl, fun hw => by simp [writes] at hw⟩
          have : y ∈ args.toList := by simpa [Op.operands, Call.operands] using hy
          rw [hx] at this
          simp only [List.mem_singleton] at this
          subst this
          exact .inl (by simp [Ro.opds])
        · simp only [Option.some.injEq] at h
          subst h
          refine ⟨fun y hy => ?_, fun _ => rfl, fun hw => by simp [writes] at hw⟩
          have : y ∈ args.toList := by simpa [Op.operands, Call.operands] using hy
          rw [hx] at this
          simp only [List.mem_singleton] at this
          subst this
          exact .inl (by simp [Ro.opds])
        · simp at h
      · simp at h
    · split at h
      · rename_i x y hx
        simp only [Option.some.injEq] at h
        subst h
        refine ⟨fun z hz => ?_, fun _ => rfl, fun hw => by simp [writes] at hw⟩
        have : z ∈ args.toList := by simpa [Op.operands, Call.operands] using hz
        rw [hx] at this
        simp only [List.mem_cons, List.not_mem_nil, or_false] at this
        rcases this with rfl | rfl
        · exact .inl (by simp [Ro.opds])
        · exact .inl (by simp [Ro.opds])
      · simp at h
    · split at h
      · rename_i x y hx
        simp only [Option.some.injEq] at h
        subst h
        refine ⟨fun z hz => ?_, fun _ => rfl, fun hw => by simp [writes] at hw⟩
        have : z ∈ args.toList := by simpa [Op.operands, Call.operands] using hz
        rw [hx] at this
        simp only [List.mem_cons, List.not_mem_nil, or_false] at this
        rcases this with rfl | rfl
        · exact .inl (by simp [Ro.opds])
        · exact .inl (by simp [Ro.opds])
      · simp at h
    · split at h
      · rename_i s x t t' hx ht
        split at h
        · split at h
          · split at h
            · simp only [Option.some.injEq] at h
              subst h
              refine ⟨fun y hy => ?_, fun _ => rfl, fun _ => rfl⟩
              have : y ∈ args.toList := by simpa [Op.operands, Call.operands] using hy
              rw [hx] at this
              simp only [List.mem_cons, List.not_mem_nil, or_false] at this
              rcases this with rfl | rfl
              · exact .inl (by simp [Ro.opds])
              · exact .inl (by simp [Ro.opds])
            · simp at h
          · simp at h
        · simp at h
      · simp at h
    · rename_i f
      split at h
      · simp only [Option.some.injEq] at h
        subst h
        refine ⟨fun y hy => ?_, fun _ => rfl, fun hw => by simp [writes] at hw⟩
        simp only [Op.operands, Call.operands, Array.mem_append] at hy
        rcases hy with hy | hy
        · exact .inr ⟨f, by simpa using hy⟩
        · exact .inl (by simp only [Ro.opds, List.mem_map]; exact ⟨y, by simpa using hy, rfl⟩)
      · simp at h
    · simp at h
  case build t ps =>
    simp only [resolveOp0] at h
    split at h
    · split at h
      · simp only [Option.map_eq_some_iff] at h
        obtain ⟨l, hl, rfl⟩ := h
        refine ⟨fun y hy => ?_, fun hl => by simp [looks] at hl, fun hw => by simp [writes] at hw⟩
        simp [Op.operands] at hy
        obtain ⟨i, hi⟩ := hy
        exact .inl (partsR_opd hl (i, y) (by simpa using hi))
      · simp at h
    · split at h
      · simp only [Option.map_eq_some_iff] at h
        obtain ⟨l, hl, rfl⟩ := h
        refine ⟨fun y hy => ?_, fun hl => by simp [looks] at hl, fun hw => by simp [writes] at hw⟩
        simp [Op.operands] at hy
        obtain ⟨i, hi⟩ := hy
        exact .inl (partsR_opd hl (i, y) (by simpa using hi))
      · simp at h
    · simp at h
  case buildSlice t len ps =>
    simp only [resolveOp0] at h
    split at h
    · split at h
      · split at h
        · simp only [Option.some.injEq] at h
          subst h
          refine ⟨fun y hy => ?_, fun hl => by simp [looks] at hl, fun hw => by simp [writes] at hw⟩
          simp [Op.operands] at hy
          obtain ⟨i, hi⟩ := hy
          refine .inl ?_
          simp only [Ro.opds, List.map_map, List.mem_map]
          exact ⟨(i, y), by simpa using hi, rfl⟩
        · simp at h
      · simp at h
    · simp at h
  case makeFunc fn first captured =>
    cases fn with
    | func f =>
      simp only [resolveOp0] at h
      split at h
      · rename_i hc
        simp only [Option.some.injEq] at h
        subst h
        simp only [Bool.and_eq_true, Array.isEmpty_iff] at hc
        obtain ⟨rfl, _⟩ := hc
        refine ⟨fun y hy => ?_, fun hl => by simp [looks] at hl, fun hw => by simp [writes] at hw⟩
        refine .inl ?_
        simp only [Ro.opds, List.mem_map]
        exact ⟨y, by simpa [Op.operands] using hy, rfl⟩
      · simp at h
    | _ => simp [resolveOp0] at h
  case slice t x lo hi mx =>
    cases mx with
    | some m => simp [resolveOp0] at h
    | none =>
      simp only [resolveOp0] at h
      split at h
      · simp only [Option.map_eq_some_iff] at h
        obtain ⟨n, hn, rfl⟩ := h
        refine ⟨fun y hy => ?_, fun hl => by simp [looks] at hl, fun hw => by simp [writes] at hw⟩
        refine .inl ?_
        cases lo <;> cases hi <;> simp [Op.operands, Ro.opds] at hy ⊢ <;> (first | (rcases hy with rfl | rfl | rfl <;> simp) | (rcases hy with rfl | rfl <;> simp) | (subst hy; simp))
      · simp at h
  case unOp op t x =>
    cases op <;> simp only [resolveOp0] at h <;> try (simp at h; done)
    all_goals
      simp only [Option.some.injEq] at h
      subst h
      refine ⟨fun y hy => ?_, fun hl => by simp [looks] at hl, fun hw => by simp [writes] at hw⟩
      simp [Op.operands] at hy
      subst hy
      simp [Ro.opds]
  all_goals
    simp only [resolveOp0] at h
    repeat' (split at h)
    all_goals first
      | contradiction
      | (simp at h; done)
      | (simp only [Option.some.injEq] at h
         subst h
         refine ⟨fun y hy => ?_, fun hl => by first | rfl | (simp [looks] at hl; done), fun hw => by first | rfl | (simp [writes] at hw; done)⟩
         first
           | (simp [Op.operands] at hy; done)
           | (simp [Op.operands] at hy; rcases hy with rfl | rfl | rfl <;> simp [Ro.opds]; done)
           | (simp [Op.operands] at hy; rcases hy with rfl | rfl <;> simp [Ro.opds]; done)
           | (simp [Op.operands] at hy; subst hy; simp [Ro.opds]; done))
      | (simp only [Option.map_eq_some_iff] at h
         obtain ⟨q, hq, rfl⟩ := h
         refine ⟨fun y hy => ?_, fun hl => by first | rfl | (simp [looks] at hl; done), fun hw => by first | rfl | (simp [writes] at hw; done)⟩
         first
           | (simp [Op.operands] at hy; done)
           | (simp [Op.operands] at hy; rcases hy with rfl | rfl | rfl <;> simp [Ro.opds]; done)
           | (simp [Op.operands] at hy; rcases hy with rfl | rfl <;> simp [Ro.opds]; done)
           | (simp [Op.operands] at hy; subst hy; simp [Ro.opds]; done))

/-- What a wanted operation comes to. -/
theorem XGo.step {o : Oper} {x : Ro} {g : Option (Nat × Bool)} {n ctr : Nat} {tm : TS} {hp : HS} {K : TS → HS → Nat → Prop} (hx : resolveOp P o = some x) (h : XGo P ⟨o.dst, g, x⟩ tm hp ctr K) :
    ∃ v hp', (match callOf (St.get ⟨n, tm, hp⟩) o with
      | some (g, us) => enters P g = true ∧ CallTo P hp ctr g us v hp'
      | none => evalOp P (St.get ⟨n, tm, hp⟩) hp ctr o = some (v, hp')) ∧ K (putT tm o.dst v) hp' (ctr + 4) := by
  unfold XGo at h
  split at h
  · rename_i f args hxo
    simp only at hxo
    subst hxo
    obtain ⟨argsO, tys, ho, rfl, hen⟩ := resolve_call hx
    have hws := wsX_eq ⟨n, tm, hp⟩ argsO.toList
    simp only at hws
    rw [hws] at h
    split at h
    · rename_i us hus
      obtain ⟨v, hp', hc, hK⟩ := h
      rw [frc_eq] at hK
      have hco : callOf (St.get ⟨n, tm, hp⟩) o = some (f, us) := by
        unfold callOf
        rw [ho]
        have hf : St.get ⟨n, tm, hp⟩ (.func f) = .w (.one (.t (.val (.func (.func f) #[] #[])))) := rfl
        simp only [hf, hus]
        rfl
      exact ⟨v, hp', by rw [hco]; exact ⟨hen, hc⟩, hK⟩
    · exact h.elim
  · rename_i r hne
    obtain ⟨h1, v, hp', h2, h3⟩ := XR_sound (st := ⟨n, tm, hp⟩) hx h
    exact ⟨v, hp', by rw [h1]; exact h2, h3⟩

theorem resolve_opds {o : Oper} {r : Ro} (h : resolveOp P o = some r) : (∀ x, x ∈ o.op.operands → opd x ∈ r.opds ∨ ∃ f, x = .func f) ∧ (looks o.op = true → r.looks = true) ∧ (writes o.op = true → r.wrt = true) := by
  unfold resolveOp at h
  split at h
  · rename_i r' hr'
    simp only [Option.some.injEq] at h
    subst h
    exact resolve_opds0 hr'
  · simp only [Option.some.injEq] at h
    subst h
    rcases rawOp_or o with ⟨t, args, tys, ho, e⟩ | e
    · rw [e, ho]
      refine ⟨fun x hx => .inl ?_, fun _ => rfl, fun hw => by simp [writes] at hw⟩
      have hx' : x = .tmp t ∨ x ∈ args := by simpa [Op.operands, Call.operands] using hx
      simp only [Ro.opds, List.mem_cons, List.mem_map]
      rcases hx' with rfl | hx'
      · exact .inl rfl
      · exact .inr ⟨x, by simpa using hx', rfl⟩
    · rw [e]
      refine ⟨fun x hx => .inl ?_, fun hl => hl, fun hw => hw⟩
      simp only [Ro.opds, List.mem_map]
      exact ⟨x, by simpa using hx, rfl⟩

theorem foot_spec {ops : Array Oper} {o : Oper} {x : Ro} {g : Option (Nat × Bool)} {n ctr : Nat} {tm : TS} {hp : HS} (hx : resolveOp P o = some x)
    (hgd : (o.guard = none ∧ g = none) ∨ ∃ j want d, o.guard = some (j, want) ∧ (ops[j]?).bind (·.dst) = some d ∧ g = some (d, want)) :
    (footOf ⟨o.dst, g, x⟩ tm ctr).dst = o.dst ∧ (∀ t, t ∈ names ops o → t ∈ (footOf ⟨o.dst, g, x⟩ tm ctr).nm) ∧ (∀ k, k ∈ touch (St.get ⟨n, tm, hp⟩) o → k ∈ (footOf ⟨o.dst, g, x⟩ tm ctr).rd) ∧
      (∀ k, k ∈ wrs (St.get ⟨n, tm, hp⟩) ctr o → k ∈ (footOf ⟨o.dst, g, x⟩ tm ctr).wr) := by
  obtain ⟨h1, h2, h3⟩ := resolve_opds hx
  have hrd : ∀ k, k ∈ touch (St.get ⟨n, tm, hp⟩) o → k ∈ (footOf ⟨o.dst, g, x⟩ tm ctr).rd := by
    intro k hk
    simp only [touch] at hk
    split at hk
    · rename_i hl
      simp only [footOf, h2 hl, if_true, List.mem_flatMap]
      simp only [List.mem_flatMap] at hk
      obtain ⟨y, hy, hky⟩ := hk
      rw [← opd_get] at hky
      rcases h1 y (by simpa using hy) with hm | ⟨f, rfl⟩
      · exact ⟨opd y, hm, hky⟩
      · simp only [opd, Opd.get, ids_ofValue] at hky
        simp at hky
    · simp at hk
  refine ⟨rfl, fun t ht => ?_, hrd, fun k hk => ?_⟩
  · simp only [names, List.mem_append, List.mem_filterMap] at ht
    simp only [footOf, List.mem_append, List.mem_filterMap]
    rcases ht with ⟨y, hy, hyt⟩ | ht
    · left
      cases y with
      | tmp t' =>
        simp only [Option.some.injEq] at hyt
        subst hyt
        rcases h1 (.tmp t') (by simpa using hy) with hm | ⟨f, hf⟩
        · exact ⟨.t t', hm, rfl⟩
        · simp at hf
      | _ => simp at hyt
    · right
      rcases hgd with ⟨hg, rfl⟩ | ⟨j, want, d, hg, hd, rfl⟩
      · simp [hg] at ht
      · simp only [hg, hd] at ht
        simpa using ht
  · simp only [wrs, List.mem_append] at hk
    simp only [footOf, List.mem_append]
    rcases hk with hk | hk
    · exact .inl hk
    · split at hk
      · rename_i hw
        right
        rw [if_pos (h3 hw)]
        exact hrd k hk
      · simp at hk

/-- One operation of a region that draws, taken in the order of the text. -/
theorem XOpD.step {ops : Array Oper} {o : Oper} {n ctr : Nat} {x : Ro} {g : Option (Nat × Bool)} {tm : TS} {hp : HS} {K : Foot → TS → HS → Nat → Prop}
    (hx : resolveOp P o = some x) (hgd : (o.guard = none ∧ g = none) ∨ ∃ j want d, o.guard = some (j, want) ∧ (ops[j]?).bind (·.dst) = some d ∧ g = some (d, want)) (h : XOpD P n ⟨o.dst, g, x⟩ tm hp ctr K) :
    ∃ tm' v hp', (∀ t, find tm' t = find tm t) ∧ StepOk P ops o n tm' hp ctr v hp' ∧ K (footOf ⟨o.dst, g, x⟩ tm' ctr) (putT tm' o.dst v) hp' (ctr + 4) := by
  unfold XOpD at h
  split at h
  · exact h.elim
  · rename_i hd
    simp only at hd
    have wanted : ∀ {tm' : TS}, (∀ t, find tm' t = find tm t) → evalGuard ops o tm' = some true → XGo P ⟨o.dst, g, x⟩ tm' hp ctr (K (footOf ⟨o.dst, g, x⟩ tm' ctr)) →
        ∃ tm' v hp', (∀ t, find tm' t = find tm t) ∧ StepOk P ops o n tm' hp ctr v hp' ∧ K (footOf ⟨o.dst, g, x⟩ tm' ctr) (putT tm' o.dst v) hp' (ctr + 4) := by
      intro tm' he hg hX
      obtain ⟨v, hp', h1, h2⟩ := XGo.step (n := n) hx hX
      exact ⟨tm', v, hp', he, ⟨hd, by rw [hg]; exact h1⟩, h2⟩
    have skipped : ∀ {tm' : TS}, (∀ t, find tm' t = find tm t) → evalGuard ops o tm' = some false → K (footOf ⟨o.dst, g, x⟩ tm' ctr) (putT tm' o.dst (.tup [])) hp (ctr + 4) →
        ∃ tm' v hp', (∀ t, find tm' t = find tm t) ∧ StepOk P ops o n tm' hp ctr v hp' ∧ K (footOf ⟨o.dst, g, x⟩ tm' ctr) (putT tm' o.dst v) hp' (ctr + 4) := by
      intro tm' he hg hK
      exact ⟨tm', .tup [], hp, he, ⟨hd, by rw [hg]; exact ⟨rfl, rfl⟩⟩, hK⟩
    rcases hgd with ⟨hg0, rfl⟩ | ⟨j, want, d, hg0, hj, rfl⟩
    · simp only at h
      exact wanted (fun _ => rfl) (by simp [evalGuard, hg0]) h
    · have guardAt : ∀ {tm' : TS} {b : Bool}, find tm' d = some (bV b) → evalGuard ops o tm' = some (b == want) := by
        intro tm' b hf
        simp only [evalGuard, hg0, hj, hf]
      simp only at h
      split at h
      · rename_i b hf
        have lit : ∀ {c : Bool}, b = c → ∀ t, find ((d, bV c) :: tm) t = find tm t := by
          intro c hb t
          subst hb
          simp only [find_cons]
          split
          · rename_i e; subst e; exact hf.symm
          · rfl
        split at h
        · rcases br_elim h with ⟨hb, h⟩ | ⟨hb, h⟩
          · exact wanted (lit hb) (by rw [guardAt (b := true) (by simp [find_cons])]; rfl) h
          · exact skipped (lit hb) (by rw [guardAt (b := false) (by simp [find_cons])]; rfl) h
        · rcases br_elim h with ⟨hb, h⟩ | ⟨hb, h⟩
          · exact skipped (lit hb) (by rw [guardAt (b := true) (by simp [find_cons])]; rfl) h
          · exact wanted (lit hb) (by rw [guardAt (b := false) (by simp [find_cons])]; rfl) h
      · rename_i hf
        exact skipped (fun _ => rfl) (by simp only [evalGuard, hg0, hj, hf]) h
      · exact h.elim

theorem XDraw.trace {ops : Array Oper} {n base : Nat} {K : List Foot → TS → HS → Nat → Prop} : ∀ {l : List Oper} {rs : List Rop} {k : Nat} {fs0 : List Foot} {tm : TS} {hp : HS}, (∀ j, ops[k + j]? = l[j]?) → resolveOps P ops l = some rs →
    fs0.length = k → XDraw P n rs fs0 tm hp (base + 4 * k) K →
    ∃ (tmT : Nat → TS) (hpT : Nat → HS) (v : Nat → V) (fs : List Foot), K fs (tmT (k + l.length)) (hpT (k + l.length)) (base + 4 * (k + l.length)) ∧ (∀ i, i < k → fs[i]? = fs0[i]?) ∧ (∀ t, find (tmT k) t = find tm t) ∧ hpT k = hp ∧
      ∀ j o, l[j]? = some o → StepOk P ops o n (tmT (k + j)) (hpT (k + j)) (base + 4 * (k + j)) (v (k + j)) (hpT (k + j + 1)) ∧ (∀ t, find (tmT (k + j + 1)) t = find (putT (tmT (k + j)) o.dst (v (k + j))) t) ∧
        ∃ f, fs[k + j]? = some f ∧ f.dst = o.dst ∧ (∀ t, t ∈ names ops o → t ∈ f.nm) ∧ (∀ q, q ∈ touch (St.get ⟨n, tmT (k + j), hpT (k + j)⟩) o → q ∈ f.rd) ∧ (∀ q, q ∈ wrs (St.get ⟨n, tmT (k + j), hpT (k + j)⟩) (base + 4 * (k + j)) o → q ∈ f.wr)
  | [], rs, k, fs0, tm, hp, hl, hrs, hk, h => by
    simp only [resolveOps, Option.some.injEq] at hrs
    subst hrs
    exact ⟨fun _ => tm, fun _ => hp, fun _ => .undef, fs0, by simpa [XDraw] using h, fun _ _ => rfl, fun _ => rfl, rfl, fun j o hj => by simp at hj⟩
  | o :: l, rs, k, fs0, tm, hp, hl, hrs, hk, h => by
    simp only [resolveOps] at hrs
    split at hrs
    · rename_i x l' hx hl'
      have hi : ops[k]? = some o := by simpa using hl 0
      have hg' : ∃ g, rs = ⟨o.dst, g, x⟩ :: l' ∧ ((o.guard = none ∧ g = none) ∨ ∃ j want d, o.guard = some (j, want) ∧ (ops[j]?).bind (·.dst) = some d ∧ g = some (d, want)) := by
        split at hrs
        · rename_i hg
          simp only [Option.some.injEq] at hrs
          exact ⟨_, hrs.symm, .inl ⟨hg, rfl⟩⟩
        · rename_i j want hg
          split at hrs
          · rename_i d hd
            simp only [Option.some.injEq] at hrs
            exact ⟨_, hrs.symm, .inr ⟨j, want, d, hg, hd, rfl⟩⟩
          · simp at hrs
      obtain ⟨g, hrs', hgd⟩ := hg'
      clear hrs
      subst hrs'
      · skip
        simp only [XDraw] at h
        obtain ⟨tm', v0, hp', he, hst, hK⟩ := XOpD.step (ops := ops) hx hgd h
        have hfoot := foot_spec (ops := ops) (n := n) (ctr := base + 4 * k) (tm := tm') (hp := hp) hx hgd
        rw [show base + 4 * k + 4 = base + 4 * (k + 1) by omega] at hK
        obtain ⟨tmT, hpT, v, fs, q1, q2, q3, q4, q5⟩ := XDraw.trace (k := k + 1) (fun j => by have := hl (j + 1); rw [show k + 1 + j = k + (j + 1) by omega, this]; simp) hl' (by simp [hk]) hK
        have hfk : fs[k]? = some (footOf ⟨o.dst, g, x⟩ tm' (base + 4 * k)) := by
          rw [q2 k (by omega), List.getElem?_append_right (by omega), hk]; simp
        refine ⟨fun i => if i = k then tm' else tmT i, fun i => if i = k then hp else hpT i, fun i => if i = k then v0 else v i, fs, ?_, ?_, ?_, ?_, ?_⟩
        · have e1 : k + (o :: l).length = k + 1 + l.length := by simp; omega
          have e2 : ¬ k + 1 + l.length = k := by omega
          simp only [e1, e2, if_false]
          exact q1
        · intro i hi'
          rw [q2 i (by omega), List.getElem?_append_left (by omega)]
        · intro t; simp only [if_true]; exact he t
        · simp
        · intro j oj hj
          cases j with
          | zero =>
            simp only [List.getElem?_cons_zero, Option.some.injEq] at hj
            subst hj
            have e2 : ¬ k + 1 = k := by omega
            simp only [Nat.add_zero, if_true, e2, if_false, q4]
            exact ⟨hst, fun t => q3 t, _, hfk, hfoot⟩
          | succ j =>
            have := q5 j oj (by simpa using hj)
            have e1 : ¬ k + (j + 1) = k := by omega
            have e2 : ¬ k + (j + 1) + 1 = k := by omega
            simp only [e1, e2, if_false]
            rw [show k + (j + 1) = k + 1 + j by omega]
            exact this
    · simp at hrs

theorem edgesLt_spec : ∀ {Es : List (List Nat)} {k : Nat}, edgesLt k Es = true → ∀ i es, Es[i]? = some es → ∀ e, e ∈ es → e < k + i
  | [], k, h, i, es, hi, e, he => by simp at hi
  | x :: r, k, h, i, es, hi, e, he => by
    simp only [edgesLt, Bool.and_eq_true] at h
    cases i with
    | zero =>
      simp only [List.getElem?_cons_zero, Option.some.injEq] at hi
      subst hi
      have := List.all_eq_true.1 h.1 e he
      simpa using this
    | succ i =>
      have := edgesLt_spec h.2 i es (by simpa using hi) e he
      omega

theorem Wp.weak {c : Code} {Q : Exit → St → Nat → Prop} {ctr : Nat} {S : Ren} (hok : S.ok = true) (h : Wp P c Q ⟨st.n, S.tm st.tmps, S.hp st.heap⟩ S.ctr) : Wp P c Q st ctr := by
  intro M A ρ a w hr
  obtain ⟨ρ2, hr2, he⟩ := hr.ren hok
  exact wp_mono (h M A ρ2 a w hr2) (fun e a' w' hp => hp.trans (Evo.refl _ _) he (Grow.refl _ _))

theorem Wp.post {c : Code} {Q Q' : Exit → St → Nat → Prop} {ctr : Nat} (h : Wp P c Q st ctr)
    (hq : ∀ e st' c', Q e st' c' → Q' e st' c' ∨ ∃ S : Ren, S.ok = true ∧ Q' e ⟨st'.n, S.tm st'.tmps, S.hp st'.heap⟩ S.ctr) : Wp P c Q' st ctr := by
  intro M A ρ a w hr
  refine wp_mono (h M A ρ a w hr) ?_
  rintro e a' w' ⟨st', c', A', ρ', h1, h2, h3, h4, h5⟩
  rcases hq e st' c' h1 with h1 | ⟨S, hok, h1⟩
  · exact ⟨st', c', A', ρ', h1, h2, h3, h4, h5⟩
  · obtain ⟨ρ2, hr2, he⟩ := h2.ren hok
    exact ⟨_, S.ctr, A', ρ2, h1, hr2, h3, h4.trans he, h5⟩

theorem X.sound {n : Nat} : ∀ {c : Code} {r : Rc}, resolveC P c = some r → ∀ {Q : Exit → TS → HS → Nat → Prop} {tm : TS} {hp : HS} {ctr : Nat}, X P n r Q tm hp ctr → Wp P c (fun e => onSt n (Q e)) ⟨n, tm, hp⟩ ctr := by
  intro c
  induction c with
  | skip =>
    intro r hr Q tm hp ctr h
    simp only [resolveC, Option.some.injEq] at hr
    subst hr
    exact Wp.skip ⟨rfl, h⟩
  | ret =>
    intro r hr Q tm hp ctr h
    simp only [resolveC, Option.some.injEq] at hr
    subst hr
    exact Wp.ret ⟨rfl, h⟩
  | exit id =>
    intro r hr Q tm hp ctr h
    simp only [resolveC, Option.some.injEq] at hr
    subst hr
    exact Wp.exit ⟨rfl, h⟩
  | seq x y ihx ihy =>
    intro r hr Q tm hp ctr h
    simp only [resolveC] at hr
    split at hr
    · rename_i rx ry hx hy
      simp only [Option.some.injEq] at hr
      subst hr
      simp only [X] at h
      refine Wp.seq ((ihx hx h).mono ?_)
      rintro e st' c' ⟨h1, h2⟩
      subst h1
      cases e with
      | normal => exact ihy hy h2
      | _ => exact ⟨rfl, h2⟩
    · simp at hr
  | cond c x y ihx ihy =>
    intro r hr Q tm hp ctr h
    simp only [resolveC] at hr
    split at hr
    · rename_i rx ry hx hy
      simp only [Option.some.injEq] at hr
      subst hr
      simp only [X] at h
      split at h
      · rename_i b hb
        have hb' : ((⟨n, tm, hp⟩ : St).get c).bool? = some b := by rw [← opd_get]; exact hb
        refine Wp.cond hb' ?_
        rcases br_elim h with ⟨rfl, h⟩ | ⟨rfl, h⟩
        · exact ihx hx h
        · exact ihy hy h
      · exact h.elim
    · simp at hr
  | block id b ih =>
    intro r hr Q tm hp ctr h
    simp only [resolveC] at hr
    split at hr
    · rename_i rb hb
      simp only [Option.some.injEq] at hr
      subst hr
      simp only [X] at h
      refine Wp.block ((ih hb h).mono ?_)
      rintro e st' c' ⟨h1, h2⟩
      cases e with
      | exit id' =>
        simp only [xblock] at h2
        simp only [blockQ]
        split
        · rename_i e; rw [if_pos e] at h2; exact ⟨h1, h2⟩
        · rename_i e; rw [if_neg e] at h2; exact ⟨h1, h2⟩
      | _ => exact ⟨h1, h2⟩
    · simp at hr
  | loop b ih =>
    intro r hr Q tm hp ctr h
    simp only [resolveC] at hr
    split at hr
    · rename_i rb hb
      simp only [Option.some.injEq] at hr
      subst hr
      simp only [X] at h
      obtain ⟨I, ⟨S, hok, m, hI⟩, hround⟩ := h
      refine Wp.weak (st := ⟨n, tm, hp⟩) hok ?_
      refine Wp.loop (fun m => onSt n (I m)) ?_ m _ _ ⟨rfl, hI⟩
      rintro m st' c' ⟨h1, h2⟩
      obtain ⟨n', tm', hp'⟩ := st'
      simp only at h1 h2
      subst h1
      refine Wp.post (ih hb (hround m tm' hp' c' h2)) ?_
      rintro e st2 c2 ⟨h3, h4⟩
      cases e with
      | normal =>
        obtain ⟨S', hok', m', hm', hI'⟩ := h4
        exact .inr ⟨S', hok', m', hm', h3, hI'⟩
      | _ => exact .inl ⟨h3, h4⟩
    · simp at hr
  | region id ops d =>
    intro r hr Q tm hp ctr h
    cases d with
    | true =>
      simp only [resolveC] at hr
      split at hr
      · rename_i l hl
        split at hr
        · rename_i hc
          simp only [Bool.and_eq_true] at hc
          simp only [Option.some.injEq] at hr
          subst hr
          simp only [X] at h
          intro M A ρ a w hrel
          obtain ⟨tmT, hpT, v, fs, ⟨q0, q1⟩, _, q3, q4, q5⟩ := XDraw.trace (P := P) (ops := ops) (n := n) (base := ctr) (k := 0) (fun j => by simp) hl rfl (by simpa using h)
          simp only [Nat.zero_add] at q1 q5
          have hrel0 : Rel M A ρ (From ctr) ⟨n, tmT 0, hpT 0⟩ a w := hrel.forget rfl (fun t u hu => by rw [← q3 t]; exact hu) (fun k b hb => by rw [q4] at hb; exact hb)
          refine draw_sound hc.1 (fun i o ho => q5 i o (by simpa using ho)) (fun i o ho e he => ?_) q0 hrel0 ?_
          · have := edgesLt_spec hc.2 i (edgesOf o) (by simp [ho]) e he
            omega
          · rintro a' w' ⟨st', c', A', ρ', ⟨rfl, rfl⟩, h2⟩
            exact ⟨_, _, A', ρ', ⟨rfl, by simpa using q1⟩, h2⟩
        · simp at hr
      · simp at hr
    | false =>
      simp only [resolveC] at hr
      split at hr
      · rename_i l hl
        simp only [Option.some.injEq] at hr
        subst hr
        simp only [X] at h
        intro M A ρ a w hrel
        refine wp_region ?_
        have := XOps.sound (P := P) (ops := ops) (k := 0) (l := ops.toList) (Q := fun e a' w' => Post M A ρ w (onSt n (Q e)) a' w') (fun j => by simp) hl h hrel (fun _ _ hp => hp)
        rw [List.range_eq_range']
        simpa using this
      · simp at hr
  | _ => intro r hr; simp [resolveC] at hr

/-- The end of a function, for the executor. -/
def XRet (P : Program) (rs : List ResultVar) (res : V) (hout : HS) : Exit → TS → HS → Nat → Prop
  | .normal, tm, hp, _ | .ret, tm, hp, _ => ∃ us, resultsOf P hp tm rs = some us ∧ res = resV us ∧ ∀ id b, find hout id = some b → find hp id = some b
  | _, _, _, _ => False

theorem Fn.of_X {f : FuncId} {fn : Func} {c : Code} {r : Rc} {args : List W} {hin hout : HS} {res : V} {n : Nat} {rs : List ResultVar} (hf : P.funcs[f]? = some fn) (hb : fn.body = some c) (hr : resolveC P c = some r)
    (hn : fn.ntmps = n) (hrs : fn.results.toList = rs) (hl : args.length ≤ n) (h : X P n r (XRet P rs res hout) (initTmps 0 args) hin 4) : Fn P f args hin res hout := by
  subst hn
  subst hrs
  refine Fn.of_body hf hb hl ((X.sound hr h).mono ?_)
  rintro e st' c' ⟨h1, h2⟩
  cases e <;> first | exact h2 | exact h2.elim

end Go.Abs
