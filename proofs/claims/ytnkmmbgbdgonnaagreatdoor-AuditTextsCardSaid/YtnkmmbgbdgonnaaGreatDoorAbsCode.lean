import Derived.Test.YtnkmmbgbdgonnaaGreatDoorAbsRen
namespace Go.Abs
open Go

variable {P : Program} {M A : Nat → Prop} {ρ : Env} {F : Nat → Prop} {st : St} {a : Act} {w : World}

/-- Where a piece of code ends: some state of Q stands for what there is. -/
def Post (M A : Nat → Prop) (ρ : Env) (w : World) (Q : St → Nat → Prop) (a' : Act) (w' : World) : Prop :=
  ∃ st' ctr' A' ρ', Q st' ctr' ∧ Rel M A' ρ' (From ctr') st' a' w' ∧ Evo M w w' ∧ Ext4 ρ ρ' ∧ Grow A A' w

theorem Post.trans {A1 : Nat → Prop} {ρ1 : Env} {w1 w' : World} {Q : St → Nat → Prop} {a' : Act} (h : Post M A1 ρ1 w1 Q a' w') (hev : Evo M w w1) (hext : Ext4 ρ ρ1) (hg : Grow A A1 w) : Post M A ρ w Q a' w' := by
  obtain ⟨st', c', A', ρ', h1, h2, h3, h4, h5⟩ := h
  exact ⟨st', c', A', ρ', h1, h2, hev.trans h3, hext.trans h4, hg.trans h5 hev.size⟩

theorem Post.here {Q : St → Nat → Prop} {ctr : Nat} (h : Rel M A ρ (From ctr) st a w) (hq : Q st ctr) : Post M A ρ w Q a w :=
  ⟨st, ctr, A, ρ, hq, h, Evo.refl _ _, Ext4.refl _, Grow.refl _ _⟩

def evalGuard (ops : Array Oper) (o : Oper) (tmps : List (Nat × V)) : Option Bool :=
  match o.guard with
  | none => some true
  | some (j, want) =>
    match (ops[j]?).bind (·.dst) with
    | none => some false
    | some d =>
      match find tmps d with
      | some (.w (.one (.t (.val (.bool b))))) => some (b == want)
      | some (.tup []) => some false
      | _ => none

theorem evalGuard_sound {ops : Array Oper} {o : Oper} {b : Bool} (h : Rel M A ρ F st a w) (hg : evalGuard ops o st.tmps = some b) : Region.wanted o (yielded ops a.tmps) = b := by
  unfold evalGuard at hg
  unfold Region.wanted
  split at hg
  · rename_i hg'
    simp only [Option.some.injEq] at hg
    simp [hg', ← hg]
  · rename_i j want hg'
    simp only [hg']
    split at hg
    · rename_i hd
      simp only [Option.some.injEq] at hg
      simp [yielded, hd, ← hg]
    · rename_i d hd
      split at hg
      · rename_i c hc
        simp only [Option.some.injEq] at hg
        have hr := h.tmps d _ hc
        have hv : a.tmps.getD d undef = .bool c := V.val?_spec (u := .w (.one (.t (.val (.bool c))))) rfl hr
        have hlt : d < a.tmps.size := by
          rcases Nat.lt_or_ge d a.tmps.size with hl | hl
          · exact hl
          · rw [Array.getD_eq_getD_getElem?, Array.getElem?_eq_none hl] at hv
            simp [undef] at hv
        have hx : a.tmps[d]? = some (.bool c) := by
          rw [Array.getD_eq_getD_getElem?] at hv
          simp [hlt] at hv ⊢
          exact hv
        simp only [yielded, hd, Option.bind_some, hx]
        rw [← hg]
        cases c <;> cases want <;> rfl
      · rename_i hc
        simp only [Option.some.injEq] at hg
        have hr := h.tmps d _ hc
        obtain ⟨vs, h1, h2, _⟩ := hr
        have hne : ∀ q, a.tmps[d]? ≠ some (.bool q) := by
          intro q hq
          simp [Array.getD_eq_getD_getElem?, hq] at h1
        have hy : yielded ops a.tmps j = none := by
          simp only [yielded, hd, Option.bind_some]
        rw [hy, ← hg]
        rfl
      · simp at hg

def dstOk (n : Nat) (dst : Option Tmp) : Bool :=
  match dst with
  | some d => decide (d < n)
  | none => true

theorem dstOk_spec {n : Nat} {dst : Option Tmp} (h : dstOk n dst = true) : ∀ d, dst = some d → d < n := by
  intro d hd
  subst hd
  simpa [dstOk] using h

def wsOf (get : Operand → V) : List Operand → Option (List W)
  | [] => some []
  | x :: r => match get x, wsOf get r with
    | .w u, some l => some (u :: l)
    | _, _ => none

theorem wsOf_sound (h : Rel M A ρ F st a w) : ∀ {xs : List Operand} {us : List W}, wsOf st.get xs = some us → RWs w A ρ us (xs.map a.eval)
  | [], us, hu => by simp only [wsOf, Option.some.injEq] at hu; subst hu; exact ⟨rfl, by simp⟩
  | x :: r, us, hu => by
    simp only [wsOf] at hu
    split at hu
    · rename_i u l hx hl
      simp only [Option.some.injEq] at hu
      subst hu
      obtain ⟨h1, h2⟩ := wsOf_sound h hl
      refine ⟨by simp [h1], fun k v y hv hy => ?_⟩
      cases k with
      | zero =>
        simp only [List.getElem?_cons_zero, Option.some.injEq] at hv
        simp only [List.map_cons, List.getElem?_cons_zero, Option.some.injEq] at hy
        subst hv
        subst hy
        have := h.get x
        rw [hx] at this
        exact this
      | succ k => exact h2 k v y (by simpa using hv) (by simpa using hy)
    · simp at hu

def enters (P : Program) (f : FuncId) : Bool :=
  match P.funcs[f]? with
  | some fn => fn.body.isSome && fn.name != "runtime.NumGoroutine"
  | none => false

theorem run_callFunc {f : FuncId} (h : enters P f = true) (xs : Array Value) : (callFunc f xs).run P w = .ok (.enter f xs) w := by
  unfold enters at h
  split at h
  · rename_i fn hf
    simp only [Bool.and_eq_true, bne_iff_ne, ne_eq] at h
    obtain ⟨h1, h2⟩ := h
    simp only [callFunc, Sem.run_bind, run_program, Result.andThen_ok, hf]
    have h3 : fn.body.isNone = false := by cases hb : fn.body <;> simp_all
    have h4 : (fn.name == "runtime.NumGoroutine") = false := by simpa using h2
    simp only [h3, h4, Bool.false_eq_true, if_false, Sem.run_pure]
  · simp at h

def recvW (b : Bool) (ts : List T) : Option W :=
  match b, ts with
  | true, ts => some (.agg (ts.map .t))
  | false, [t] => some (.one (.t t))
  | _, _ => none

/-- The function and the arguments of a call: a plain function, or a closure (its captured variables behind the arguments). -/
def callOf (get : Operand → V) (o : Oper) : Option (FuncId × List W) :=
  match o.op with
  | .call ⟨.value f, args, _⟩ =>
    match get f, wsOf get args.toList with
    | .w (.one (.t (.val (.func (.func g) first caps)))), some us => if first.isEmpty && caps.isEmpty then some (g, us) else none
    | .w (.one (.clo g caps)), some us => some (g, us ++ caps.map fun p => .one (.ptr p.1 p.2.1 p.2.2.1 p.2.2.2))
    | .w (.one (.bnd g b ts)), some us => (recvW b ts).map fun u => (g, u :: us)
    | _, _ => none
  | _ => none

theorem callOf_sound {o : Oper} {g : FuncId} {us : List W} (h : Rel M A ρ F st a w) (hc : callOf st.get o = some (g, us)) (he : enters P g = true) :
    ∃ xs : Array Value, (execOp a.eval o).run P w = .ok (.enter g xs) w ∧ RWs w A ρ us xs.toList := by
  obtain ⟨dst, op, ty, pos, after, guard⟩ := o
  unfold callOf at hc
  simp only at hc
  split at hc
  · rename_i f args tys
    split at hc
    · rename_i g' first caps us' hf hus
      split at hc
      · rename_i hcond
        simp only [Option.some.injEq, Prod.mk.injEq] at hc
        obtain ⟨rfl, rfl⟩ := hc
        simp only [Bool.and_eq_true, Array.isEmpty_iff] at hcond
        obtain ⟨rfl, rfl⟩ := hcond
        have hv := V.val?_spec (v := .func (.func g') #[] #[]) (by rw [hf]; rfl) (h.get f)
        refine ⟨args.map a.eval, ?_, by simpa using wsOf_sound h hus⟩
        simp [execOp, resolve, hv, Deferred.ofValue, invoke, run_callFunc he]
      · simp at hc
    · rename_i g' caps us' hf hus
      simp only [Option.some.injEq, Prod.mk.injEq] at hc
      obtain ⟨rfl, rfl⟩ := hc
      have hx := h.get f
      rw [hf] at hx
      obtain ⟨vs, hv, hl, hp⟩ := hx.1
      obtain ⟨k1, k2⟩ := wsOf_sound h hus
      refine ⟨args.map a.eval ++ vs, by simp [execOp, resolve, hv, Deferred.ofValue, invoke, run_callFunc he], by simp only [List.length_append, List.length_map, Array.toList_append, Array.length_toList, hl, k1, Array.toList_map], fun k u x hu hx => ?_⟩
      simp only [Array.toList_append, Array.toList_map] at hx
      by_cases hk : k < us'.length
      · rw [List.getElem?_append_left hk] at hu
        rw [List.getElem?_append_left (by rw [← k1]; exact hk)] at hx
        exact k2 k u x hu hx
      · rw [List.getElem?_append_right (by omega)] at hu
        rw [List.getElem?_append_right (by rw [← k1]; omega), ← k1] at hx
        simp only [List.getElem?_map, Option.map_eq_some_iff] at hu
        obtain ⟨⟨id, sz, i, j⟩, hq, rfl⟩ := hu
        have hpx := hp _ id sz i j x hq (by simpa using hx)
        refine ⟨hpx, ?_⟩
        obtain ⟨b, _, rfl⟩ := hpx
        rfl
    · rename_i g' b ts us' hf hus
      simp only [Option.map_eq_some_iff, Prod.mk.injEq] at hc
      obtain ⟨u0, hu0, rfl, rfl⟩ := hc
      have hx := h.get f
      rw [hf] at hx
      obtain ⟨x0, hv, hrf⟩ := hx.1
      obtain ⟨k1, k2⟩ := wsOf_sound h hus
      have h0 : RW w A ρ u0 x0 := by
        cases b with
        | true =>
          simp only [recvW, Option.some.injEq] at hu0
          subst hu0
          obtain ⟨vs, rfl, q1, q2⟩ := hrf
          refine ⟨vs, rfl, by simpa using q1, fun k c y hk hy => ?_⟩
          simp only [List.getElem?_map, Option.map_eq_some_iff] at hk
          obtain ⟨t, ht, rfl⟩ := hk
          exact q2 k t y ht hy
        | false =>
          obtain ⟨t, rfl, q1, q2⟩ := hrf
          simp only [recvW, Option.some.injEq] at hu0
          subst hu0
          exact ⟨q1, q2⟩
      refine ⟨#[x0] ++ args.map a.eval, by simp [execOp, resolve, hv, Deferred.ofValue, invoke, run_callFunc he], by simp only [List.length_cons, Array.toList_append, List.length_append, Array.length_toList, Array.toList_map, List.length_map, k1]; simp [Nat.add_comm], fun k u x hu hx => ?_⟩
      simp only [Array.toList_append, Array.toList_map] at hx
      cases k with
      | zero =>
        simp only [List.getElem?_cons_zero, Option.some.injEq] at hu
        subst hu
        have : x0 = x := by simpa using hx
        subst this
        exact h0
      | succ k => exact k2 k u x (by simpa using hu) (by simpa using hx)
    · simp at hc
  · simp at hc

/-- One operation. -/
def WpOp (P : Program) (ops : Array Oper) (i : Nat) (K : St → Nat → Prop) (st : St) (ctr : Nat) : Prop :=
  match ops[i]? with
  | none => K st ctr
  | some o =>
    dstOk st.n o.dst = true ∧
    match evalGuard ops o st.tmps with
    | none => False
    | some false => K (st.put o.dst (.tup [])) ctr
    | some true =>
      match callOf st.get o with
      | some (g, us) => enters P g = true ∧ ∃ v heap', CallTo P st.heap ctr g us v heap' ∧ K (St.put { st with heap := heap' } o.dst v) (ctr + 4)
      | none =>
        match evalOp P st.get st.heap ctr o with
        | some (v, heap') => K (St.put { st with heap := heap' } o.dst v) (ctr + 4)
        | none => False

def WpOps (P : Program) (ops : Array Oper) (K : St → Nat → Prop) : List Nat → St → Nat → Prop
  | [], st, ctr => K st ctr
  | i :: rest, st, ctr => WpOp P ops i (WpOps P ops K rest) st ctr

theorem undef_tup : RV w A ρ (.tup []) undef := ⟨#[], rfl, rfl, by simp⟩

theorem sub_from {ctr : Nat} : ∀ id, From (ctr + 4) id → Sub (From ctr) ctr id := fun id h => ⟨by simp only [From] at *; omega, by simp only [From] at *; omega⟩

theorem WpOp.sound {ops : Array Oper} {i : Nat} {K : St → Nat → Prop} {ctr : Nat} {Q : Exit → Act → World → Prop} {K' : Act → World → Prop} (h : WpOp P ops i K st ctr) (hr : Rel M A ρ (From ctr) st a w)
    (hk : ∀ a' w', Post M A ρ w K a' w' → K' a' w') : wpOp P ops Q i K' a w := by
  unfold WpOp at h
  unfold wpOp
  split at h
  · rename_i hi
    simp only [hi]
    exact hk _ _ (Post.here hr h)
  · rename_i o hi
    simp only [hi]
    obtain ⟨hd, h⟩ := h
    have hd' := dstOk_spec hd
    split at h
    · exact h.elim
    · rename_i hg
      have := evalGuard_sound hr hg
      simp only [this, Bool.false_eq_true, if_false]
      exact hk _ _ (Post.here (hr.put undef_tup hd') h)
    · rename_i hg
      have := evalGuard_sound hr hg
      simp only [this, if_true]
      refine .inl ?_
      split at h
      · rename_i g us hc
        obtain ⟨he, v, heap', hct, hK⟩ := h
        obtain ⟨xs, hx, hxs⟩ := callOf_sound (P := P) hr hc he
        simp only [Oper.wp, hx, Oper.upon]
        refine (hct.sound hr (fun k h1 _ => h1) hxs).mono ?_
        rintro e w' ⟨x, A', ρ', rfl, r1, r2, r3, r4, r5⟩
        exact hk _ _ ⟨_, ctr + 4, A', ρ', hK, (r1.sub sub_from).put r2 hd', r3, r4.to4, r5⟩
      · split at h
        · rename_i v heap' hev
          obtain ⟨x, w', A', ρ', hrun, r1, r2, r3, r4, r5⟩ := evalOp_sound hev hr (Nat.le_refl ctr)
          rcases hrun with hrun | ⟨hrun, rfl⟩
          · simp only [Oper.wp, hrun, Oper.upon]
            exact hk _ _ ⟨_, ctr + 4, A', ρ', h, (r1.sub sub_from).put r2 hd', r3, r4.to4, r5⟩
          · simp only [Oper.wp, hrun, Oper.upon]
            exact hk _ _ ⟨_, ctr + 4, A', ρ', h, (r1.sub sub_from).put r2 hd', r3, r4.to4, r5⟩
        · exact h.elim

theorem WpOps.sound {ops : Array Oper} {K : St → Nat → Prop} {Q : Exit → Act → World → Prop} : ∀ {l : List Nat} {M A : Nat → Prop} {ρ : Env} {st : St} {a : Act} {w : World} {ctr : Nat}, WpOps P ops K l st ctr → Rel M A ρ (From ctr) st a w →
    (∀ a' w', Post M A ρ w K a' w' → Q .normal a' w') → wpOps P ops Q l a w
  | [], M, A, ρ, st, a, w, ctr, h, hr, hq => hq _ _ (Post.here hr h)
  | i :: rest, M, A, ρ, st, a, w, ctr, h, hr, hq => by
    rw [wpOps_cons]
    refine WpOp.sound h hr (fun a' w' hp => ?_)
    obtain ⟨st', c', A', ρ', h1, h2, h3, h4, h5⟩ := hp
    exact WpOps.sound h1 h2 (fun a2 w2 hp2 => hq _ _ (hp2.trans h3 h4 h5))

/-- CODE: from whatever world that stands for the state, the code ends in one that stands for a state of Q. -/
def Wp (P : Program) (c : Code) (Q : Exit → St → Nat → Prop) (st : St) (ctr : Nat) : Prop :=
  ∀ (M A : Nat → Prop) (ρ : Env) (a : Act) (w : World), Rel M A ρ (From ctr) st a w → c.wp P (fun e a' w' => Post M A ρ w (Q e) a' w') a w

theorem Wp.mono {c : Code} {Q Q' : Exit → St → Nat → Prop} {ctr : Nat} (h : Wp P c Q st ctr) (hq : ∀ e st' c', Q e st' c' → Q' e st' c') : Wp P c Q' st ctr :=
  fun M A ρ a w hr => wp_mono (h M A ρ a w hr) (fun e a' w' ⟨st', c', A', ρ', h1, h2⟩ => ⟨st', c', A', ρ', hq _ _ _ h1, h2⟩)

theorem Wp.skip {Q : Exit → St → Nat → Prop} {ctr : Nat} (h : Q .normal st ctr) : Wp P .skip Q st ctr := fun M A ρ a w hr => wp_skip (Post.here hr h)
theorem Wp.exit {Q : Exit → St → Nat → Prop} {ctr id : Nat} (h : Q (.exit id) st ctr) : Wp P (.exit id) Q st ctr := fun M A ρ a w hr => wp_exit (Post.here hr h)
theorem Wp.ret {Q : Exit → St → Nat → Prop} {ctr : Nat} (h : Q .ret st ctr) : Wp P .ret Q st ctr := fun M A ρ a w hr => wp_ret (Post.here hr h)

def thenQ (K : St → Nat → Prop) (Q : Exit → St → Nat → Prop) : Exit → St → Nat → Prop
  | .normal => K
  | e => Q e

theorem Wp.seq {x y : Code} {Q : Exit → St → Nat → Prop} {ctr : Nat} (h : Wp P x (thenQ (Wp P y Q) Q) st ctr) : Wp P (.seq x y) Q st ctr := by
  intro M A ρ a w hr
  refine wp_seq (wp_mono (h M A ρ a w hr) ?_)
  rintro e a' w' ⟨st', c', A', ρ', h1, h2, h3, h4, h5⟩
  cases e with
  | normal => exact wp_mono (h1 M A' ρ' a' w' h2) (fun e a2 w2 hp => hp.trans h3 h4 h5)
  | _ => exact ⟨st', c', A', ρ', h1, h2, h3, h4, h5⟩

theorem Wp.region {id : Nat} {ops : Array Oper} {Q : Exit → St → Nat → Prop} {ctr : Nat} (h : WpOps P ops (Q .normal) (List.range ops.size) st ctr) : Wp P (.region id ops false) Q st ctr :=
  fun _ _ _ _ _ hr => wp_region (WpOps.sound h hr (fun _ _ hp => hp))

theorem Wp.cond {c : Operand} {x y : Code} {b : Bool} {Q : Exit → St → Nat → Prop} {ctr : Nat} (hc : (st.get c).bool? = some b) (h : Wp P (if b then x else y) Q st ctr) : Wp P (.cond c x y) Q st ctr :=
  fun M A ρ a w hr => wp_cond (V.bool?_spec hc (hr.get c)) (h M A ρ a w hr)

def blockQ (id : Nat) (Q : Exit → St → Nat → Prop) : Exit → St → Nat → Prop
  | .exit id' => if id' = id then Q .normal else Q (.exit id')
  | e => Q e

theorem Wp.block {id : Nat} {c : Code} {Q : Exit → St → Nat → Prop} {ctr : Nat} (h : Wp P c (blockQ id Q) st ctr) : Wp P (.block id c) Q st ctr := by
  intro M A ρ a w hr
  refine wp_block (wp_mono (h M A ρ a w hr) ?_)
  rintro e a' w' ⟨st', c', A', ρ', h1, h2⟩
  cases e with
  | exit id' =>
    simp only [Exit.inBlock]
    simp only [blockQ] at h1
    split
    · rename_i e; rw [if_pos e] at h1; exact ⟨st', c', A', ρ', h1, h2⟩
    · rename_i e; rw [if_neg e] at h1; exact ⟨st', c', A', ρ', h1, h2⟩
  | _ => exact ⟨st', c', A', ρ', h1, h2⟩

/-- A loop: rounds are counted down by a measure that the invariant carries. -/
theorem Wp.loop {c : Code} {Q : Exit → St → Nat → Prop} (I : Nat → St → Nat → Prop)
    (round : ∀ n st ctr, I n st ctr → Wp P c (thenQ (fun st' c' => ∃ m, m < n ∧ I m st' c') Q) st ctr) :
    ∀ (n : Nat) (st : St) (ctr : Nat), I n st ctr → Wp P (.loop c) Q st ctr := by
  intro n st ctr h0 M A ρ a w hr b k cs
  have key : ∀ n st ctr A ρ a w, I n st ctr → Rel M A ρ (From ctr) st a w →
      ∃ e a' w', Post M A ρ w (Q e) a' w' ∧ Arrives P (lone (b.at a (.code c :: .inLoop c :: k)) cs w) b k cs e a' w' := by
    intro n
    induction n using Nat.strongRecOn with
    | _ n ih =>
      intro st ctr A ρ a w hI hr
      obtain ⟨e, a1, w1, hq, harr⟩ := round n st ctr hI M A ρ a w hr b (.inLoop c :: k) cs
      obtain ⟨st', c', A', ρ', h1, h2, h3, h4, h5⟩ := hq
      cases e with
      | normal =>
        obtain ⟨m, hm, hI'⟩ := h1
        obtain ⟨e2, a2, w2, hp2, harr2⟩ := ih m hm st' c' A' ρ' a1 w1 hI' h2
        exact ⟨e2, a2, w2, hp2.trans h3 h4 h5, .of_steps (Steps.trans harr (.one step_inLoop)) harr2⟩
      | exit id => exact ⟨_, a1, w1, ⟨st', c', A', ρ', h1, h2, h3, h4, h5⟩, .pass (x := .inLoop c) rfl (fun _ _ => .inl (by simp)) harr⟩
      | goto l => exact ⟨_, a1, w1, ⟨st', c', A', ρ', h1, h2, h3, h4, h5⟩, .pass (x := .inLoop c) rfl (fun _ _ => .inl (by simp)) harr⟩
      | ret => exact ⟨_, a1, w1, ⟨st', c', A', ρ', h1, h2, h3, h4, h5⟩, .pass (x := .inLoop c) rfl (fun _ _ => .inl (by simp)) harr⟩
      | panic ch => exact ⟨_, a1, w1, ⟨st', c', A', ρ', h1, h2, h3, h4, h5⟩, .pass (x := .inLoop c) rfl (fun _ _ => .inl (by simp)) harr⟩
      | outgrown => exact ⟨_, a1, w1, ⟨st', c', A', ρ', h1, h2, h3, h4, h5⟩, .pass (x := .inLoop c) rfl (fun _ _ => .inl (by simp)) harr⟩
  obtain ⟨e, a', w', hq, harr⟩ := key n st ctr A ρ a w h0 hr
  exact ⟨e, a', w', hq, .of_steps (.one step_loop) harr⟩

/-- One state for another that says less. -/
theorem Wp.forget {c : Code} {Q : Exit → St → Nat → Prop} {ctr ctr' : Nat} {st' : St} (h : Wp P c Q st' ctr') (hc : ctr ≤ ctr') (hn : st'.n = st.n)
    (ht : ∀ t v, find st'.tmps t = some v → find st.tmps t = some v) (hh : ∀ id b, find st'.heap id = some b → find st.heap id = some b) : Wp P c Q st ctr :=
  fun M A ρ a w hr => h M A ρ a w ((hr.forget hn ht hh).sub (fun id hi => Nat.le_trans hc hi))

/-- The results of a function. -/
def resultOf (P : Program) (heap : List (Nat × Blk)) (tmps : List (Nat × V)) : ResultVar → Option W
  | .tmp t => match find tmps t with
    | some (.w u) => some u
    | _ => none
  | .cell t ty => match find tmps t with
    | some v => match evalLoad P ty v heap with
      | some (.w u) => some u
      | _ => none
    | none => none

def resultsOf (P : Program) (heap : List (Nat × Blk)) (tmps : List (Nat × V)) : List ResultVar → Option (List W)
  | [] => some []
  | r :: rs => match resultOf P heap tmps r, resultsOf P heap tmps rs with
    | some u, some us => some (u :: us)
    | _, _ => none

def resV : List W → V
  | [u] => .w u
  | us => .tup us

theorem resultsOf_sound (h : Rel M A ρ F st a w) : ∀ {rs : List ResultVar} {us : List W}, resultsOf P st.heap st.tmps rs = some us →
    ∃ vs : List Value, (rs.mapM fun (r : ResultVar) => match r with
      | .tmp t => pure (a.tmps.getD t undef)
      | .cell b t => do loadVar t (← asAddr (a.tmps.getD b undef))).run P w = .ok vs w ∧ RWs w A ρ us vs
  | [], us, hu => by
    simp only [resultsOf, Option.some.injEq] at hu
    subst hu
    exact ⟨[], by simp, rfl, by simp⟩
  | r :: rs, us, hu => by
    simp only [resultsOf] at hu
    split at hu
    · rename_i u us' hr hrs
      simp only [Option.some.injEq] at hu
      subst hu
      obtain ⟨vs, h1, h2, h3⟩ := resultsOf_sound h hrs
      have one : ∃ v, (match r with
          | .tmp t => (pure (a.tmps.getD t undef) : Sem Value)
          | .cell b t => do loadVar t (← asAddr (a.tmps.getD b undef))).run P w = .ok v w ∧ RW w A ρ u v := by
        cases r with
        | tmp t =>
          simp only [resultOf] at hr
          split at hr
          · rename_i u' hf
            simp only [Option.some.injEq] at hr
            subst hr
            exact ⟨_, rfl, h.tmps t _ hf⟩
          · simp at hr
        | cell b t =>
          simp only [resultOf] at hr
          split at hr
          · rename_i v hf
            split at hr
            · rename_i u' hl
              simp only [Option.some.injEq] at hr
              subst hr
              have hv := h.tmps b v hf
              obtain ⟨y, hy, hry⟩ := evalLoad_sound h hl hv
              refine ⟨y, ?_, hry⟩
              unfold evalLoad at hl
              split at hl
              · rename_i c
                split at hl
                · rename_i cs j hd
                  obtain ⟨b', o, hx, _⟩ := deref_sound h hd hv.1
                  simp only [Instr.loadAt, Instr.sureAddr, hx, Sem.run_bind, Sem.run_pure, Result.andThen_ok] at hy
                  simp only [asAddr, hx, Sem.run_bind, Sem.run_pure, Result.andThen_ok]
                  exact hy
                · simp at hl
              · simp at hl
            · simp at hr
          · simp at hr
      obtain ⟨v, hv, hrv⟩ := one
      refine ⟨v :: vs, ?_, by simp [h2], fun k u x hu hx => ?_⟩
      · rw [List.mapM_cons, Sem.run_bind, hv, Result.andThen_ok, Sem.run_bind, h1]
        rfl
      · cases k with
        | zero =>
          simp only [List.getElem?_cons_zero, Option.some.injEq] at hu hx
          subst hu
          subst hx
          exact hrv
        | succ k => exact h3 k u x (by simpa using hu) (by simpa using hx)
    · simp at hu

/-- The end of a function's body. -/
def RetQ (P : Program) (fn : Func) (res : V) (hout : List (Nat × Blk)) : Exit → St → Nat → Prop
  | .normal, st, _ | .ret, st, _ => ∃ us, resultsOf P st.heap st.tmps fn.results.toList = some us ∧ res = resV us ∧ ∀ id b, find hout id = some b → find st.heap id = some b
  | _, _, _ => False

def initTmps (n : Nat) : List W → List (Nat × V)
  | [] => []
  | u :: r => (n, .w u) :: initTmps (n + 1) r

theorem find_initTmps : ∀ (us : List W) (n t : Nat) (v : V), find (initTmps n us) t = some v → n ≤ t ∧ ∃ u, us[t - n]? = some u ∧ v = .w u
  | [], n, t, v, h => by simp [initTmps, find] at h
  | u :: r, n, t, v, h => by
    simp only [initTmps, find_cons] at h
    split at h
    · rename_i e
      subst e
      simp only [Option.some.injEq] at h
      exact ⟨Nat.le_refl _, u, by simp, h.symm⟩
    · rename_i e
      obtain ⟨h1, u', h2, h3⟩ := find_initTmps r (n + 1) t v h
      refine ⟨by omega, u', ?_, h3⟩
      rw [show t - n = (t - (n + 1)) + 1 by omega]
      simpa using h2

/-- A FUNCTION's CONTRACT, out of its body. -/
theorem Fn.of_body {f : FuncId} {fn : Func} {c : Code} {args : List W} {hin hout : List (Nat × Blk)} {res : V} (hf : P.funcs[f]? = some fn) (hb : fn.body = some c) (hn : args.length ≤ fn.ntmps)
    (h : Wp P c (RetQ P fn res hout) ⟨fn.ntmps, initTmps 0 args, hin⟩ 4) : Fn P f args hin res hout := by
  intro w A ρ xs hH hxs
  refine calls_of_wp hf hb ?_
  have hl : args.length = xs.size := by simpa using hxs.1
  have hrel : Rel (fun b => Own ρ hin b ∨ w.heap.size ≤ b) A ρ (From 4) ⟨fn.ntmps, initTmps 0 args, hin⟩ { tmps := xs ++ Array.replicate (fn.ntmps - xs.size) undef, defers := [] } w := by
    refine ⟨by simp; omega, rfl, fun t v hv => ?_, hH.heap, hH.inj, hH.fresh, hH.bound, hH.may, hH.glob⟩
    obtain ⟨_, u, hu, rfl⟩ := find_initTmps _ _ _ _ hv
    simp only [Nat.sub_zero] at hu
    have ht : t < xs.size := by rw [← hl]; exact (List.getElem?_eq_some_iff.1 hu).1
    have hx : xs.toList[t]? = some xs[t] := by simp [ht]
    have := hxs.2 t u _ hu hx
    have e : (xs ++ Array.replicate (fn.ntmps - xs.size) undef).getD t undef = xs[t] := by simp [Array.getD_eq_getD_getElem?, Array.getElem?_append_left ht, ht]
    rw [e]
    exact this
  refine wp_mono (h _ A ρ _ w hrel) ?_
  intro e a' w' hp
  have fin : ∀ {st' : St} {c' : Nat} {A' : Nat → Prop} {ρ' : Env}, (∃ us, resultsOf P st'.heap st'.tmps fn.results.toList = some us ∧ res = resV us ∧ ∀ id b, find hout id = some b → find st'.heap id = some b) →
      Rel (fun b => Own ρ hin b ∨ w.heap.size ≤ b) A' ρ' (From c') st' a' w' → Evo (fun b => Own ρ hin b ∨ w.heap.size ≤ b) w w' → Ext4 ρ ρ' → Grow A A' w →
      a'.defers = [] ∧ ∃ v, (results fn a'.tmps).run P w' = .ok v w' ∧ ∃ x A' ρ' F', Ending.returned v = .returned x ∧ RV w' A' ρ' res x ∧ HR (fun b => Own ρ hin b ∨ w.heap.size ≤ b) A' ρ' F' hout w' ∧
        Evo (fun b => Own ρ hin b ∨ w.heap.size ≤ b) w w' ∧ Ext4 ρ ρ' ∧ Grow A A' w := by
    intro st' c' A' ρ' hres hr hev hext hg
    obtain ⟨us, hus, rfl, hho⟩ := hres
    obtain ⟨vs, hvs, hR⟩ := resultsOf_sound hr hus
    have hm : (fn.results.mapM fun (r : ResultVar) => match r with
        | .tmp t => (pure (a'.tmps.getD t undef) : Sem Value)
        | .cell b t => do loadVar t (← asAddr (a'.tmps.getD b undef))).run P w' = .ok vs.toArray w' := by
      rw [Array.mapM_eq_mapM_toList]
      simp only [Sem.run_map, hvs, Result.andThen_ok]
    have hrun : (results fn a'.tmps).run P w' = .ok (if h : vs.toArray.size = 1 then vs.toArray[0] else .tuple vs.toArray) w' := by
      show (Bind.bind (fn.results.mapM fun (r : ResultVar) => match r with
        | .tmp t => (pure (a'.tmps.getD t undef) : Sem Value)
        | .cell b t => do loadVar t (← asAddr (a'.tmps.getD b undef))) fun vs => Pure.pure (if h : vs.size = 1 then vs[0] else .tuple vs)).run P w' = _
      rw [Sem.run_bind, hm]
      rfl
    refine ⟨hr.defers, _, hrun, _, A', ρ', From c', rfl, ?_, ⟨rfl, rfl, fun t v hv => by simp [find] at hv, fun id b hb => hr.heap id b (hho id b hb), fun id id' b b' q h1 h2 => hr.inj id id' b b' q (hho _ _ h1) (hho _ _ h2), hr.fresh, hr.bound, hr.may, hr.glob⟩, hev, hext, hg⟩
    match us, vs, hR with
    | [], [], _ => exact ⟨#[], by simp, rfl, by simp⟩
    | [u], [v], hR => exact hR.2 0 u v rfl rfl
    | u :: u2 :: r, v :: v2 :: s, hR =>
      have hne : ¬ (v :: v2 :: s).toArray.size = 1 := by simp
      simp only [hne, dite_false]
      exact ⟨_, rfl, by simpa using hR.1, fun k x y hx hy => hR.2 k x y hx (by simpa using hy)⟩
    | [], _ :: _, hR => exact absurd hR.1 (by simp)
    | _ :: _, [], hR => exact absurd hR.1 (by simp)
    | [_], _ :: _ :: _, hR => exact absurd hR.1 (by simp)
    | _ :: _ :: _, [_], hR => exact absurd hR.1 (by simp)
  obtain ⟨st', c', A', ρ', hq, hr, hev, hext, hg⟩ := hp
  cases e with
  | normal => exact fin hq hr hev hext hg
  | ret => exact fin hq hr hev hext hg
  | _ => exact hq.elim

end Go.Abs
