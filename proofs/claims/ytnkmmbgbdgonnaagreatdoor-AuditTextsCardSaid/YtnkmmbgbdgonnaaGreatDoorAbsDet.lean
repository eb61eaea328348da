import Derived.Test.YtnkmmbgbdgonnaaGreatDoorAbsEh
namespace Go.Abs
open Go

/-! The executor reaches one state: so a contract may be shown with a result that is only described. -/

variable {P : Program} {M A : Nat → Prop} {ρ : Env} {F : Nat → Prop} {st : St} {a : Act} {w : World}

theorem WpOp.det {ops : Array Oper} {i : Nat} {K : St → Nat → Prop} {ctr : Nat} (h : WpOp P ops i K st ctr) : ∃ st' c', K st' c' ∧ WpOp P ops i (fun s c => s = st' ∧ c = c') st ctr := by
  unfold WpOp at h ⊢
  split at h
  · exact ⟨st, ctr, h, ⟨rfl, rfl⟩⟩
  · obtain ⟨hd, h⟩ := h
    split at h
    · exact h.elim
    · rename_i hg
      exact ⟨_, _, h, hd, by simp only [hg]; exact ⟨trivial, trivial⟩⟩
    · rename_i hg
      split at h
      · rename_i g us hc
        obtain ⟨he, v, heap', h1, h2⟩ := h
        exact ⟨_, _, h2, hd, by simp only [hg, hc]; refine ⟨he, v, heap', h1, ?_⟩; first | trivial | exact ⟨rfl, rfl⟩ | exact ⟨trivial, trivial⟩⟩
      · rename_i hc
        split at h
        · rename_i v heap' hev
          exact ⟨_, _, h, hd, by simp only [hg, hc, hev]; exact ⟨trivial, trivial⟩⟩
        · exact h.elim

theorem XOp.toWp {ops : Array Oper} {o : Oper} {i n : Nat} {x : Ro} {g : Option (Nat × Bool)} {ctr : Nat} {tm : TS} {hp : HS} {K : TS → HS → Nat → Prop}
    (hi : ops[i]? = some o) (hx : resolveOp P o = some x) (hgd : GuardOk ops o g) (h : XOp P n ⟨o.dst, g, x⟩ tm hp ctr K) :
    ∃ tm', (∀ t, find tm' t = find tm t) ∧ WpOp P ops i (onSt n K) ⟨n, tm', hp⟩ ctr := by
  unfold XOp at h
  split at h
  · exact h.elim
  · rename_i hd
    simp only at hd
    have skipped : ∀ {tm' : TS}, (∀ t, find tm' t = find tm t) → evalGuard ops o tm' = some false → K (putT tm' o.dst (.tup [])) hp ctr → ∃ tm', (∀ t, find tm' t = find tm t) ∧ WpOp P ops i (onSt n K) ⟨n, tm', hp⟩ ctr := by
      intro tm' he hg' hK
      refine ⟨tm', he, ?_⟩
      unfold WpOp
      simp only [hi]
      refine ⟨hd, ?_⟩
      simp only [hg', putT_eq']
      exact ⟨rfl, hK⟩
    have wanted : ∀ {tm' : TS}, (∀ t, find tm' t = find tm t) → evalGuard ops o tm' = some true → XGo P ⟨o.dst, g, x⟩ tm' hp ctr K → ∃ tm', (∀ t, find tm' t = find tm t) ∧ WpOp P ops i (onSt n K) ⟨n, tm', hp⟩ ctr := by
      intro tm' he hg' hX
      exact ⟨tm', he, XGo.wpOp (st := ⟨n, tm', hp⟩) hi hx hd hg' hX⟩
    rcases hgd with ⟨hg0, rfl⟩ | ⟨j, want, d, hg0, hj, rfl⟩
    · simp only at h
      exact wanted (fun _ => rfl) (by simp [evalGuard, hg0]) h
    · have guardAt : ∀ {tm' : TS} {b : Bool}, find tm' d = some (bV b) → evalGuard ops o tm' = some (b == want) := by
        intro tm' b hf
        simp only [evalGuard, hg0, hj, hf]
      simp only at h
      split at h
      · rename_i b hf
        have lit : ∀ {c : Bool}, b = c → ∀ t, find ((d, bV c) :: tm) t = find tm t := by
          intro c hb t
          subst hb
          simp only [find_cons]
          split
          · rename_i e; subst e; exact hf.symm
          · rfl
        split at h
        · rcases br_elim h with ⟨hb, h⟩ | ⟨hb, h⟩
          · exact wanted (lit hb) (by rw [guardAt (b := true) (by simp [find_cons])]; rfl) h
          · exact skipped (lit hb) (by rw [guardAt (b := false) (by simp [find_cons])]; rfl) h
        · rcases br_elim h with ⟨hb, h⟩ | ⟨hb, h⟩
          · exact skipped (lit hb) (by rw [guardAt (b := true) (by simp [find_cons])]; rfl) h
          · exact wanted (lit hb) (by rw [guardAt (b := false) (by simp [find_cons])]; rfl) h
      · rename_i hf
        exact skipped (fun _ => rfl) (by simp only [evalGuard, hg0, hj, hf]) h
      · exact h.elim

theorem xthen_ne {K : TS → HS → Nat → Prop} {Q : Exit → TS → HS → Nat → Prop} {e : Exit} (h : e ≠ .normal) : xthen K Q e = Q e := by
  cases e <;> first | rfl | exact absurd rfl h
theorem thenQ_ne {K : St → Nat → Prop} {Q : Exit → St → Nat → Prop} {e : Exit} (h : e ≠ .normal) : thenQ K Q e = Q e := by
  cases e <;> first | rfl | exact absurd rfl h
theorem xblock_ne {id : Nat} {Q : Exit → TS → HS → Nat → Prop} {e : Exit} (h : ∀ i, e ≠ .exit i) : xblock id Q e = Q e := by
  cases e <;> first | rfl | exact absurd rfl (h _)
theorem blockQ_ne {id : Nat} {Q : Exit → St → Nat → Prop} {e : Exit} (h : ∀ i, e ≠ .exit i) : blockQ id Q e = Q e := by
  cases e <;> first | rfl | exact absurd rfl (h _)

def Is (st' : St) (c' : Nat) : St → Nat → Prop := fun s c => s = st' ∧ c = c'

theorem XOps.det {ops : Array Oper} {n : Nat} {K : TS → HS → Nat → Prop} : ∀ {l : List Oper} {rs : List Rop} {k : Nat} {tm : TS} {hp : HS} {ctr : Nat},
    (∀ j, ops[k + j]? = l[j]?) → resolveOps P ops l = some rs → XOps P n rs tm hp ctr K →
    ∃ st' c', onSt n K st' c' ∧ ∀ (M A : Nat → Prop) (ρ : Env) (a : Act) (w : World) (Q : Exit → Act → World → Prop), Rel M A ρ (From ctr) ⟨n, tm, hp⟩ a w → (∀ a' w', Post M A ρ w (Is st' c') a' w' → Q .normal a' w') →
      wpOps P ops Q (List.range' k l.length) a w
  | [], rs, k, tm, hp, ctr, hl, hrs, h => by
    simp only [resolveOps, Option.some.injEq] at hrs
    subst hrs
    exact ⟨⟨n, tm, hp⟩, ctr, ⟨rfl, h⟩, fun M A ρ a w Q hr hq => hq _ _ (Post.here hr ⟨rfl, rfl⟩)⟩
  | o :: l, rs, k, tm, hp, ctr, hl, hrs, h => by
    simp only [resolveOps] at hrs
    split at hrs
    · rename_i x l' hx hl'
      have hi : ops[k]? = some o := by simpa using hl 0
      obtain ⟨g, rfl, hgd⟩ := guardOk_of hrs
      simp only [XOps] at h
      obtain ⟨tm', he, hw⟩ := XOp.toWp (ops := ops) hi hx hgd h
      obtain ⟨st1, c1, ⟨hn1, hK1⟩, hw1⟩ := WpOp.det hw
      obtain ⟨n1, tm1, hp1⟩ := st1
      simp only at hn1 hK1
      subst hn1
      obtain ⟨st2, c2, hK2, hw2⟩ := XOps.det (k := k + 1) (fun j => by have := hl (j + 1); rw [show k + 1 + j = k + (j + 1) by omega, this]; simp) hl' hK1
      refine ⟨st2, c2, hK2, fun M A ρ a w Q hr hq => ?_⟩
      rw [List.length_cons, List.range'_succ, wpOps_cons]
      have hr' : Rel M A ρ (From ctr) ⟨n1, tm', hp⟩ a w := hr.forget rfl (fun t v hv => by rw [← he t]; exact hv) (fun _ _ hb => hb)
      refine WpOp.sound hw1 hr' fun a' w' hp' => ?_
      obtain ⟨st', c', A', ρ', ⟨rfl, rfl⟩, h2, h3, h4, h5⟩ := hp'
      exact hw2 M A' ρ' a' w' Q h2 fun a2 w2 hp2 => hq _ _ (hp2.trans h3 h4 h5)
    · simp at hrs

theorem X.det {n : Nat} : ∀ {c : Code} {r : Rc}, resolveC P c = some r → ∀ {Q : Exit → TS → HS → Nat → Prop} {tm : TS} {hp : HS} {ctr : Nat}, X P n r Q tm hp ctr →
    ∃ e st' c', onSt n (Q e) st' c' ∧ Wp P c (fun e2 s c => e2 = e ∧ Is st' c' s c) ⟨n, tm, hp⟩ ctr := by
  intro c
  induction c with
  | skip =>
    intro r hr Q tm hp ctr h
    simp only [resolveC, Option.some.injEq] at hr
    subst hr
    exact ⟨.normal, ⟨n, tm, hp⟩, ctr, ⟨rfl, h⟩, Wp.skip ⟨rfl, rfl, rfl⟩⟩
  | ret =>
    intro r hr Q tm hp ctr h
    simp only [resolveC, Option.some.injEq] at hr
    subst hr
    exact ⟨.ret, ⟨n, tm, hp⟩, ctr, ⟨rfl, h⟩, Wp.ret ⟨rfl, rfl, rfl⟩⟩
  | exit id =>
    intro r hr Q tm hp ctr h
    simp only [resolveC, Option.some.injEq] at hr
    subst hr
    exact ⟨.exit id, ⟨n, tm, hp⟩, ctr, ⟨rfl, h⟩, Wp.exit ⟨rfl, rfl, rfl⟩⟩
  | seq x y ihx ihy =>
    intro r hr Q tm hp ctr h
    simp only [resolveC] at hr
    split at hr
    · rename_i rx ry hx hy
      simp only [Option.some.injEq] at hr
      subst hr
      simp only [X] at h
      obtain ⟨e1, st1, c1, ⟨hn1, h1⟩, w1⟩ := ihx hx h
      obtain ⟨n1, tm1, hp1⟩ := st1
      simp only at hn1 h1
      subst hn1
      by_cases hen : e1 = .normal
      · subst hen
        obtain ⟨e2, st2, c2, h2, w2⟩ := ihy hy h1
        refine ⟨e2, st2, c2, h2, Wp.seq (w1.mono ?_)⟩
        rintro e s c ⟨rfl, rfl, rfl⟩
        exact w2
      · rw [xthen_ne hen] at h1
        refine ⟨e1, ⟨n1, tm1, hp1⟩, c1, ⟨rfl, h1⟩, Wp.seq (w1.mono ?_)⟩
        rintro e s c ⟨rfl, rfl, rfl⟩
        rw [thenQ_ne hen]
        exact ⟨rfl, rfl, rfl⟩
    · simp at hr
  | cond c x y ihx ihy =>
    intro r hr Q tm hp ctr h
    simp only [resolveC] at hr
    split at hr
    · rename_i rx ry hx hy
      simp only [Option.some.injEq] at hr
      subst hr
      simp only [X] at h
      split at h
      · rename_i b hb
        have hb' : ((⟨n, tm, hp⟩ : St).get c).bool? = some b := by rw [← opd_get]; exact hb
        rcases br_elim h with ⟨rfl, h⟩ | ⟨rfl, h⟩
        · obtain ⟨e, s, c', h1, h2⟩ := ihx hx h
          exact ⟨e, s, c', h1, Wp.cond hb' h2⟩
        · obtain ⟨e, s, c', h1, h2⟩ := ihy hy h
          exact ⟨e, s, c', h1, Wp.cond hb' h2⟩
      · exact h.elim
    · simp at hr
  | block id b ih =>
    intro r hr Q tm hp ctr h
    simp only [resolveC] at hr
    split at hr
    · rename_i rb hb
      simp only [Option.some.injEq] at hr
      subst hr
      simp only [X] at h
      obtain ⟨e1, st1, c1, ⟨hn1, h1⟩, w1⟩ := ih hb h
      cases e1 with
      | exit id' =>
        simp only [xblock] at h1
        split at h1
        · rename_i hid
          refine ⟨_, _, _, ⟨hn1, h1⟩, Wp.block (w1.mono ?_)⟩
          rintro e s c ⟨rfl, rfl, rfl⟩
          simp only [blockQ, hid, if_true]
          exact ⟨trivial, rfl, rfl⟩
        · rename_i hid
          refine ⟨_, _, _, ⟨hn1, h1⟩, Wp.block (w1.mono ?_)⟩
          rintro e s c ⟨rfl, rfl, rfl⟩
          simp only [blockQ, hid, if_false]
          exact ⟨trivial, rfl, rfl⟩
      | _ =>
        rw [xblock_ne (by simp)] at h1
        refine ⟨_, st1, c1, ⟨hn1, h1⟩, Wp.block (w1.mono ?_)⟩
        rintro e s c ⟨rfl, rfl, rfl⟩
        rw [blockQ_ne (by simp)]
        exact ⟨rfl, rfl, rfl⟩
    · simp at hr
  | loop b ih =>
    intro r hr Q tm hp ctr h
    simp only [resolveC] at hr
    split at hr
    · rename_i rb hb
      simp only [Option.some.injEq] at hr
      subst hr
      simp only [X] at h
      obtain ⟨I, ⟨S, hok, m, hI⟩, hround⟩ := h
      have key : ∀ (m : Nat) (tm : TS) (hp : HS) (c : Nat), I m tm hp c → ∃ e st' c', onSt n (Q e) st' c' ∧ ∀ (M A : Nat → Prop) (ρ : Env) (a : Act) (w : World) (b' : Frame) (kk : List _) (cs : List _), Rel M A ρ (From c) ⟨n, tm, hp⟩ a w →
          ∃ a' w', Post M A ρ w (Is st' c') a' w' ∧ Arrives P (lone (b'.at a (.code b :: .inLoop b :: kk)) cs w) b' kk cs e a' w' := by
        intro m
        induction m using Nat.strongRecOn with
        | _ m ihm =>
          intro tm hp c hI
          obtain ⟨e1, st1, c1, ⟨hn1, h1⟩, w1⟩ := ih hb (hround m tm hp c hI)
          obtain ⟨n1, tm1, hp1⟩ := st1
          simp only at hn1 h1
          subst hn1
          by_cases hen : e1 = .normal
          · subst hen
            obtain ⟨S', hok', m', hm', hI'⟩ := h1
            obtain ⟨e2, st2, c2, h2, hl2⟩ := ihm m' hm' _ _ _ hI'
            refine ⟨e2, st2, c2, h2, fun M A ρ a w b' kk cs hr => ?_⟩
            obtain ⟨e, a1, w1', ⟨rfl, st', c', A', ρ', ⟨rfl, rfl⟩, r2, r3, r4, r5⟩, harr⟩ := (by
              obtain ⟨e, a1, w1', hp1, harr⟩ := w1 M A ρ a w hr b' (.inLoop b :: kk) cs
              obtain ⟨st', c', A', ρ', ⟨he, hs⟩, r⟩ := hp1
              exact ⟨e, a1, w1', ⟨he, st', c', A', ρ', hs, r⟩, harr⟩ : ∃ e a1 w1', (e = Exit.normal ∧ ∃ st' c' A' ρ', Is ⟨n1, tm1, hp1⟩ c1 st' c' ∧ Rel M A' ρ' (From c') st' a1 w1' ∧ Evo M w w1' ∧ Ext4 ρ ρ' ∧ Grow A A' w) ∧ Arrives P (lone (b'.at a (.code b :: .inLoop b :: kk)) cs w) b' (.inLoop b :: kk) cs e a1 w1')
            obtain ⟨ρ2, hr2, he2⟩ := r2.ren hok'
            obtain ⟨a2, w2, hp2, harr2⟩ := hl2 M A' ρ2 a1 w1' b' kk cs hr2
            exact ⟨a2, w2, hp2.trans r3 (r4.trans he2) r5, .of_steps (Steps.trans harr (.one step_inLoop)) harr2⟩
          · rw [xthen_ne hen] at h1
            refine ⟨e1, ⟨n1, tm1, hp1⟩, c1, ⟨rfl, h1⟩, fun M A ρ a w b' kk cs hr => ?_⟩
            obtain ⟨e, a1, w1', hp1', harr⟩ := w1 M A ρ a w hr b' (.inLoop b :: kk) cs
            obtain ⟨st', c', A', ρ', ⟨rfl, hs⟩, r⟩ := hp1'
            refine ⟨a1, w1', ⟨st', c', A', ρ', hs, r⟩, ?_⟩
            cases e with
            | normal => exact absurd rfl hen
            | _ => exact .pass (x := .inLoop b) rfl (fun _ _ => .inl (by simp)) harr
      obtain ⟨e, st', c', h1, h2⟩ := key m _ _ _ hI
      refine ⟨e, st', c', h1, Wp.weak (st := ⟨n, tm, hp⟩) hok ?_⟩
      intro M A ρ a w hr b' kk cs
      obtain ⟨a', w', hp', harr⟩ := h2 M A ρ a w b' kk cs hr
      obtain ⟨s1, s2, s3, s4, s5, s6⟩ := hp'
      exact ⟨e, a', w', ⟨s1, s2, s3, s4, ⟨rfl, s5⟩, s6⟩, .of_steps (.one step_loop) harr⟩
    · simp at hr
  | region id ops d =>
    intro r hr Q tm hp ctr h
    cases d with
    | true =>
      simp only [resolveC] at hr
      split at hr
      · rename_i l hl
        split at hr
        · rename_i hc
          simp only [Bool.and_eq_true] at hc
          simp only [Option.some.injEq] at hr
          subst hr
          simp only [X] at h
          obtain ⟨tmT, hpT, v, fs, ⟨q0, q1⟩, _, q3, q4, q5⟩ := XDraw.trace (P := P) (ops := ops) (n := n) (base := ctr) (k := 0) (fun j => by simp) hl rfl (by simpa using h)
          simp only [Nat.zero_add] at q1 q5
          refine ⟨.normal, ⟨n, tmT ops.size, hpT ops.size⟩, ctr + 4 * ops.size, ⟨rfl, by simpa using q1⟩, ?_⟩
          intro M A ρ a w hrel
          have hrel0 : Rel M A ρ (From ctr) ⟨n, tmT 0, hpT 0⟩ a w := hrel.forget rfl (fun t u hu => by rw [← q3 t]; exact hu) (fun k b hb => by rw [q4] at hb; exact hb)
          refine draw_sound hc.1 (fun i o ho => q5 i o (by simpa using ho)) (fun i o ho e he => ?_) q0 hrel0 ?_
          · have := edgesLt_spec hc.2 i (edgesOf o) (by simp [ho]) e he
            omega
          · rintro a' w' ⟨st', c', A', ρ', ⟨rfl, rfl⟩, h2⟩
            exact ⟨_, _, A', ρ', ⟨rfl, rfl, rfl⟩, h2⟩
        · simp at hr
      · simp at hr
    | false =>
      simp only [resolveC] at hr
      split at hr
      · rename_i l hl
        simp only [Option.some.injEq] at hr
        subst hr
        simp only [X] at h
        obtain ⟨st', c', h1, h2⟩ := XOps.det (P := P) (ops := ops) (k := 0) (l := ops.toList) (fun j => by simp) hl h
        refine ⟨.normal, st', c', h1, fun M A ρ a w hrel => wp_region ?_⟩
        have := h2 M A ρ a w (fun e a' w' => Post M A ρ w (fun s c => e = .normal ∧ Is st' c' s c) a' w') hrel (fun a' w' hp => by
          obtain ⟨s1, s2, s3, s4, s5, s6⟩ := hp
          exact ⟨s1, s2, s3, s4, ⟨rfl, s5⟩, s6⟩)
        rw [List.range_eq_range']
        simpa using this
      · simp at hr
  | _ => intro r hr; simp [resolveC] at hr

/-- What a function ends with: results that are frozen, and described. -/
def XGood (P : Program) (rs : List ResultVar) (Good : List W → Prop) : Exit → TS → HS → Nat → Prop
  | .normal, tm, hp, _ | .ret, tm, hp, _ => ∃ us ts, resultsOf P hp tm rs = some us ∧ optL (frzWP hp) us = some ts ∧ Good ts
  | _, _, _, _ => False

/-- A CONTRACT whose result is only described. -/
theorem fn_good {f : FuncId} {fn : Func} {c : Code} {r : Rc} {args : List W} {n : Nat} {rs : List ResultVar} {Good : List W → Prop} (hf : P.funcs[f]? = some fn) (hb : fn.body = some c) (hr : resolveC P c = some r)
    (hn : fn.ntmps = n) (hrs : fn.results.toList = rs) (hl : args.length ≤ n) (h : X P n r (XGood P rs Good) (initTmps 0 args) [] 4) : ∃ ts, Fn P f args [] (resV ts) [] ∧ (resV ts).isT = true ∧ Good ts := by
  subst hn
  subst hrs
  obtain ⟨e, st', c', ⟨hn', hq⟩, hw⟩ := X.det hr h
  obtain ⟨n', tm', hp'⟩ := st'
  simp only at hn' hq
  subst hn'
  have main : ∀ us ts, isEnd e → resultsOf P hp' tm' fn.results.toList = some us → optL (frzWP hp') us = some ts → Good ts → ∃ ts, Fn P f args [] (resV ts) [] ∧ (resV ts).isT = true ∧ Good ts := by
    intro vs ts he hus hts hg
    refine ⟨ts, ?_, resV_isT ?_, hg⟩
    · intro w A ρ xs hH hxs
      refine calls_of_wp hf hb ?_
      have hl' : args.length = xs.size := by simpa using hxs.1
      have hrel : Rel (fun b => Own ρ [] b ∨ w.heap.size ≤ b) A ρ (From 4) ⟨fn.ntmps, initTmps 0 args, []⟩ { tmps := xs ++ Array.replicate (fn.ntmps - xs.size) undef, defers := [] } w := by
        refine ⟨by simp; omega, rfl, fun t v hv => ?_, hH.heap, hH.inj, hH.fresh, hH.bound, hH.may, hH.glob⟩
        obtain ⟨_, u, hu, rfl⟩ := find_initTmps _ _ _ _ hv
        simp only [Nat.sub_zero] at hu
        have ht : t < xs.size := by rw [← hl']; exact (List.getElem?_eq_some_iff.1 hu).1
        have hxx : xs.toList[t]? = some xs[t] := by simp [ht]
        have := hxs.2 t u _ hu hxx
        have e : (xs ++ Array.replicate (fn.ntmps - xs.size) undef).getD t undef = xs[t] := by simp [Array.getD_eq_getD_getElem?, Array.getElem?_append_left ht, ht]
        rw [e]
        exact this
      refine wp_mono (hw _ A ρ _ w hrel) ?_
      rintro e2 a' w' ⟨st2, c2, A', ρ', ⟨rfl, rfl, rfl⟩, hr', hev, hext, hg'⟩
      obtain ⟨ws, hvs, hR⟩ := resultsOf_sound hr' hus
      have hm : (fn.results.mapM fun (r : ResultVar) => match r with
          | .tmp t => (pure (a'.tmps.getD t undef) : Sem Value)
          | .cell b t => do loadVar t (← asAddr (a'.tmps.getD b undef))).run P w' = .ok ws.toArray w' := by
        rw [Array.mapM_eq_mapM_toList]
        simp only [Sem.run_map]
        exact (congrArg (fun r : Result (List Value) => Result.andThen r fun a w' => Result.ok a.toArray w') hvs).trans rfl
      have hrun : (results fn a'.tmps).run P w' = .ok (if h : ws.toArray.size = 1 then ws.toArray[0] else .tuple ws.toArray) w' := by
        show (Bind.bind (fn.results.mapM fun (r : ResultVar) => match r with
          | .tmp t => (pure (a'.tmps.getD t undef) : Sem Value)
          | .cell b t => do loadVar t (← asAddr (a'.tmps.getD b undef))) fun vs => Pure.pure (if h : vs.size = 1 then vs[0] else .tuple vs)).run P w' = _
        rw [Sem.run_bind, hm]
        rfl
      have hB : ∀ id blk b, find hp' id = some blk → ρ' id = some (.cel b) → ¬ A b := by
        intro id blk b hf hρ hA
        have hM := (Rel.own hr' hf hρ).1
        rcases hM with ⟨id', blk', hf', _⟩ | hM
        · simp [find] at hf'
        · have := hH.bound b hA
          omega
      have hlen := optL_len hts
      have one : ∀ (k : Nat) (u : W) (y : Value), ts[k]? = some u → (∀ v, vs[k]? = some v → RW w' A' ρ' v y) → RW w' A ρ u y := by
        intro k u y hu hv
        obtain ⟨v, hv', hfv⟩ := optL_get hts k u hu
        exact frzW_sound hr' (fun b hb => hg'.1 b hb) hB hfv (hv v hv') ρ
      have fin : a'.defers = [] ∧ ∃ v, (results fn a'.tmps).run P w' = .ok v w' ∧ ∃ x A' ρ' F', Ending.returned v = .returned x ∧ RV w' A' ρ' (resV ts) x ∧ HR (fun b => Own ρ [] b ∨ w.heap.size ≤ b) A' ρ' F' [] w' ∧
          Evo (fun b => Own ρ [] b ∨ w.heap.size ≤ b) w w' ∧ Ext4 ρ ρ' ∧ Grow A A' w := by
        refine ⟨hr'.defers, _, hrun, _, A, ρ, From 4, rfl, ?_, ⟨rfl, rfl, fun t v hv => by simp [find] at hv, fun id blk hb => by simp [find] at hb, fun id id' b b' q hb => by simp [find] at hb, hH.fresh, fun b hb => Nat.lt_of_lt_of_le (hH.bound b hb) hev.size, fun b hb => .inr (Nat.le_trans hev.size hb), hH.glob.evo hev (fun _ _ h => h)⟩, hev, Ext4.refl _, Grow.refl _ _⟩
        match vs, ws, ts, hR, hlen, one with
        | [], [], [], _, _, _ => exact ⟨#[], by simp, rfl, by simp⟩
        | [u], [v], [t], hR, _, one => exact one 0 t v rfl (fun v' hv' => by simp only [List.getElem?_cons_zero, Option.some.injEq] at hv'; subst hv'; exact hR.2 0 u v rfl rfl)
        | u :: u2 :: r, v :: v2 :: s, t :: t2 :: q, hR, hlen, one =>
          have hne : ¬ (v :: v2 :: s).toArray.size = 1 := by simp
          simp only [hne, dite_false]
          refine ⟨_, rfl, ?_, fun k x y hx hy => one k x y hx (fun v' hv' => hR.2 k v' y hv' (by simpa using hy))⟩
          have := hR.1
          simp at this hlen ⊢
          omega
        | [], _ :: _, _, hR, _, _ => exact absurd hR.1 (by simp)
        | _ :: _, [], _, hR, _, _ => exact absurd hR.1 (by simp)
        | [_], _ :: _ :: _, _, hR, _, _ => exact absurd hR.1 (by simp)
        | _ :: _ :: _, [_], _, hR, _, _ => exact absurd hR.1 (by simp)
        | [], [], _ :: _, _, hlen, _ => simp at hlen
        | [_], [_], [], _, hlen, _ => simp at hlen
        | [_], [_], _ :: _ :: _, _, hlen, _ => simp at hlen
        | _ :: _ :: _, _ :: _ :: _, [], _, hlen, _ => simp at hlen
        | _ :: _ :: _, _ :: _ :: _, [_], _, hlen, _ => simp at hlen
      rcases he with rfl | rfl
      · exact fin
      · exact fin
    · rw [List.all_eq_true]
      intro u hu
      obtain ⟨k', hk', hke⟩ := List.getElem_of_mem hu
      obtain ⟨v, _, hfv⟩ := optL_get hts k' u (by rw [← hke]; simp [hk'])
      exact frzWP_isT hfv
  cases e with
  | normal => obtain ⟨us, ts, h1, h2, h3⟩ := hq; exact main us ts (.inl rfl) h1 h2 h3
  | ret => obtain ⟨us, ts, h1, h2, h3⟩ := hq; exact main us ts (.inr rfl) h1 h2 h3
  | _ => exact hq.elim

end Go.Abs
