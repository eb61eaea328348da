import Derived.Test.YtnkmmbgbdgonnaaGreatDoorAbsMap
namespace Go.Abs
open Go

variable {P : Program} {M A : Nat → Prop} {ρ : Env} {F : Nat → Prop} {st : St} {a : Act} {w : World}

def partsW (get : Operand → V) : List (Nat × Operand) → Option (List (Nat × W))
  | [] => some []
  | (i, x) :: r => match get x, partsW get r with
    | .w u, some l => some ((i, u) :: l)
    | _, _ => none

def V.bool? : V → Option Bool
  | .w (.one (.t (.val (.bool b)))) => some b
  | _ => none

def ptrs (get : Operand → V) : List Operand → Option (List (Nat × Nat × Nat × Nat))
  | [] => some []
  | x :: r => match get x, ptrs get r with
    | .w (.one (.ptr id sz i j)), some l => some ((id, sz, i, j) :: l)
    | _, _ => none

def lenV (v : V) : Option V :=
  match v with
  | .w (.one c) => (C.len? c).map fun (n : Nat) => V.w (.one (.t (.val (goInt (n : Int)))))
  | _ => none

def evalOp (P : Program) (get : Operand → V) (heap : List (Nat × Blk)) (nid : Nat) (o : Oper) : Option (V × List (Nat × Blk)) :=
  let pure := (evalPure P get o).map fun v => (v, heap)
  match o.op with
  | .move x | .assign x => some (get x, heap)
  | .pick c x y =>
    match (get c).bool? with
    | some b => some (if b then get x else get y, heap)
    | none => none
  | .alloc e => (evalAlloc P e nid).map fun p => (p.1, p.2 :: heap)
  | .box _ x => (evalBox (get x) nid).map fun p => (p.1, p.2 :: heap)
  | .build t ps => match partsW get ps.toList with
    | some l => (evalBuild P t l).map fun v => (v, heap)
    | none => none
  | .buildSlice t len ps => match partsW get ps.toList with
    | some l => (evalBuildSlice P t len l nid).map fun p => (p.1, p.2 :: heap)
    | none => none
  | .load t x => (evalLoad P t (get x) heap).map fun v => (v, heap)
  | .store t x y => (evalStore P t (get x) (get y) heap).map fun h => (.undef, h)
  | .fieldAddr s x f => (evalFieldAddr P s (get x) f).map fun v => (v, heap)
  | .field t x f => match evalField P t (get x) f with
    | some v => some (v, heap)
    | none => pure
  | .indexAddr t x i => (evalIndexAddr P t (get x) (get i)).map fun v => (v, heap)
  | .slice t x lo hi none => match evalSlice P t (get x) (lo.map get) (hi.map get) with
    | some v => some (v, heap)
    | none => pure
  | .makeSlice t l c => (evalMakeSlice P t (get l) (get c) nid).map fun p => (p.1, p.2 :: heap)
  | .extract x k => match get x with
    | .tup ws => (ws[k]?).map fun u => (.w u, heap)
    | _ => none
  | .nilCheck x => match get x with
    | .w (.one (.ptr id sz i j)) => some (.w (.one (.ptr id sz i j)), heap)
    | .w (.one (.clo f caps)) => some (.w (.one (.clo f caps)), heap)
    | _ => pure
  | .makeFunc (.func f) first captured =>
    if first.isEmpty && !captured.isEmpty then
      match ptrs get captured.toList with
      | some l => some (.w (.one (.clo f l)), heap)
      | none => none
    else pure
  | .call c =>
    match c.callee with
    | .builtin .len =>
      match c.args.toList, c.argTypes.toList with
      | [x], [t] =>
        match P.underlying t with
        | some (.slice _) => (lenV (get x)).map fun v => (v, heap)
        | _ => pure
      | _, _ => none
    | .builtin .append =>
      match c.args.toList, c.argTypes.toList with
      | [s, x], [t, t'] => if t = t' then evalAppend P t (get s) (get x) heap nid else none
      | _, _ => none
    | .builtin .copy =>
      match c.args.toList, c.argTypes.toList with
      | [d, s], [t, _] => evalCopy P t (get d) (get s) heap
      | _, _ => none
    | .builtin _ => pure
    | _ => none
  | .lookup t m k ok => (evalLookup P t (get m) (get k) ok heap).map fun v => (v, heap)
  | .convert src dst x => match evalBytes P src dst (get x) heap with
    | some v => some (v, heap)
    | none => pure
  | .binOp .. | .unOp .. | .index .. | .makeInterface .. => pure
  | _ => none

theorem partsW_sound (h : Rel M A ρ F st a w) : ∀ {ps : List (Nat × Operand)} {l : List (Nat × W)}, partsW st.get ps = some l → RPs w A ρ l (ps.map fun p => (p.1, a.eval p.2))
  | [], l, hp => by simp only [partsW, Option.some.injEq] at hp; subst hp; trivial
  | (i, x) :: r, l, hp => by
    simp only [partsW] at hp
    split at hp
    · rename_i u l' hu hl
      simp only [Option.some.injEq] at hp
      subst hp
      have := h.get x
      rw [hu] at this
      exact ⟨rfl, this, partsW_sound h hl⟩
    · simp at hp

theorem V.bool?_spec {v : V} {b : Bool} {x : Value} (h : v.bool? = some b) (hr : RV w A ρ v x) : x = .bool b := by
  unfold V.bool? at h
  split at h
  · simp only [Option.some.injEq] at h
    subst h
    cases hr.1
    rfl
  · simp at h

theorem ptrs_sound (h : Rel M A ρ F st a w) : ∀ {xs : List Operand} {l : List (Nat × Nat × Nat × Nat)}, ptrs st.get xs = some l →
    l.length = xs.length ∧ ∀ (k id sz i j : Nat) (x : Value), l[k]? = some (id, sz, i, j) → (xs.map a.eval)[k]? = some x → RP ρ id sz i j x
  | [], l, hp => by simp only [ptrs, Option.some.injEq] at hp; subst hp; simp
  | x :: r, l, hp => by
    simp only [ptrs] at hp
    split at hp
    · rename_i id sz i j l' hu hl
      simp only [Option.some.injEq] at hp
      subst hp
      obtain ⟨h1, h2⟩ := ptrs_sound h hl
      refine ⟨by simp [h1], fun k id' sz' i' j' y hk hy => ?_⟩
      cases k with
      | zero =>
        simp only [List.getElem?_cons_zero, Option.some.injEq, Prod.mk.injEq] at hk
        obtain ⟨rfl, rfl, rfl, rfl⟩ := hk
        simp only [List.map_cons, List.getElem?_cons_zero, Option.some.injEq] at hy
        subst hy
        have := h.get x
        rw [hu] at this
        exact this.1
      | succ k => exact h2 k id' sz' i' j' y (by simpa using hk) (by simpa using hy)
    · simp at hp

/-- From a run of an instruction to the operation's. -/
theorem Yld.of {F' : Nat → Prop} {s : Sem Value} {st' : St} {v : V} {y : Value} {w' : World} {A' : Nat → Prop} {ρ' : Env} {o : Oper}
    (hx : (execOp a.eval o).run P w = (s.run P w).andThen fun v w' => .ok (.value v) w')
    (hrun : s.run P w = .ok y w') (hr : Rel M A' ρ' F' st' a w') (hv : RV w' A' ρ' v y) (he : Evo M w w') (hext : Ext ρ ρ') (hA : Grow A A' w) :
    Yld M A ρ F' a w ((execOp a.eval o).run P w) st' v :=
  ⟨y, w', A', ρ', .inl (by rw [hx, hrun]; rfl), hr, hv, he, hext, hA⟩

set_option maxHeartbeats 1000000 in
theorem evalOp_sound {nid : Nat} {o : Oper} {v : V} {heap' : List (Nat × Blk)} (he : evalOp P st.get st.heap nid o = some (v, heap')) (hr : Rel M A ρ F st a w) (hn : F nid) :
    Yld M A ρ (Sub F nid) a w ((execOp a.eval o).run P w) { st with heap := heap' } v := by
  have hF : ∀ id, Sub F nid id → F id := fun id h => h.1
  have hst : ({ st with heap := st.heap } : St) = st := rfl
  have pureCase : ∀ {v : V} {heap' : List (Nat × Blk)}, ((evalPure P st.get o).map fun v => (v, st.heap)) = some (v, heap') →
      Yld M A ρ (Sub F nid) a w ((execOp a.eval o).run P w) { st with heap := heap' } v := by
    intro v heap' h
    simp only [Option.map_eq_some_iff, Prod.mk.injEq] at h
    obtain ⟨u, hu, rfl, rfl⟩ := h
    exact evalPure_sound hu hr hF
  obtain ⟨dst, op, ty, pos, after, guard⟩ := o
  cases op with
  | move x =>
    simp only [evalOp, Option.some.injEq, Prod.mk.injEq] at he
    obtain ⟨rfl, rfl⟩ := he
    exact Yld.same hr hF (by simp [execOp]) (hr.get x)
  | assign x =>
    simp only [evalOp, Option.some.injEq, Prod.mk.injEq] at he
    obtain ⟨rfl, rfl⟩ := he
    exact Yld.same hr hF (by simp [execOp]) (hr.get x)
  | pick c x y =>
    simp only [evalOp] at he
    split at he
    · rename_i b hb
      simp only [Option.some.injEq, Prod.mk.injEq] at he
      obtain ⟨rfl, rfl⟩ := he
      have hc := V.bool?_spec hb (hr.get c)
      refine Yld.same (x := if b then a.eval x else a.eval y) hr hF (by simp [execOp, hc, asBool]) ?_
      cases b
      · exact hr.get y
      · exact hr.get x
    · simp at he
  | alloc e =>
    simp only [evalOp, Option.map_eq_some_iff, Prod.mk.injEq] at he
    obtain ⟨⟨u, p⟩, hp, rfl, rfl⟩ := he
    obtain ⟨y, w', A', ρ', h1, h2, h3, h4, h5, h6⟩ := evalAlloc_sound (P := P) hr hn hp
    exact Yld.of (s := Instr.alloc e true (.tuple #[])) (by simp [execOp]) h1 h2 h3 h4 h5 h6
  | box e x =>
    simp only [evalOp, Option.map_eq_some_iff, Prod.mk.injEq] at he
    obtain ⟨⟨u, p⟩, hp, rfl, rfl⟩ := he
    obtain ⟨y, w', A', ρ', h1, h2, h3, h4, h5, h6⟩ := evalBox_sound (P := P) (e := e) hr hn hp (hr.get x)
    exact Yld.of (s := Instr.box e (a.eval x)) (by simp [execOp]) h1 h2 h3 h4 h5 h6
  | build t ps =>
    simp only [evalOp] at he
    split at he
    · rename_i l hl
      simp only [Option.map_eq_some_iff, Prod.mk.injEq] at he
      obtain ⟨u, hu, rfl, rfl⟩ := he
      obtain ⟨y, h1, h2⟩ := evalBuild_sound (P := P) (qs := ps.map fun p => (p.1, a.eval p.2)) hu (by simpa using partsW_sound hr hl)
      exact Yld.same hr hF (by
        show (Bind.bind (Instr.build t (ps.map fun p => (p.1, a.eval p.2))) fun v => Pure.pure (Next.value v)).run P w = _
        rw [Sem.run_bind, h1]
        simp only [Result.andThen_ok, Sem.run_pure]) h2
    · simp at he
  | buildSlice t len ps =>
    simp only [evalOp] at he
    split at he
    · rename_i l hl
      simp only [Option.map_eq_some_iff, Prod.mk.injEq] at he
      obtain ⟨⟨u, p⟩, hp, rfl, rfl⟩ := he
      obtain ⟨y, w', A', ρ', h1, h2, h3, h4, h5, h6⟩ := evalBuildSlice_sound (P := P) (qs := ps.map fun p => (p.1, a.eval p.2)) hr hn hp (by simpa using partsW_sound hr hl)
      exact Yld.of (s := Instr.buildSlice t len (ps.map fun p => (p.1, a.eval p.2))) (by
        show (Bind.bind (Instr.buildSlice t len (ps.map fun p => (p.1, a.eval p.2))) fun v => Pure.pure (Next.value v)).run P w = _
        rw [Sem.run_bind]
        simp only [Sem.run_pure]) h1 h2 h3 h4 h5 h6
    · simp at he
  | load t x =>
    simp only [evalOp, Option.map_eq_some_iff, Prod.mk.injEq] at he
    obtain ⟨u, hu, rfl, rfl⟩ := he
    obtain ⟨y, h1, h2⟩ := evalLoad_sound hr hu (hr.get x)
    exact Yld.same hr hF (by simp [execOp, h1]) h2
  | store t x y =>
    simp only [evalOp, Option.map_eq_some_iff, Prod.mk.injEq] at he
    obtain ⟨h', hh, rfl, rfl⟩ := he
    obtain ⟨w', h1, h2, h3⟩ := evalStore_sound hr hh (hr.get x) (hr.get y)
    exact ⟨undef, w', A, ρ, .inr ⟨by simp [execOp, h1], rfl⟩, h2.sub hF, trivial, h3, Ext.refl _, Grow.refl A w⟩
  | fieldAddr s x f =>
    simp only [evalOp, Option.map_eq_some_iff, Prod.mk.injEq] at he
    obtain ⟨u, hu, rfl, rfl⟩ := he
    obtain ⟨y, h1, h2⟩ := evalFieldAddr_sound hu (hr.get x)
    exact Yld.same hr hF (by simp [execOp, h1]) h2
  | field t x f =>
    simp only [evalOp] at he
    split at he
    · rename_i u hu
      simp only [Option.some.injEq, Prod.mk.injEq] at he
      obtain ⟨rfl, rfl⟩ := he
      obtain ⟨y, h1, h2⟩ := evalField_sound hu (hr.get x)
      exact Yld.same hr hF (by simp [execOp, h1]) h2
    · exact pureCase he
  | indexAddr t x i =>
    simp only [evalOp, Option.map_eq_some_iff, Prod.mk.injEq] at he
    obtain ⟨u, hu, rfl, rfl⟩ := he
    obtain ⟨y, h1, h2⟩ := evalIndexAddr_sound hu (hr.get x) (hr.get i)
    exact Yld.same hr hF (by simp [execOp, h1]) h2
  | slice t x lo hi mx =>
    cases mx with
    | some m => simp [evalOp] at he
    | none =>
      simp only [evalOp] at he
      split at he
      · rename_i u hu
        simp only [Option.some.injEq, Prod.mk.injEq] at he
        obtain ⟨rfl, rfl⟩ := he
        obtain ⟨y, h1, h2⟩ := evalSlice_sound (lo' := lo.map a.eval) (hi' := hi.map a.eval) hu (hr.get x)
          (fun u hu => by cases lo with | none => simp at hu | some z => simp only [Option.map_some, Option.some.injEq] at hu; subst hu; exact ⟨_, rfl, hr.get z⟩) (fun h => by cases lo <;> simp_all)
          (fun u hu => by cases hi with | none => simp at hu | some z => simp only [Option.map_some, Option.some.injEq] at hu; subst hu; exact ⟨_, rfl, hr.get z⟩) (fun h => by cases hi <;> simp_all)
        exact Yld.same hr hF (by simp [execOp, h1]) h2
      · exact pureCase he
  | makeSlice t l c =>
    simp only [evalOp, Option.map_eq_some_iff, Prod.mk.injEq] at he
    obtain ⟨⟨u, p⟩, hp, rfl, rfl⟩ := he
    obtain ⟨y, w', A', ρ', h1, h2, h3, h4, h5, h6⟩ := evalMakeSlice_sound (P := P) hr hn hp (hr.get l) (hr.get c)
    exact Yld.of (s := Instr.makeSlice t (a.eval l) (a.eval c)) (by simp [execOp]) h1 h2 h3 h4 h5 h6
  | extract x k =>
    simp only [evalOp] at he
    split at he
    · rename_i ws hws
      simp only [Option.map_eq_some_iff, Prod.mk.injEq] at he
      obtain ⟨u, hu, rfl, rfl⟩ := he
      have hx := hr.get x
      rw [hws] at hx
      obtain ⟨vs, h1, h2, h3⟩ := hx
      have hk : k < vs.size := by rw [← h2]; exact (List.getElem?_eq_some_iff.1 hu).1
      have hv : vs[k]? = some vs[k] := by simp [hk]
      exact Yld.same hr hF (x := vs[k]) (by simp [execOp, Instr.extract, h1, hk]) (h3 k u _ hu hv)
    · simp at he
  | nilCheck x =>
    simp only [evalOp] at he
    split at he
    · rename_i id sz i j hx
      simp only [Option.some.injEq, Prod.mk.injEq] at he
      obtain ⟨rfl, rfl⟩ := he
      have h := hr.get x
      rw [hx] at h
      have h' := h
      obtain ⟨b, k1, k2⟩ := h.1
      exact Yld.same hr hF (x := a.eval x) (by simp only [execOp, k2, Sem.run_pure]) h'
    · rename_i f caps hx
      simp only [Option.some.injEq, Prod.mk.injEq] at he
      obtain ⟨rfl, rfl⟩ := he
      have h := hr.get x
      rw [hx] at h
      have h' := h
      obtain ⟨vs, k1, k2⟩ := h.1
      exact Yld.same hr hF (x := a.eval x) (by simp only [execOp, k1, Sem.run_pure]) h'
    · exact pureCase he
  | makeFunc fn first captured =>
    cases fn with
    | func f =>
      simp only [evalOp] at he
      split at he
      · rename_i hc
        split at he
        · rename_i l hl
          simp only [Option.some.injEq, Prod.mk.injEq] at he
          obtain ⟨rfl, rfl⟩ := he
          simp only [Bool.and_eq_true, Array.isEmpty_iff] at hc
          obtain ⟨rfl, _⟩ := hc
          obtain ⟨k1, k2⟩ := ptrs_sound hr hl
          refine Yld.same hr hF (x := .func (.func f) #[] (captured.map a.eval)) (by simp [execOp, Instr.makeFunc]) ⟨⟨_, rfl, by simp [k1], fun k id sz i j x hk hx => k2 k id sz i j x hk ?_⟩, rfl⟩
          simpa using hx
        · simp at he
      · exact pureCase he
    | _ => simp [evalOp] at he
  | call c =>
    obtain ⟨callee, args, argTypes⟩ := c
    simp only [evalOp] at he
    split at he
    · split at he
      · rename_i x t hargs htys
        have ea : args = #[x] := by rw [← Array.toArray_toList (xs := args), hargs]
        have et : argTypes = #[t] := by rw [← Array.toArray_toList (xs := argTypes), htys]
        subst ea
        subst et
        split at he
        · rename_i e hu
          simp only [Option.map_eq_some_iff, Prod.mk.injEq] at he
          obtain ⟨u, hu', rfl, rfl⟩ := he
          unfold lenV at hu'
          split at hu'
          · rename_i c hc
            simp only [Option.map_eq_some_iff] at hu'
            obtain ⟨n, hn', rfl⟩ := hu'
            have h := hr.get x
            rw [hc] at h
            obtain ⟨b, cap, hs, _⟩ := C.len?_spec hn' h.1
            exact Yld.same hr hF (x := goInt n) (by simp [execOp, resolve, invoke, builtin, Builtin.len_, run_underlying hu, hs]) ⟨.val rfl, rfl⟩
          · simp at hu'
        · exact pureCase he
      · simp at he
    · split at he
      · rename_i s x t t' hargs htys
        have ea : args = #[s, x] := by rw [← Array.toArray_toList (xs := args), hargs]
        have et : argTypes = #[t, t'] := by rw [← Array.toArray_toList (xs := argTypes), htys]
        subst ea
        subst et
        split at he
        · rename_i e
          subst e
          obtain ⟨y, w', A', ρ', h1, h2, h3, h4, h5, h6⟩ := evalAppend_sound (P := P) (ty := ty) hr hn he (hr.get s) (hr.get x)
          exact Yld.of (s := Builtin.append_ #[t, t] ty #[a.eval s, a.eval x]) (by simp [execOp, resolve, invoke, builtin]) h1 h2 h3 h4 h5 h6
        · simp at he
      · simp at he
    · split at he
      · rename_i d s t t' hargs htys
        have ea : args = #[d, s] := by rw [← Array.toArray_toList (xs := args), hargs]
        have et : argTypes = #[t, t'] := by rw [← Array.toArray_toList (xs := argTypes), htys]
        subst ea
        subst et
        obtain ⟨r, w', h1, h2, h3, h4⟩ := evalCopy_sound (P := P) (t' := t') (ty := ty) hr he (hr.get d) (hr.get s)
        exact Yld.of (s := Builtin.copy_ #[t, t'] ty #[a.eval d, a.eval s]) (by simp [execOp, resolve, invoke, builtin]) h1 (h2.sub hF) h4 h3 (Ext.refl _) (Grow.refl _ _)
      · simp at he
    · exact pureCase he
    · simp at he
  | lookup t m k ok =>
    simp only [evalOp, Option.map_eq_some_iff, Prod.mk.injEq] at he
    obtain ⟨u, hu, rfl, rfl⟩ := he
    obtain ⟨x, h1, h2⟩ := evalLookup_sound hr hu (hr.get m) (hr.get k)
    exact Yld.of (s := Instr.lookup t (a.eval m) (a.eval k) ok) (by simp [execOp]) h1 (hr.sub hF) h2 (Evo.refl _ _) (Ext.refl _) (Grow.refl _ _)
  | binOp => exact pureCase (by simpa [evalOp] using he)
  | unOp => exact pureCase (by simpa [evalOp] using he)
  | convert src dst' x =>
    simp only [evalOp] at he
    split at he
    · rename_i u hu
      simp only [Option.some.injEq, Prod.mk.injEq] at he
      obtain ⟨rfl, rfl⟩ := he
      obtain ⟨y, h1, h2⟩ := evalBytes_sound hr hu (hr.get x)
      exact Yld.of (s := convert src dst' (a.eval x)) (by simp [execOp]) h1 (hr.sub hF) h2 (Evo.refl _ _) (Ext.refl _) (Grow.refl _ _)
    · exact pureCase he
  | index => exact pureCase (by simpa [evalOp] using he)
  | makeInterface => exact pureCase (by simpa [evalOp] using he)
  | _ => simp [evalOp] at he

end Go.Abs
