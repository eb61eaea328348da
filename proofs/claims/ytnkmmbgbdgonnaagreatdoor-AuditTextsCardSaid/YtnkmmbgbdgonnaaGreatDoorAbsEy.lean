import Derived.Test.YtnkmmbgbdgonnaaGreatDoorAbsEx
namespace Go.Abs
open Go

variable {P : Program} {M A : Nat → Prop} {ρ : Env} {F : Nat → Prop} {st : St} {a : Act} {w : World}

def treesOf : List C → Option (List T)
  | [] => some []
  | .t x :: r => (treesOf r).map (x :: ·)
  | _ :: _ => none

/-- A receiver made of trees. -/
def recv (v : V) : Option (Bool × List T) :=
  match v with
  | .w (.one (.t t)) => some (false, [t])
  | .w (.agg cs) => (treesOf cs).map fun ts => (true, ts)
  | _ => none

/-- Operations that the machine itself does not know. -/
def EX {α : Type} (P : Program) (bad : α) (op : Op) (ty : TypeId) (g : Opd → V) (hp : HS) (ctr : Nat) (K : V → HS → α) : α :=
  let other := match evalOp P (fun x => g (opd x)) hp ctr (bare op ty) with
    | some (v, hp') => frc v fun v => K v hp'
    | none => match evalPure P (fun x => g (opd x)) (bare op ty) with
      | some v => frc v fun v => K v hp
      | none => bad
  match op with
  | .makeMap _ none => K (.w (.one (.map ctr))) ((ctr, .mp [] 0) :: hp)
  | .mapUpdate t m k x => match g (opd m), (g (opd k)).val?, g (opd x) with
    | .w (.one (.map id)), some kv, .w (.one c) => match P.underlying t, find hp id with
      | some (.map kt _), some (.mp es clock) => match keyAt P false kt kv es with
        | some (some i) => match nth es i with
          | some (old, _, born) => sel (Instr.sameBits 10000 old kv) (frcL (es.set i (kv, c, born)) fun es' => frcL (upd hp id (.mp es' clock)) fun h => K .undef h) bad
          | none => bad
        | some none => frcL (es ++ [(kv, c, clock)]) fun es' => frN (clock + 1) fun q => frcL (upd hp id (.mp es' q)) fun h => K .undef h
        | none => bad
      | _, _ => bad
    | _, _, _ => bad
  | .lookup t m k ok => match g (opd m), (g (opd k)).val? with
    | .w (.one (.map id)), some kv => match P.underlying t, find hp id with
      | some (.map kt et), some (.mp es _) => match keyAt P es.isEmpty kt kv es with
        | some (some i) => match nth es i with
          | some (_, c, _) => frcC c fun c => K (match ok with | true => .tup [.one c, bT true] | false => .w (.one c)) hp
          | none => bad
        | some none => match zero1 P et with
          | some z => frcC (.t (.val z)) fun c => K (match ok with | true => .tup [.one c, bT false] | false => .w (.one c)) hp
          | none => bad
        | none => bad
      | _, _ => bad
    | _, _ => bad
  | .call ⟨.builtin .len, args, tys⟩ => match args.toList, tys.toList with
    | [x], [t] => match g (opd x) with
      | .w (.one (.map id)) => match P.underlying t, find hp id with
        | some (.map _ _), some (.mp es _) => frN es.length fun n => K (iV .i64 (.ofNat n)) hp
        | _, _ => bad
      | _ => other
    | _, _ => other
  | .call ⟨.builtin .delete, args, tys⟩ => match args.toList, tys.toList with
    | [m, k], [t, _] => match g (opd m), (g (opd k)).val? with
      | .w (.one (.map id)), some kv => match P.underlying t, find hp id with
        | some (.map kt _), some (.mp es clock) => match keyAt P es.isEmpty kt kv es with
          | some (some i) => frcL (es.eraseIdx i) fun es' => frcL (upd hp id (.mp es' clock)) fun h => K (.tup []) h
          | some none => K (.tup []) hp
          | none => bad
        | _, _ => bad
      | _, _ => bad
    | _, _ => bad
  | .range t x => match g (opd x) with
    | .w (.one (.map id)) => match P.underlying t, find hp id with
      | some (.map _ _), some (.mp _ _) => K (.w (.one (.it id))) hp
      | _, _ => bad
    | _ => bad
  | .next x false => match g (opd x) with
    | .w (.one (.it id)) => match find hp id with
      | some (.mp [] _) => K (.tup [bT false]) hp
      | _ => bad
    | _ => bad
  | .makeFunc (.func f) first caps => match first.toList, caps.toList with
    | [x], [] => match recv (g (opd x)) with
      | some (b, ts) => K (.w (.one (.bnd f b ts))) hp
      | none => bad
    | _, _ => other
  | .call ⟨.builtin .append, args, tys⟩ => match args.toList, tys.toList with
    | [s, x], [t, t'] => match P.underlying t' with
      | some (.int _) => match g (opd s), (g (opd x)).int?, P.underlying t with
        | .w (.one (.t (.val (.slice none 0 0)))), some (.i64, .ofNat (n + 1)), some (.slice e) => match elemT P e, zeroC P e with
          | some (size, bytes), some z => sel (Nat.beq z.length size && Nat.ble ((n + 1) * bytes) 70368744177664 && Nat.ble (n + 1) 70368744177664)
              (frcL (List.replicate (n + 1) z) fun zs => K (.w (.one (.own ctr size 0 (n + 1)))) ((ctr, .row size zs) :: hp)) bad
          | _, _ => bad
        | _, _, _ => bad
      | _ => other
    | _, _ => other
  | .binOp bo t x y _ => match g (opd x), g (opd y), P.underlying t with
    | .w (.one (.ptr _ _ _ _)), .w (.one (.t (.val (.pointer none)))), some (.pointer _) => match bo with
      | .eql => K (bV false) hp
      | .neq => K (bV true) hp
      | _ => bad
    | _, _, _ => other
  | _ => other

/-- What the operation yields, in any world that stands for the state. -/
def RunV (P : Program) (n : Nat) (o : Oper) (tm : Tr) (hp : HS) (ctr : Nat) (v : V) (hp' : HS) : Prop :=
  ∀ (M A : Nat → Prop) (ρ : Env) (a : Act) (w : World) (L : TS), TmOk tm L → Rel M A ρ (From ctr) ⟨n, L, hp⟩ a w → Yld M A ρ (From (ctr + 4)) a w ((execOp a.eval o).run P w) ⟨n, L, hp'⟩ v

theorem from_sub {ctr : Nat} : ∀ id, From (ctr + 4) id → From ctr id := fun id h => by simp only [From] at *; omega

theorem get_eq {tm : Tr} {L : TS} (hL : TmOk tm L) (n : Nat) (hp : HS) : (fun x => gT tm (opd x)) = St.get ⟨n, L, hp⟩ := by
  funext x
  rw [gT_eq hL]
  exact opd_get ⟨n, L, hp⟩ x

theorem RV.at {tm : Tr} {L : TS} {n : Nat} {hp : HS} (hL : TmOk tm L) (hr : Rel M A ρ F ⟨n, L, hp⟩ a w) (x : Operand) : RV w A ρ (gT tm (opd x)) (a.eval x) := by
  have := hr.get x
  rw [← congrFun (get_eq hL n hp) x] at this
  exact this

theorem evalOp_runV {n : Nat} {o : Oper} {tm : Tr} {hp hp' : HS} {ctr : Nat} {v : V} (h : evalOp P (fun x => gT tm (opd x)) hp ctr (bare o.op o.type) = some (v, hp')) : RunV P n o tm hp ctr v hp' := by
  intro M A ρ a w L hL hr
  rw [evalOp_bare, get_eq hL n hp] at h
  obtain ⟨x, w', A', ρ', h1, h2, h3⟩ := evalOp_sound (st := ⟨n, L, hp⟩) h hr (Nat.le_refl ctr)
  exact ⟨x, w', A', ρ', h1, h2.sub sub_from, h3⟩

theorem evalPure_runV {n : Nat} {o : Oper} {tm : Tr} {hp : HS} {ctr : Nat} {v : V} (h : evalPure P (fun x => gT tm (opd x)) (bare o.op o.type) = some v) : RunV P n o tm hp ctr v hp := by
  intro M A ρ a w L hL hr
  rw [evalPure_bare, get_eq hL n hp] at h
  exact evalPure_sound (st := ⟨n, L, hp⟩) h hr from_sub

theorem treesOf_spec : ∀ {cs : List C} {ts : List T}, treesOf cs = some ts → cs = ts.map .t
  | [], ts, h => by simp only [treesOf, Option.some.injEq] at h; subst h; rfl
  | .t x :: r, ts, h => by
    simp only [treesOf, Option.map_eq_some_iff] at h
    obtain ⟨l, hl, rfl⟩ := h
    simp [treesOf_spec hl]
  | .own .. :: _, ts, h => by simp [treesOf] at h
  | .ptr .. :: _, ts, h => by simp [treesOf] at h
  | .roe .. :: _, ts, h => by simp [treesOf] at h
  | .clo .. :: _, ts, h => by simp [treesOf] at h
  | .map _ :: _, ts, h => by simp [treesOf] at h
  | .it _ :: _, ts, h => by simp [treesOf] at h
  | .bnd .. :: _, ts, h => by simp [treesOf] at h
  | .any :: _, ts, h => by simp [treesOf] at h

theorem recv_spec {v : V} {b : Bool} {ts : List T} {x : Value} (h : recv v = some (b, ts)) (hr : RV w A ρ v x) : RF w A b ts x := by
  unfold recv at h
  split at h
  · simp only [Option.some.injEq, Prod.mk.injEq] at h
    obtain ⟨rfl, rfl⟩ := h
    exact ⟨_, rfl, hr.1, hr.2⟩
  · simp only [Option.map_eq_some_iff, Prod.mk.injEq] at h
    obtain ⟨l, hl, rfl, rfl⟩ := h
    have := treesOf_spec hl
    subst this
    obtain ⟨vs, rfl, h1, h2⟩ := hr
    exact ⟨vs, rfl, by simpa using h1, fun k t y ht hy => h2 k (.t t) y (by simp [ht]) hy⟩
  · simp at h

theorem run_append_zeros {t t' ty e : TypeId} {ik : IntKind} {i : TypeInfo} {z : Value} (ht : P.underlying t = some (.slice e)) (ht' : P.underlying t' = some (.int ik)) (hi : P.info? e = some i) (hz : i.zero = some z)
    (n : Nat) (h0 : 0 < n) (hsz : 0 < i.size) (hn : n ≤ 70368744177664) (h48 : n * i.bytes ≤ 70368744177664) (w : World) :
    (Builtin.append_ #[t, t'] ty #[.slice none 0 0, .int .i64 (n : Int)]).run P w =
      .ok (.slice (some ⟨w.heap.size, 0, none⟩) n (grownCap w n 0 e)) (w.drew.alloc (.cells (Builtin.zeroCells z.cells n ++ Builtin.zeroCells z.cells (grownCap w n 0 e - n)) e)) := by
  have hn0 : n ≠ 0 := by omega
  have hs0 : i.size ≠ 0 := by omega
  have h63' : ¬ (9223372036854775807 < (n : Int)) := by omega
  have h48' : ¬ (281474976710656 < Builtin.nextslicecap n 0 * i.bytes) := by rw [nextslicecap_zero h0]; omega
  have hw : IntKind.i64.wrap (n : Int) = (n : Int) := wrap_i64 (by omega) (by omega)
  have hneg : ¬ ((n : Int) < 0) := by omega
  have hbig : ¬ (281474976710656 < (n : Int) * (i.bytes : Int)) := by rw [← Int.natCast_mul]; generalize n * i.bytes = q at h48; omega
  simp [Builtin.append_, run_underlying ht, run_underlying ht', sizeOf, typeInfo, zeroValue, hi, hz, asInt, asIntOf, hw, hneg, hbig, hn0, hs0, h63', h48', Question.forced, run_firstCells_none, newRow, grownCap]
  intro h
  rcases Nat.mul_eq_zero.1 h with h | h
  · exact absurd h hn0
  · exact absurd h hs0

set_option maxHeartbeats 1000000
theorem EX_sound {n : Nat} {o : Oper} {tm : Tr} {hp : HS} {ctr : Nat} {K : V → HS → Bool} (h : EX P false o.op o.type (gT tm) hp ctr K = true) : ∃ v hp', RunV P n o tm hp ctr v hp' ∧ K v hp' = true := by
  obtain ⟨op, hop⟩ : ∃ op, op = o.op := ⟨_, rfl⟩
  have other : (match evalOp P (fun x => gT tm (opd x)) hp ctr (bare o.op o.type) with
    | some (v, hp') => frc v fun v => K v hp'
    | none => match evalPure P (fun x => gT tm (opd x)) (bare o.op o.type) with
      | some v => frc v fun v => K v hp
      | none => false) = true → ∃ v hp', RunV P n o tm hp ctr v hp' ∧ K v hp' = true := by
    intro h
    split at h
    · rename_i v hp' he
      rw [frc_eq] at h
      exact ⟨v, hp', evalOp_runV he, h⟩
    · split at h
      · rename_i v he
        rw [frc_eq] at h
        exact ⟨v, hp, evalPure_runV he, h⟩
      · simp at h
  have hexec : ∀ (ev : Operand → Value), execOp ev o = execOp ev (bare op o.type) := fun ev => by rw [hop, execOp_bare]
  rw [← hop] at h other
  unfold EX at h
  simp only at h
  split at h
  · -- makeMap
    rename_i t
    refine ⟨_, _, ?_, h⟩
    intro M A ρ a w L hL hr
    obtain ⟨r1, r2⟩ := Rel.newMap (st := ⟨n, L, hp⟩) hr (Nat.le_refl ctr)
    refine ⟨.map (some w.heap.size), w.alloc (.map #[] 0), _, _, .inl ?_, r1.sub sub_from, ⟨⟨w.heap.size, by simp [updE], rfl⟩, rfl⟩, Evo.alloc M w _, r2, Grow.new A w⟩
    rw [hexec]
    simp [execOp, Instr.makeMap]
  · -- mapUpdate
    rename_i t m k x
    split at h
    · rename_i id kv c hm hk hx
      split at h
      · rename_i kt et es clock hu hf
        split at h
        · rename_i i hki
          split at h
          · rename_i old c0 born hni
            obtain ⟨hsb, h⟩ := sel_true h
            rw [frcL_eq, frcL_eq] at h
            rw [nth_eq] at hni
            refine ⟨_, _, ?_, h⟩
            intro M A ρ a w L hL hr
            have vm := RV.at hL hr m
            rw [hm] at vm
            have vk := V.val?_spec hk (RV.at hL hr k)
            have vx := RV.at hL hr x
            rw [hx] at vx
            obtain ⟨b, en, q1, q2, q3, q4, q5⟩ := map_of hr hf vm
            obtain ⟨c1, o2, c2, c3, c4⟩ := keyAt_run hki (hb_keys (id := id) (clock := clock) q4 q5) w
            cases o2 with
            | none => simp at c3
            | some p =>
              obtain ⟨j, v⟩ := p
              simp only [Option.map_some, Option.some.injEq] at c3
              subst c3
              obtain ⟨e0, e1, e2, e3, _⟩ := q5 j old c0 born hni
              have hi : j < en.size := (Array.getElem?_eq_some_iff.1 e1).1
              have he0 : en[j] = e0 := by simpa [hi] using e1
              obtain ⟨r1, r2⟩ := Rel.setMap (st := ⟨n, L, hp⟩) (clock' := clock) (es' := es.set j (kv, c, born)) (en' := en.modify j fun e => { e with key := kv, val := a.eval x }) hr hf q1 q3 (by simp [q4]) (fun i k' c' n' hi' => by
                by_cases hij : j = i
                · subst hij
                  rw [List.getElem?_set_self (by rw [← q4]; exact hi)] at hi'
                  simp only [Option.some.injEq, Prod.mk.injEq] at hi'
                  obtain ⟨rfl, rfl, rfl⟩ := hi'
                  refine ⟨{ e0 with key := kv, val := a.eval x }, by simp [Array.getElem?_modify, e1], rfl, e3, vx.1, vx.2⟩
                · rw [List.getElem?_set_ne hij] at hi'
                  obtain ⟨e, g1, g2, g3, g4, g5⟩ := q5 i k' c' n' hi'
                  exact ⟨e, by simp [Array.getElem?_modify, hij, g1], g2, g3, g4, g5⟩)
              refine ⟨undef, _, A, ρ, .inr ⟨?_, rfl⟩, r1.sub from_sub, trivial, r2, Ext.refl _, Grow.refl _ _⟩
              have hks : (Instr.keyThatStays (((en[j]?).map (·.key)).getD kv) kv).run P w = .ok kv w := by
                simp [Instr.keyThatStays, e1, e2, hsb]
              rw [hexec]
              simp only [execOp, Instr.mapUpdate, Sem.run_bind, run_underlying hu, Result.andThen_ok, q2, rGet q3, vk, c1, c2, hks, rSet _ q3, Sem.run_pure]
          · simp at h
        · rename_i hki
          rw [frcL_eq, frN_eq, frcL_eq] at h
          refine ⟨_, _, ?_, h⟩
          intro M A ρ a w L hL hr
          have vm := RV.at hL hr m
          rw [hm] at vm
          have vk := V.val?_spec hk (RV.at hL hr k)
          have vx := RV.at hL hr x
          rw [hx] at vx
          obtain ⟨b, en, q1, q2, q3, q4, q5⟩ := map_of hr hf vm
          obtain ⟨c1, o2, c2, c3, c4⟩ := keyAt_run hki (hb_keys (id := id) (clock := clock) q4 q5) w
          cases o2 with
          | some p => simp at c3
          | none =>
            obtain ⟨r1, r2⟩ := Rel.setMap (st := ⟨n, L, hp⟩) (clock' := clock + 1) (es' := es ++ [(kv, c, clock)]) (en' := en.push { key := kv, val := a.eval x, born := clock }) hr hf q1 q3 (by simp [q4]) (fun i k' c' n' hi' => by
              by_cases hlt : i < es.length
              · rw [List.getElem?_append_left hlt] at hi'
                obtain ⟨e, g1, g2, g3, g4, g5⟩ := q5 i k' c' n' hi'
                exact ⟨e, by rw [Array.getElem?_push, if_neg (by omega)]; exact g1, g2, g3, g4, g5⟩
              · rw [List.getElem?_append_right (by omega)] at hi'
                have hz : i - es.length = 0 := by
                  have := (List.getElem?_eq_some_iff.1 hi').1
                  simp at this
                  omega
                rw [hz] at hi'
                simp only [List.getElem?_cons_zero, Option.some.injEq, Prod.mk.injEq] at hi'
                obtain ⟨rfl, rfl, rfl⟩ := hi'
                exact ⟨⟨kv, a.eval x, clock⟩, by rw [Array.getElem?_push, if_pos (by omega)], rfl, rfl, vx.1, vx.2⟩)
            refine ⟨undef, _, A, ρ, .inr ⟨?_, rfl⟩, r1.sub from_sub, trivial, r2, Ext.refl _, Grow.refl _ _⟩
            rw [hexec]
            simp only [execOp, Instr.mapUpdate, Sem.run_bind, run_underlying hu, Result.andThen_ok, q2, rGet q3, vk, c1, c2, rSet _ q3, Sem.run_pure]
        · simp at h
      · simp at h
    · simp at h
  · -- lookup
    rename_i t m k ok
    split at h
    · rename_i id kv hm hk
      split at h
      · rename_i kt et es clock hu hf
        split at h
        · rename_i i hki
          split at h
          · rename_i k0 c born hni
            rw [frcC_eq] at h
            rw [nth_eq] at hni
            refine ⟨_, _, ?_, h⟩
            intro M A ρ a w L hL hr
            have vm := RV.at hL hr m
            rw [hm] at vm
            have vk := V.val?_spec hk (RV.at hL hr k)
            obtain ⟨b, en, q1, q2, q3, q4, q5⟩ := map_of hr hf vm
            obtain ⟨c1, o2, c2, c3, c4⟩ := keyAt_run hki (hb_keys (id := id) (clock := clock) q4 q5) w
            cases o2 with
            | none => simp at c3
            | some p =>
              obtain ⟨j, v⟩ := p
              simp only [Option.map_some, Option.some.injEq] at c3
              subst c3
              obtain ⟨e0, e1, e2, e3, e4, e5⟩ := q5 j k0 c born hni
              obtain ⟨e', g1, rfl⟩ := c4 j v rfl
              rw [e1] at g1
              simp only [Option.some.injEq] at g1
              subst g1
              have hrun : (execOp a.eval o).run P w = .ok (.value (if ok then .tuple #[e0.val, .bool true] else e0.val)) w := by
                rw [hexec]
                simp only [execOp, Instr.lookup, Sem.run_bind, run_underlying hu, Result.andThen_ok, q2, rGet q3, Sem.run_pure, vk, isEmpty_of q4, c1, c2]
              refine ⟨_, w, A, ρ, .inl hrun, hr.sub from_sub, ?_, Evo.refl _ _, Ext.refl _, Grow.refl _ _⟩
              cases ok with
              | true => exact tup2 e4 e5
              | false => exact ⟨e4, e5⟩
          · simp at h
        · rename_i hki
          split at h
          · rename_i z hz
            rw [frcC_eq] at h
            refine ⟨_, _, ?_, h⟩
            intro M A ρ a w L hL hr
            have vm := RV.at hL hr m
            rw [hm] at vm
            have vk := V.val?_spec hk (RV.at hL hr k)
            obtain ⟨b, en, q1, q2, q3, q4, q5⟩ := map_of hr hf vm
            obtain ⟨c1, o2, c2, c3, c4⟩ := keyAt_run hki (hb_keys (id := id) (clock := clock) q4 q5) w
            cases o2 with
            | some p => simp at c3
            | none =>
              obtain ⟨hzr, hz1⟩ := zero1_run hz w
              have hrun : (execOp a.eval o).run P w = .ok (.value (if ok then .tuple #[z, .bool false] else z)) w := by
                rw [hexec]
                simp only [execOp, Instr.lookup, Sem.run_bind, run_underlying hu, Result.andThen_ok, q2, rGet q3, Sem.run_pure, vk, isEmpty_of q4, c1, c2, hzr]
              refine ⟨_, w, A, ρ, .inl hrun, hr.sub from_sub, ?_, Evo.refl _ _, Ext.refl _, Grow.refl _ _⟩
              cases ok with
              | true => exact tup2 (RT.val hz1) hz1
              | false => exact ⟨RT.val hz1, hz1⟩
          · simp at h
        · simp at h
      · simp at h
    · simp at h
  · -- len
    rename_i args tys
    split at h
    · rename_i x t hargs htys
      split at h
      · rename_i id hx
        split at h
        · rename_i kt et es clock hu hf
          rw [frN_eq] at h
          refine ⟨_, _, ?_, h⟩
          intro M A ρ a w L hL hr
          have vm := RV.at hL hr x
          rw [hx] at vm
          obtain ⟨b, en, q1, q2, q3, q4, q5⟩ := map_of hr hf vm
          have ea : args = #[x] := by rw [← Array.toArray_toList (xs := args), hargs]
          have et : tys = #[t] := by rw [← Array.toArray_toList (xs := tys), htys]
          subst ea
          subst et
          have hrun : (execOp a.eval o).run P w = .ok (.value (goInt en.size)) w := by
            rw [hexec]
            simp [execOp, resolve, invoke, builtin, Builtin.len_, run_underlying hu, q2, rGet q3]
          refine ⟨_, w, A, ρ, .inl hrun, hr.sub from_sub, ?_, Evo.refl _ _, Ext.refl _, Grow.refl _ _⟩
          rw [q4]
          exact RV.ofValue w A ρ (goInt es.length)
        · simp at h
      · exact other h
    · exact other h
  · -- delete
    rename_i args tys
    split at h
    · rename_i m k t t' hargs htys
      split at h
      · rename_i id kv hm hk
        split at h
        · rename_i kt et es clock hu hf
          have ea : args = #[m, k] := by rw [← Array.toArray_toList (xs := args), hargs]
          have et : tys = #[t, t'] := by rw [← Array.toArray_toList (xs := tys), htys]
          subst ea
          subst et
          split at h
          · rename_i i hki
            rw [frcL_eq, frcL_eq] at h
            refine ⟨_, _, ?_, h⟩
            intro M A ρ a w L hL hr
            have vm := RV.at hL hr m
            rw [hm] at vm
            have vk := V.val?_spec hk (RV.at hL hr k)
            obtain ⟨b, en, q1, q2, q3, q4, q5⟩ := map_of hr hf vm
            obtain ⟨c1, o2, c2, c3, c4⟩ := keyAt_run hki (hb_keys (id := id) (clock := clock) q4 q5) w
            cases o2 with
            | none => simp at c3
            | some p =>
              obtain ⟨j, v⟩ := p
              simp only [Option.map_some, Option.some.injEq] at c3
              subst c3
              obtain ⟨e', g1, _⟩ := c4 j v rfl
              have hj : j < en.size := (Array.getElem?_eq_some_iff.1 g1).1
              obtain ⟨r1, r2⟩ := Rel.setMap (st := ⟨n, L, hp⟩) (clock' := clock) (es' := es.eraseIdx j) (en' := en.eraseIdxIfInBounds j) hr hf q1 q3
                (by rw [Array.eraseIdxIfInBounds, dif_pos hj, Array.size_eraseIdx, List.length_eraseIdx, if_pos (by omega), q4]) (fun i k' c' n' hi' => by
                rw [List.getElem?_eraseIdx] at hi'
                have he : (en.eraseIdxIfInBounds j)[i]? = if i < j then en[i]? else en[i + 1]? := by
                  rw [Array.eraseIdxIfInBounds, dif_pos hj, Array.getElem?_eraseIdx]
                rw [he]
                split at hi'
                · rename_i hlt; rw [if_pos hlt]; exact q5 i k' c' n' hi'
                · rename_i hlt; rw [if_neg hlt]; exact q5 (i + 1) k' c' n' hi')
              have hrun : (execOp a.eval o).run P w = .ok (.value (.tuple #[])) { w with heap := w.heap.setIfInBounds b (.map (en.eraseIdxIfInBounds j) clock) } := by
                rw [hexec]
                simp only [execOp, resolve, invoke, builtin, Builtin.delete_]
                simp [run_underlying hu, q2, rGet q3, vk, isEmpty_of q4, c1, c2, rSet _ q3]
              exact ⟨_, _, A, ρ, .inl hrun, r1.sub from_sub, ⟨#[], rfl, rfl, by simp⟩, r2, Ext.refl _, Grow.refl _ _⟩
          · rename_i hki
            refine ⟨_, _, ?_, h⟩
            intro M A ρ a w L hL hr
            have vm := RV.at hL hr m
            rw [hm] at vm
            have vk := V.val?_spec hk (RV.at hL hr k)
            obtain ⟨b, en, q1, q2, q3, q4, q5⟩ := map_of hr hf vm
            obtain ⟨c1, o2, c2, c3, c4⟩ := keyAt_run hki (hb_keys (id := id) (clock := clock) q4 q5) w
            cases o2 with
            | some p => simp at c3
            | none =>
              have hblt : b < w.heap.size := by
                rcases Nat.lt_or_ge b w.heap.size with hl | hg
                · exact hl
                · simp [Array.getElem?_eq_none hg] at q3
              have hself : ({ w with heap := w.heap.setIfInBounds b (.map en clock) } : World) = w := by
                have : w.heap.setIfInBounds b (.map en clock) = w.heap := by
                  apply Array.ext_getElem?
                  intro i
                  by_cases hi : b = i
                  · subst hi; simp [hblt, q3]; simpa [hblt] using q3.symm
                  · rw [Array.getElem?_setIfInBounds_ne hi]
                rw [this]
              have hrun : (execOp a.eval o).run P w = .ok (.value (.tuple #[])) w := by
                rw [hexec]
                simp only [execOp, resolve, invoke, builtin, Builtin.delete_]
                simp [run_underlying hu, q2, rGet q3, vk, isEmpty_of q4, c1, c2, rSet _ q3, hself]
              exact ⟨_, _, A, ρ, .inl hrun, hr.sub from_sub, ⟨#[], rfl, rfl, by simp⟩, Evo.refl _ _, Ext.refl _, Grow.refl _ _⟩
          · simp at h
        · simp at h
      · simp at h
    · simp at h
  · -- range
    rename_i t x
    split at h
    · rename_i id hx
      split at h
      · rename_i kt et es clock hu hf
        refine ⟨_, _, ?_, h⟩
        intro M A ρ a w L hL hr
        have vm := RV.at hL hr x
        rw [hx] at vm
        obtain ⟨b, en, q1, q2, q3, q4, q5⟩ := map_of hr hf vm
        obtain ⟨r1, r2⟩ := Rel.newFree hr (.mapIter (some b) clock #[] clock)
        have hrun : (execOp a.eval o).run P w = .ok (.value (.pointer (some ⟨w.heap.size, 0, none⟩))) (w.alloc (.mapIter (some b) clock #[] clock)) := by
          rw [hexec]
          simp [execOp, Instr.range, run_underlying hu, q2, rGet q3]
        refine ⟨_, _, A, ρ, .inl hrun, r1.sub from_sub, ⟨⟨b, w.heap.size, clock, clock, q1, rfl, by simp, fun hA => ?_, heap_alloc_new w _⟩, rfl⟩, r2, Ext.refl _, Grow.refl _ _⟩
        have := hr.bound _ hA
        omega
      · simp at h
    · simp at h
  · -- next
    rename_i x
    split at h
    · rename_i id hx
      split at h
      · rename_i clock hf
        refine ⟨_, _, ?_, h⟩
        intro M A ρ a w L hL hr
        have vi := RV.at hL hr x
        rw [hx] at vi
        obtain ⟨b, r, since, last, k1, k2, k3, k4, k5⟩ := vi.1
        obtain ⟨b', en, g1, g2, g3, g4, g5, g6⟩ := hr.heap id _ hf
        rw [k1] at g1
        simp only [Option.some.injEq, Loc.cel.injEq] at g1
        subst g1
        have hen : en = #[] := by
          apply Array.eq_empty_of_size_eq_zero
          simpa using g5
        subst hen
        have hget : (getObj r).run P w = .ok (.mapIter (some b) since #[] last) w := by simp [getObj, Sem.run, k5]
        have hrun : (execOp a.eval o).run P w = .ok (.value (.tuple #[.bool false])) w := by
          rw [hexec]
          simp only [execOp, Instr.next, k2]
          simp [hget, rGet g4, Question.forced]
        exact ⟨_, _, A, ρ, .inl hrun, hr.sub from_sub, ⟨_, rfl, rfl, fun k u y hu hy => by
          match k with
          | 0 => simp at hu hy; subst hu; subst hy; exact RW.bT false
          | k + 1 => simp at hu⟩, Evo.refl _ _, Ext.refl _, Grow.refl _ _⟩
      · simp at h
    · simp at h
  · -- a method bound to its receiver
    rename_i f first caps
    split at h
    · rename_i x hfirst hcaps
      split at h
      · rename_i b ts hrv
        refine ⟨_, _, ?_, h⟩
        intro M A ρ a w L hL hr
        have vx := RV.at hL hr x
        have ea : first = #[x] := by rw [← Array.toArray_toList (xs := first), hfirst]
        have et : caps = #[] := by rw [← Array.toArray_toList (xs := caps), hcaps]
        subst ea
        subst et
        have hrun : (execOp a.eval o).run P w = .ok (.value (.func (.func f) #[a.eval x] #[])) w := by
          rw [hexec]
          simp [execOp, Instr.makeFunc]
        exact ⟨_, _, A, ρ, .inl hrun, hr.sub from_sub, ⟨⟨_, rfl, recv_spec hrv vx⟩, rfl⟩, Evo.refl _ _, Ext.refl _, Grow.refl _ _⟩
      · simp at h
    · exact other h
  · -- append of zeros
    rename_i args tys
    split at h
    · rename_i s x t t' hargs htys
      split at h
      · rename_i ik hu'
        split at h
        · rename_i m e hs hx hu
          split at h
          · rename_i size bytes z hT hz
            obtain ⟨hc, h⟩ := sel_true h
            rw [frcL_eq] at h
            refine ⟨_, _, ?_, h⟩
            intro M A ρ a w L hL hr
            have vs := RV.at hL hr s
            rw [hs] at vs
            have vx := V.int?_spec hx (RV.at hL hr x)
            have hsv : a.eval s = .slice none 0 0 := V.val?_spec (v := .slice none 0 0) rfl vs
            have ea : args = #[s, x] := by rw [← Array.toArray_toList (xs := args), hargs]
            have et : tys = #[t, t'] := by rw [← Array.toArray_toList (xs := tys), htys]
            subst ea
            subst et
            obtain ⟨inf, zv, z1, z2, z3, z4, z5, z6⟩ := elemT_spec hT
            obtain ⟨inf', zv', y1, y2, y3, y4, y5⟩ := zeroC_spec hz w A ρ
            rw [z1] at y1
            simp only [Option.some.injEq] at y1
            subst y1
            rw [z2] at y2
            simp only [Option.some.injEq] at y2
            subst y2
            obtain ⟨hc12, hc3⟩ := Bool.and_eq_true _ _ ▸ hc
            obtain ⟨hc1, hc2⟩ := Bool.and_eq_true _ _ ▸ hc12
            have g2 := Nat.le_of_ble_eq_true hc2
            have g3 := Nat.le_of_ble_eq_true hc3
            have hsize : z.length = size := by rw [← y4]; exact z3
            have hrun := run_append_zeros (P := P) (ty := o.type) hu hu' z1 z2 (m + 1) (by omega) (by omega) g3 (by rw [z4]; exact g2) w
            have hge := grownCap_ge w (m + 1) 0 e
            obtain ⟨e1, e2, e3⟩ := zeros_RE y5 (m + 1)
            have hlen : (List.replicate (m + 1) z).length = m + 1 := by simp
            obtain ⟨A', ρ', r1, r2, r3, r4, r5⟩ := grow_sound (st := ⟨n, L, hp⟩) (e := e) (z := zv.cells) (cap := grownCap w (m + 1) 0 e) (zs := List.replicate (m + 1) z) (vs := (Builtin.zeroCells zv.cells (m + 1)).toList) (size := size) hr (Nat.le_refl ctr) z5
              (fun el hel => by rw [List.eq_of_mem_replicate hel]; exact hsize)
              (by rw [Array.length_toList, size_zeroCells, z5, hlen]) (by rw [hlen]; exact hge)
              (fun i el j k hi hj => by
                obtain ⟨y, hy, hr1, hr2⟩ := e3 i el j k hi hj
                refine ⟨y, ?_, hr1, hr2⟩
                rw [Array.getElem?_toList, ← hsize]
                have ez : Builtin.zeroCells zv.cells (m + 1) = (Array.range ((m + 1) * z.length)).map fun k => zv.cells[k % zv.cells.size]! := by
                  unfold Builtin.zeroCells
                  have : zv.cells.size = z.length := by rw [y3, y4]
                  rw [this]
                rw [ez]
                exact hy)
            rw [hlen] at r1 r2 r3
            simp only [Array.toArray_toList] at r1 r2 r3
            refine ⟨_, _, A', ρ', .inl ?_, r1.sub sub_from, r2, r3, r4, r5⟩
            rw [hexec]
            have hvx : a.eval x = .int .i64 ((m + 1 : Nat) : Int) := vx
            have hbn : (execOp a.eval (bare (Op.call ⟨.builtin .append, #[s, x], #[t, t']⟩) o.type)).run P w = ((Builtin.append_ #[t, t'] o.type #[a.eval s, a.eval x]).run P w).andThen fun v w' => .ok (.value v) w' := by
              simp [execOp, resolve, invoke, builtin]
            rw [hbn, hsv, hvx, hrun]
            rfl
          · simp at h
        · simp at h
      · exact other h
    · exact other h
  · -- a pointer against nil
    rename_i bo t x y t'
    split at h
    · rename_i id sz i j e hx hy hu
      have run1 : ∀ (b : Addr) (w : World), (Op.equal t (.pointer (some b)) (.pointer none)).run P w = .ok false w := by
        intro b w
        show (Op.equalIn 10000 t (.pointer (some b)) (.pointer none)).run P w = _
        unfold Op.equalIn
        simp [run_underlying hu]
      have fin : ∀ (c : Bool), (∀ (b : Addr) (w : World), (binOp bo t (.pointer (some b)) (.pointer none)).run P w = .ok (.bool c) w) → RunV P n o tm hp ctr (bV c) hp := by
        intro c hc M A ρ a w L hL hr
        have vx := RV.at hL hr x
        rw [hx] at vx
        have vy := RV.at hL hr y
        rw [hy] at vy
        obtain ⟨b, _, hb⟩ := vx.1
        have hyv : a.eval y = .pointer none := V.val?_spec (v := .pointer none) rfl vy
        have hg : (eqGuard bo t x y (.pointer (some ⟨b, i * sz + j, none⟩)) (.pointer none)).run P w = .ok () w := by
          unfold eqGuard
          cases bo <;> simp
        have hrun : (execOp a.eval o).run P w = .ok (.value (.bool c)) w := by
          rw [hexec]
          simp only [execOp, hb, hyv, Sem.run_bind, hg, Result.andThen_ok, hc, Sem.run_pure]
        exact ⟨_, w, A, ρ, .inl hrun, hr.sub from_sub, RV.ofValue w A ρ (.bool c), Evo.refl _ _, Ext.refl _, Grow.refl _ _⟩
      split at h
      · exact ⟨_, _, fin false (fun b w => by simp [binOp, run1]), h⟩
      · exact ⟨_, _, fin true (fun b w => by simp [binOp, run1]), h⟩
      · simp at h
    · exact other h
  · exact other h

end Go.Abs
