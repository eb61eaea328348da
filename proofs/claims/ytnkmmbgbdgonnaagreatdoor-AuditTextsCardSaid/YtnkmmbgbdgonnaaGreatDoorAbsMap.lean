import Derived.Test.YtnkmmbgbdgonnaaGreatDoorAbsCopy
import Derived.MapKept
import Derived.Laws.BytesArg
namespace Go.Abs
open Go

variable {P : Program} {M A : Nat → Prop} {ρ : Env} {F : Nat → Prop} {st : St} {a : Act} {w : World}

theorem semPure_bind {P : Program} {α β : Type} (x : Sem α) (f : α → Sem β) : semPure P (x >>= f) = (semPure P x).bind fun a => semPure P (f a) := by
  show semPure P (x.bind f) = _
  induction x with
  | pure a => simp [Sem.bind, semPure]
  | program k ih => simp only [Sem.bind, semPure]; exact ih _
  | mark m k ih => simp only [Sem.bind, semPure]; exact ih
  | _ => simp [Sem.bind, semPure]

theorem semPure_pure {P : Program} {α : Type} (a : α) : semPure P (pure a : Sem α) = some a := rfl

theorem semPure_map {P : Program} {α β : Type} (x : Sem α) (f : α → β) : semPure P (f <$> x) = (semPure P x).map f := by
  have : (f <$> x) = x >>= fun a => pure (f a) := by simp [bind_pure_comp]
  rw [this, semPure_bind]
  cases semPure P x <;> rfl

theorem semPure_underlying {P : Program} {t : TypeId} {d : TypeDesc} (h : P.underlying t = some d) : semPure P (underlying t) = some d := by
  simp [underlying, semPure_bind, program, semPure, h, semPure_pure]

/-! Keys. -/
def dummies (es : List (Value × C × Nat)) : List MapEntry := es.map fun p => ⟨p.1, .bool false, 0⟩

def keyAt (P : Program) (empty : Bool) (kt : TypeId) (k : Value) (es : List (Value × C × Nat)) : Option (Option Nat) :=
  match semPure P (Instr.checkKey empty 10000 kt k) with
  | some _ => match semPure P (Instr.findKey kt k (dummies es)) with
    | some (some (i, _)) => some (some i)
    | some none => some none
    | none => none
  | none => none

/-- Where a key is found does not depend on the values. -/
def SameAt (l2 : List MapEntry) (i : Nat) (o1 o2 : Option (Nat × Value)) : Prop :=
  o1.map (·.1) = o2.map (·.1) ∧ ∀ j v, o2 = some (j, v) → i ≤ j ∧ ∃ e, l2[j - i]? = some e ∧ e.val = v

theorem SameAt.step {l2 : List MapEntry} {e : MapEntry} {i : Nat} {o1 o2 : Option (Nat × Value)} (h : SameAt l2 (i + 1) o1 o2) : SameAt (e :: l2) i o1 o2 := by
  refine ⟨h.1, fun j v hj => ?_⟩
  obtain ⟨h1, e', h2, h3⟩ := h.2 j v hj
  refine ⟨by omega, e', ?_, h3⟩
  rw [show j - i = (j - (i + 1)) + 1 by omega]
  simpa using h2

theorem findNow_congr {d : TypeDesc} {k : Value} : ∀ {l1 l2 : List MapEntry} {i : Nat}, l1.map (·.key) = l2.map (·.key) →
    (Instr.findNow d k l1 i = none ∧ Instr.findNow d k l2 i = none) ∨ ∃ o1 o2, Instr.findNow d k l1 i = some o1 ∧ Instr.findNow d k l2 i = some o2 ∧ SameAt l2 i o1 o2
  | [], [], i, _ => .inr ⟨none, none, rfl, rfl, rfl, fun j v h => by simp at h⟩
  | e1 :: l1, e2 :: l2, i, h => by
    simp only [List.map_cons, List.cons.injEq] at h
    have ih := findNow_congr (d := d) (k := k) (i := i + 1) h.2
    simp only [Instr.findNow, h.1]
    split
    · exact .inr ⟨_, _, rfl, rfl, rfl, fun j v hj => by
        simp only [Option.some.injEq, Prod.mk.injEq] at hj
        obtain ⟨rfl, rfl⟩ := hj
        exact ⟨Nat.le_refl _, e2, by simp, rfl⟩⟩
    · rcases ih with ih | ⟨o1, o2, h1, h2, h3⟩
      · exact .inl ih
      · exact .inr ⟨o1, o2, h1, h2, h3.step⟩
    · exact .inl ⟨rfl, rfl⟩
  | [], _ :: _, i, h => by simp at h
  | _ :: _, [], i, h => by simp at h

theorem findAsking_congr {kt : TypeId} {k : Value} : ∀ {l1 l2 : List MapEntry} {i : Nat} {o1 : Option (Nat × Value)}, l1.map (·.key) = l2.map (·.key) →
    semPure P (Instr.findAsking kt k l1 i) = some o1 → ∃ o2, semPure P (Instr.findAsking kt k l2 i) = some o2 ∧ SameAt l2 i o1 o2
  | [], [], i, o1, _, h => by
    simp only [Instr.findAsking, semPure_pure, Option.some.injEq] at h
    subst h
    exact ⟨none, rfl, rfl, fun j v h => by simp at h⟩
  | e1 :: l1, e2 :: l2, i, o1, hk, h => by
    simp only [List.map_cons, List.cons.injEq] at hk
    simp only [Instr.findAsking, semPure_bind, hk.1, Option.bind_eq_some_iff] at h
    obtain ⟨b, hb, h⟩ := h
    simp only [Instr.findAsking, semPure_bind, hb, Option.bind_some]
    cases b with
    | true =>
      simp only [if_true, semPure_pure, Option.some.injEq] at h ⊢
      subst h
      refine ⟨_, rfl, rfl, fun j v hj => ?_⟩
      simp only [Option.some.injEq, Prod.mk.injEq] at hj
      obtain ⟨rfl, rfl⟩ := hj
      exact ⟨Nat.le_refl _, e2, by simp, rfl⟩
    | false =>
      simp only [Bool.false_eq_true, if_false] at h ⊢
      obtain ⟨o2, h1, h2⟩ := findAsking_congr hk.2 h
      exact ⟨o2, h1, h2.step⟩
  | [], _ :: _, i, o1, hk, h => by simp at hk
  | _ :: _, [], i, o1, hk, h => by simp at hk

theorem findKey_congr {kt : TypeId} {k : Value} {l1 l2 : List MapEntry} {o1 : Option (Nat × Value)} (hk : l1.map (·.key) = l2.map (·.key))
    (h : semPure P (Instr.findKey kt k l1) = some o1) : ∃ o2, semPure P (Instr.findKey kt k l2) = some o2 ∧ SameAt l2 0 o1 o2 := by
  simp only [Instr.findKey, semPure_bind, Option.bind_eq_some_iff] at h
  obtain ⟨d, hd, h⟩ := h
  rcases findNow_congr (d := d) (k := k) (i := 0) hk with ⟨h1, h2⟩ | ⟨p1, p2, h1, h2, h3⟩
  · rw [h1] at h
    obtain ⟨o2, h4, h5⟩ := findAsking_congr hk h
    exact ⟨o2, by simp only [Instr.findKey, semPure_bind, hd, Option.bind_some, h2, h4], h5⟩
  · rw [h1] at h
    simp only [semPure_pure, Option.some.injEq] at h
    subst h
    exact ⟨p2, by simp only [Instr.findKey, semPure_bind, hd, Option.bind_some, h2, semPure_pure], h3⟩

theorem keyAt_run {empty : Bool} {kt : TypeId} {k : Value} {es : List (Value × C × Nat)} {en : Array MapEntry} {r : Option Nat} (h : keyAt P empty kt k es = some r)
    (hk : (dummies es).map (·.key) = en.toList.map (·.key)) (w : World) :
    (Instr.checkKey empty 10000 kt k).run P w = .ok () w ∧ ∃ o2, (Instr.findKey kt k en.toList).run P w = .ok o2 w ∧ o2.map (·.1) = r ∧ ∀ j v, o2 = some (j, v) → ∃ e, en[j]? = some e ∧ e.val = v := by
  unfold keyAt at h
  split at h
  · rename_i u hu
    refine ⟨semPure_run hu w, ?_⟩
    have fin : ∀ {o1 : Option (Nat × Value)}, semPure P (Instr.findKey kt k (dummies es)) = some o1 → o1.map (·.1) = r → ∃ o2, (Instr.findKey kt k en.toList).run P w = .ok o2 w ∧ o2.map (·.1) = r ∧ ∀ j v, o2 = some (j, v) → ∃ e, en[j]? = some e ∧ e.val = v := by
      intro o1 h1 h2
      obtain ⟨o2, h3, h4⟩ := findKey_congr hk h1
      refine ⟨o2, semPure_run h3 w, by rw [← h4.1]; exact h2, fun j v hj => ?_⟩
      obtain ⟨_, e, h5, h6⟩ := h4.2 j v hj
      exact ⟨e, by simpa using h5, h6⟩
    split at h
    · rename_i i v hf
      simp only [Option.some.injEq] at h
      subst h
      exact fin hf rfl
    · rename_i hf
      simp only [Option.some.injEq] at h
      subst h
      exact fin hf rfl
    · simp at h
  · simp at h

/-! Maps in the state. -/
theorem hb_keys {id clock : Nat} {es : List (Value × C × Nat)} {en : Array MapEntry} (hs : en.size = es.length)
    (h : ∀ (i : Nat) (k : Value) (c : C) (n : Nat), es[i]? = some (k, c, n) → ∃ e, en[i]? = some e ∧ e.key = k ∧ e.born = n ∧ RC w A ρ c e.val ∧ isCell e.val = true) :
    (dummies es).map (·.key) = en.toList.map (·.key) := by
  apply List.ext_getElem?
  intro i
  simp only [dummies, List.map_map, List.getElem?_map, Array.getElem?_toList]
  cases he : es[i]? with
  | none =>
    have : en[i]? = none := by
      rw [Array.getElem?_eq_none_iff]
      have := List.getElem?_eq_none_iff.1 he
      omega
    rw [this]; rfl
  | some p =>
    obtain ⟨k, c, n⟩ := p
    obtain ⟨e, h1, h2, _⟩ := h i k c n he
    rw [h1]
    simp [h2]

theorem rGet {P : Program} {w : World} {r : Nat} {es : Array MapEntry} {clock : Nat} (hb : w.heap[r]? = some (.map es clock)) : (getObj r).run P w = .ok (.map es clock) w := by
  simp [getObj, Sem.run, hb]

theorem rSet {P : Program} {w : World} {r : Nat} {es : Array MapEntry} {clock : Nat} (o : Obj) (hb : w.heap[r]? = some (.map es clock)) : (setObj r o).run P w = .ok () { w with heap := w.heap.setIfInBounds r o } := by
  simp [setObj, Sem.run, hb]

/-- The zero value, if it is one cell. -/
def zero1 (P : Program) (t : TypeId) : Option Value :=
  match P.info? t with
  | some i => match i.zero with
    | some z => if isCell z = true then some z else none
    | none => none
  | none => none

theorem zero1_run {P : Program} {t : TypeId} {z : Value} (h : zero1 P t = some z) (w : World) : (zeroValue t).run P w = .ok z w ∧ isCell z = true := by
  unfold zero1 at h
  split at h
  · rename_i i hi
    split at h
    · rename_i z' hz
      split at h
      · rename_i hc
        simp only [Option.some.injEq] at h
        subst h
        exact ⟨run_zeroValue hi hz w, hc⟩
      · simp at h
    · simp at h
  · simp at h

def bT (b : Bool) : W := .one (.t (.val (.bool b)))

theorem RW.bT (b : Bool) : RW w A ρ (bT b) (.bool b) := ⟨.val rfl, rfl⟩

theorem tup2 {c : C} {x : Value} {b : Bool} (hc : RC w A ρ c x) (h1 : isCell x = true) : RV w A ρ (.tup [.one c, Go.Abs.bT b]) (.tuple #[x, .bool b]) := by
  refine ⟨_, rfl, rfl, fun k u y hu hy => ?_⟩
  match k with
  | 0 => simp at hu hy; subst hu; subst hy; exact ⟨hc, h1⟩
  | 1 => simp at hu hy; subst hu; subst hy; exact RW.bT b
  | k + 2 => simp at hu

theorem map_of {id clock : Nat} {es : List (Value × C × Nat)} {n : Nat} {L : List (Nat × V)} {hp : List (Nat × Blk)} {x : Value} (hr : Rel M A ρ F ⟨n, L, hp⟩ a w) (hf : find hp id = some (.mp es clock)) (hx : RV w A ρ (.w (.one (.map id))) x) :
    ∃ b en, ρ id = some (.cel b) ∧ x = .map (some b) ∧ w.heap[b]? = some (.map en clock) ∧ en.size = es.length ∧
      ∀ (i : Nat) (k : Value) (c : C) (n : Nat), es[i]? = some (k, c, n) → ∃ e, en[i]? = some e ∧ e.key = k ∧ e.born = n ∧ RC w A ρ c e.val ∧ isCell e.val = true := by
  obtain ⟨b, h1, h2⟩ := hx.1
  obtain ⟨b', en, k1, k2, k3, k4, k5, k6⟩ := hr.heap id _ hf
  rw [h1] at k1
  simp only [Option.some.injEq, Loc.cel.injEq] at k1
  subst k1
  exact ⟨b, en, h1, h2, k4, k5, k6⟩

theorem isEmpty_of {en : Array MapEntry} {es : List (Value × C × Nat)} (h : en.size = es.length) : en.isEmpty = es.isEmpty := by
  rw [Bool.eq_iff_iff, Array.isEmpty_iff_size_eq_zero, List.isEmpty_iff_length_eq_zero, h]


/-- A map's value. -/
def evalLookup (P : Program) (t : TypeId) (m k : V) (ok : Bool) (heap : List (Nat × Blk)) : Option V :=
  match m, k.val? with
  | .w (.one (.map id)), some kv => match P.underlying t, find heap id with
    | some (.map kt et), some (.mp es _) => match keyAt P es.isEmpty kt kv es with
      | some (some i) => match es[i]? with
        | some (_, c, _) => some (match ok with | true => .tup [.one c, bT true] | false => .w (.one c))
        | none => none
      | some none => match zero1 P et with
        | some z => some (match ok with | true => .tup [.one (.t (.val z)), bT false] | false => .w (.one (.t (.val z))))
        | none => none
      | none => none
    | _, _ => none
  | _, _ => none

theorem evalLookup_congr {t : TypeId} {m k : V} {ok : Bool} {hp hp2 : List (Nat × Blk)} (h : ∀ id, m = .w (.one (.map id)) → find hp2 id = find hp id) : evalLookup P t m k ok hp2 = evalLookup P t m k ok hp := by
  unfold evalLookup
  split
  · rename_i id kv hk
    rw [h id rfl]
  · rfl

theorem evalLookup_sound {t : TypeId} {m k : V} {ok : Bool} {v : V} {xm xk : Value} (h : Rel M A ρ F st a w) (he : evalLookup P t m k ok st.heap = some v) (hm : RV w A ρ m xm) (hk : RV w A ρ k xk) :
    ∃ x, (Instr.lookup t xm xk ok).run P w = .ok x w ∧ RV w A ρ v x := by
  unfold evalLookup at he
  split at he
  · rename_i id kv hkv
    have vk := V.val?_spec hkv hk
    split at he
    · rename_i kt et es clock hu hf
      obtain ⟨b, en, q1, q2, q3, q4, q5⟩ := map_of (n := st.n) (L := st.tmps) (hp := st.heap) h hf hm
      split at he
      · rename_i i hki
        split at he
        · rename_i kk c born hni
          simp only [Option.some.injEq] at he
          subst he
          obtain ⟨c1, o2, c2, c3, c4⟩ := keyAt_run hki (hb_keys (id := id) (clock := clock) q4 q5) w
          cases o2 with
          | none => simp at c3
          | some p =>
            obtain ⟨j, v⟩ := p
            simp only [Option.map_some, Option.some.injEq] at c3
            subst c3
            obtain ⟨e0, e1, e2, e3, e4, e5⟩ := q5 j kk c born hni
            obtain ⟨e', f1, f2⟩ := c4 j v rfl
            rw [e1] at f1
            simp only [Option.some.injEq] at f1
            subst f1
            subst f2
            refine ⟨if ok then .tuple #[e0.val, .bool true] else e0.val, ?_, ?_⟩
            · simp only [Instr.lookup, Sem.run_bind, run_underlying hu, Result.andThen_ok, q2, rGet q3, Sem.run_pure, vk, isEmpty_of q4, c1, c2]
            · cases ok with
              | true => exact tup2 e4 e5
              | false => exact ⟨e4, e5⟩
        · simp at he
      · rename_i hki
        split at he
        · rename_i z hz
          simp only [Option.some.injEq] at he
          subst he
          obtain ⟨c1, o2, c2, c3, c4⟩ := keyAt_run hki (hb_keys (id := id) (clock := clock) q4 q5) w
          cases o2 with
          | some p => simp at c3
          | none =>
            obtain ⟨hzr, hz1⟩ := zero1_run hz w
            refine ⟨if ok then .tuple #[z, .bool false] else z, ?_, ?_⟩
            · simp only [Instr.lookup, Sem.run_bind, run_underlying hu, Result.andThen_ok, q2, rGet q3, Sem.run_pure, vk, isEmpty_of q4, c1, c2, hzr]
            · cases ok with
              | true => exact tup2 (RT.val hz1) hz1
              | false => exact ⟨RT.val hz1, hz1⟩
        · simp at he
      · simp at he
    · simp at he
  · simp at he

/-- Bytes. -/
def byteL : List (List C) → Option (List Int)
  | [] => some []
  | [.t (.val (.int .u8 n))] :: r => (byteL r).map (n :: ·)
  | _ :: _ => none

theorem byteL_get : ∀ {ys : List (List C)} {ns : List Int}, byteL ys = some ns → ns.length = ys.length ∧ ∀ (i : Nat) (n : Int), ns[i]? = some n → ys[i]? = some [.t (.val (.int .u8 n))]
  | [], ns, h => by simp only [byteL, Option.some.injEq] at h; subst h; simp
  | y :: ys, ns, h => by
    unfold byteL at h
    split at h
    · rename_i h0; simp at h0
    · rename_i n r h0
      simp only [List.cons.injEq] at h0
      obtain ⟨rfl, rfl⟩ := h0
      simp only [Option.map_eq_some_iff] at h
      obtain ⟨ms, hm, rfl⟩ := h
      obtain ⟨h1, h2⟩ := byteL_get hm
      refine ⟨by simp [h1], fun i m hi => ?_⟩
      cases i with
      | zero => simpa using hi
      | succ i => simpa using h2 i m (by simpa using hi)
    · simp at h

/-- A string made of the bytes of an own row. -/
def evalBytes (P : Program) (src dst : TypeId) (v : V) (heap : List (Nat × Blk)) : Option V :=
  match v with
  | .w (.one (.own id sz i len)) => match P.underlying src, P.underlying dst with
    | some (.slice e), some .string => match P.underlying e, elems heap (.own id sz i len) with
      | some (.int .u8), some (1, y :: ys) => (byteL (y :: ys)).map fun ns => .w (.one (.t (.val (.string (strOfNums ns)))))
      | _, _ => none
    | _, _ => none
  | _ => none

theorem evalBytes_sound {src dst : TypeId} {v u : V} {x : Value} (h : Rel M A ρ F st a w) (he : evalBytes P src dst v st.heap = some u) (hv : RV w A ρ v x) :
    ∃ y, (convert src dst x).run P w = .ok y w ∧ RV w A ρ u y := by
  unfold evalBytes at he
  split at he
  · rename_i id sz i len
    split at he
    · rename_i e hs hd
      split at he
      · rename_i y ys hu hel
        simp only [Option.map_eq_some_iff] at he
        obtain ⟨ns, hn, rfl⟩ := he
        obtain ⟨h1, h2⟩ := byteL_get hn
        obtain ⟨b, o, cap, rfl, hc⟩ := elems_sound h hel hv.1 (by simp)
        refine ⟨_, run_convert_bytes_arg w src e hs hu b o (y :: ys).length cap ns h1 (fun k hk => ?_) dst hd, ⟨.val rfl, rfl⟩⟩
        have hk' : k < ns.length := by omega
        have hg := h2 k ns[k] (by simp [hk'])
        obtain ⟨z, hz, hr, _⟩ := hc k _ 0 _ hg rfl
        cases hr
        simp only [Nat.mul_one, Nat.add_zero] at hz
        rw [hz]
        simp [List.getD, hk']
      · simp at he
    · simp at he
  · simp at he

end Go.Abs
