import Derived.Test.YtnkmmbgbdgonnaaGreatDoorAbsCore
namespace Go.Abs
open Go

def V.ofValue (v : Value) : V :=
  match v with
  | .agg cs => if cs.toList.all isCell then .w (.agg (cs.toList.map fun c => .t (.val c))) else .undef
  | .tuple _ => .undef
  | v => .w (.one (.t (.val v)))

theorem RV.ofValue (w : World) (A : Nat → Prop) (ρ : Env) (v : Value) : RV w A ρ (V.ofValue v) v := by
  cases v
  case agg cs =>
    simp only [V.ofValue]
    split
    · rename_i h
      refine ⟨cs, rfl, by simp, fun k c x hc hx => ?_⟩
      simp only [List.getElem?_map, Array.getElem?_toList, hx, Option.map_some, Option.some.injEq] at hc
      subst hc
      have hm : x ∈ cs.toList := by
        have := List.mem_of_getElem? (l := cs.toList) (i := k) (a := x) (by simpa using hx)
        exact this
      have := List.all_eq_true.1 h x hm
      exact ⟨.val this, this⟩
    · trivial
  case tuple => trivial
  all_goals exact ⟨.val rfl, rfl⟩

def globV (g : Nat) : V :=
  match tabAt tabs g with
  | some vs => .w (.one (.roe (vs.map .val) 0))
  | none => V.ofValue (.pointer (some ⟨g, 0, none⟩))

def St.get (st : St) : Operand → V
  | .tmp t => (find st.tmps t).getD .undef
  | .const v => V.ofValue v
  | .global g => globV g
  | .func f => V.ofValue (.func (.func f) #[] #[])

theorem Rel.get {M A : Nat → Prop} {ρ : Env} {F : Nat → Prop} {st : St} {a : Act} {w : World} (h : Rel M A ρ F st a w) (x : Operand) : RV w A ρ (st.get x) (a.eval x) := by
  cases x with
  | tmp t =>
    simp only [St.get, Act.eval]
    cases ht : find st.tmps t with
    | none => trivial
    | some v => exact h.tmps t v ht
  | const v => exact RV.ofValue w A ρ v
  | global g =>
    simp only [St.get, Act.eval, globV]
    cases hg : tabAt tabs g with
    | none => exact RV.ofValue w A ρ (.pointer (some ⟨g, 0, none⟩))
    | some vs =>
      obtain ⟨h1, h2, h3, _, h4⟩ := h.glob g vs hg
      refine ⟨⟨g, 0, fun k => (vs[k]?).getD undef, rfl, h1, h3, fun k c hc => ?_⟩, rfl⟩
      simp only [List.getElem?_map, Option.map_eq_some_iff] at hc
      obtain ⟨v, hv, rfl⟩ := hc
      obtain ⟨h5, h6⟩ := h4 k v hv
      simp only [hv, Option.getD_some, Nat.zero_add]
      exact ⟨h5, .val h6⟩
  | func f => exact RV.ofValue w A ρ (.func (.func f) #[] #[])

def C.val? : C → Option Value
  | .t (.val v) => some v
  | _ => none

def vals? : List C → Option (List Value)
  | [] => some []
  | c :: cs => match c.val?, vals? cs with
    | some v, some vs => some (v :: vs)
    | _, _ => none

def W.val? : W → Option Value
  | .one c => c.val?
  | .agg cs => (vals? cs).map fun vs => .agg vs.toArray

def wvals? : List W → Option (List Value)
  | [] => some []
  | c :: cs => match c.val?, wvals? cs with
    | some v, some vs => some (v :: vs)
    | _, _ => none

def V.val? : V → Option Value
  | .w u => u.val?
  | .tup ws => (wvals? ws).map fun vs => .tuple vs.toArray
  | .undef => none

theorem C.val?_spec {w : World} {A : Nat → Prop} {ρ : Env} {c : C} {v x : Value} (h : c.val? = some v) (hr : RC w A ρ c x) : x = v := by
  cases c with
  | t y =>
    cases y with
    | val u => simp only [C.val?, Option.some.injEq] at h; subst h; cases hr; rfl
    | lst sz xs => simp [C.val?] at h
  | _ => simp [C.val?] at h

theorem vals?_length : ∀ {cs : List C} {vs : List Value}, vals? cs = some vs → vs.length = cs.length
  | [], vs, h => by simp [vals?] at h; subst h; rfl
  | c :: cs, vs, h => by
    simp only [vals?] at h
    split at h
    · rename_i v us _ hu
      simp only [Option.some.injEq] at h
      subst h
      simp [vals?_length hu]
    · simp at h

theorem vals?_get : ∀ {cs : List C} {vs : List Value}, vals? cs = some vs → ∀ (k : Nat) (c : C), cs[k]? = some c → ∃ v, vs[k]? = some v ∧ c.val? = some v
  | [], vs, h, k, c, hc => by simp at hc
  | c :: cs, vs, h, k, d, hc => by
    simp only [vals?] at h
    split at h
    · rename_i v us hv hu
      simp only [Option.some.injEq] at h
      subst h
      cases k with
      | zero => simp only [List.getElem?_cons_zero, Option.some.injEq] at hc; subst hc; exact ⟨v, rfl, hv⟩
      | succ k => simpa using vals?_get hu k d (by simpa using hc)
    · simp at h

theorem RCs.vals {w : World} {A : Nat → Prop} {ρ : Env} {cs : List C} {vs : List Value} {xs : Array Value} (h : vals? cs = some vs) (hr : RCs w A ρ cs xs) : xs = vs.toArray := by
  apply Array.ext'
  apply List.ext_getElem?
  intro k
  have hl := vals?_length h
  by_cases hk : k < cs.length
  · obtain ⟨v, hv, hcv⟩ := vals?_get h k cs[k] (by simp [hk])
    have hk' : k < xs.size := hr.1 ▸ hk
    have hx : xs[k]? = some xs[k] := by simp [hk']
    have := C.val?_spec hcv (hr.2 k cs[k] xs[k] (by simp [hk]) hx).1
    simp [hv, hx, this]
  · have h1 : xs.toList.length ≤ k := by have := hr.1; simp; omega
    have h2 : vs.length ≤ k := by omega
    simp [List.getElem?_eq_none h2]
    have := hr.1; omega

theorem W.val?_spec {w : World} {A : Nat → Prop} {ρ : Env} {u : W} {v x : Value} (h : u.val? = some v) (hr : RW w A ρ u x) : x = v := by
  cases u with
  | one c => exact C.val?_spec h hr.1
  | agg cs =>
    simp only [W.val?, Option.map_eq_some_iff] at h
    obtain ⟨vs, h1, rfl⟩ := h
    obtain ⟨xs, rfl, h2⟩ := hr
    rw [h2.vals h1]

theorem wvals?_length : ∀ {cs : List W} {vs : List Value}, wvals? cs = some vs → vs.length = cs.length
  | [], vs, h => by simp [wvals?] at h; subst h; rfl
  | c :: cs, vs, h => by
    simp only [wvals?] at h
    split at h
    · rename_i v us _ hu
      simp only [Option.some.injEq] at h
      subst h
      simp [wvals?_length hu]
    · simp at h

theorem wvals?_get : ∀ {cs : List W} {vs : List Value}, wvals? cs = some vs → ∀ (k : Nat) (c : W), cs[k]? = some c → ∃ v, vs[k]? = some v ∧ c.val? = some v
  | [], vs, h, k, c, hc => by simp at hc
  | c :: cs, vs, h, k, d, hc => by
    simp only [wvals?] at h
    split at h
    · rename_i v us hv hu
      simp only [Option.some.injEq] at h
      subst h
      cases k with
      | zero => simp only [List.getElem?_cons_zero, Option.some.injEq] at hc; subst hc; exact ⟨v, rfl, hv⟩
      | succ k => simpa using wvals?_get hu k d (by simpa using hc)
    · simp at h

theorem V.val?_spec {w : World} {A : Nat → Prop} {ρ : Env} {u : V} {v x : Value} (h : u.val? = some v) (hr : RV w A ρ u x) : x = v := by
  cases u with
  | w y => exact W.val?_spec h hr
  | tup ws =>
    simp only [V.val?, Option.map_eq_some_iff] at h
    obtain ⟨vs, h1, rfl⟩ := h
    obtain ⟨xs, rfl, h2, h3⟩ := hr
    congr 1
    apply Array.ext'
    apply List.ext_getElem?
    intro k
    have hl := wvals?_length h1
    by_cases hk : k < ws.length
    · obtain ⟨v, hv, hcv⟩ := wvals?_get h1 k ws[k] (by simp [hk])
      have hk' : k < xs.size := h2 ▸ hk
      have hx : xs[k]? = some xs[k] := by simp [hk']
      have := W.val?_spec hcv (h3 k ws[k] xs[k] (by simp [hk]) hx)
      simp [hv, hx, this]
    · have h2' : vs.length ≤ k := by omega
      simp [List.getElem?_eq_none h2']
      omega
  | undef => simp [V.val?] at h

/-- A computation that touches no memory and asks nothing. -/
def semPure (P : Program) {α : Type} : Sem α → Option α
  | .pure a => some a
  | .program k => semPure P (k P)
  | .mark _ k => semPure P k
  | _ => none

theorem semPure_run {P : Program} {α : Type} {s : Sem α} {a : α} (h : semPure P s = some a) (w : World) : s.run P w = .ok a w := by
  induction s with
  | pure b => simp only [semPure, Option.some.injEq] at h; subst h; rfl
  | program k ih => simp only [semPure] at h; simp only [Sem.run]; exact ih _ h
  | mark m k ih => simp only [semPure] at h; simp only [Sem.run]; exact ih h
  | _ => simp [semPure] at h

def noSel : Op → Bool
  | .select .. => false
  | _ => true

/-- An operation on plain values alone, by the model's own text. -/
def evalPure (P : Program) (get : Operand → V) (o : Oper) : Option V :=
  if noSel o.op && o.op.operands.toList.all fun x => (get x).val?.isSome then
    match semPure P (execOp (fun x => ((get x).val?).getD undef) o) with
    | some (.value v) => some (V.ofValue v)
    | _ => none
  else none

theorem evalPure_sound {P : Program} {M A : Nat → Prop} {ρ : Env} {F F' : Nat → Prop} {st : St} {a : Act} {w : World} {o : Oper} {v : V}
    (h : evalPure P st.get o = some v) (hr : Rel M A ρ F st a w) (hF : ∀ id, F' id → F id) : Yld M A ρ F' a w ((execOp a.eval o).run P w) st v := by
  unfold evalPure at h
  split at h
  · rename_i hall
    simp only [Bool.and_eq_true, List.all_eq_true, Array.mem_toList_iff] at hall
    split at h
    · rename_i x hx
      simp only [Option.some.injEq] at h
      subst h
      have he : execOp a.eval o = execOp (fun x => ((st.get x).val?).getD undef) o := by
        apply execOp_congr
        · intro cs b hs
          have := hall.1
          simp [hs, noSel] at this
        · intro y hy
          have := hall.2 y hy
          cases hv : (st.get y).val? with
          | none => simp [hv] at this
          | some u => simpa using V.val?_spec hv (hr.get y)
      rw [he]
      exact Yld.same hr hF (semPure_run hx w) (RV.ofValue w A ρ x)
    · simp at h
  · simp at h

end Go.Abs
