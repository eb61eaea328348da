import Derived.Test.YtnkmmbgbdgonnaaGreatDoorAbsIn
import Derived.Carry
import Derived.ChangeSame
import Derived.ChangeShapes
import Derived.OpenShut
namespace Go.Abs
open Go Go.RowKit Go.ChangeShapes Go.WideShapes

variable {H : Type} {enc : TypeId × Value → H} {P : Program}

/-- The value of a parameter, as a tree. -/
def mkW (P : Program) (t : TypeId) (ts : List T) : W :=
  match aggT P t with
  | some true => .agg (ts.map .t)
  | _ => match ts with
    | [x] => .one (.t x)
    | _ => .agg (ts.map .t)

theorem arg_tree {W : World} {sp : Nat → Bool} {base d : Nat} {t : TypeId} {v : Value} {x : DataW H} {p : List MemPlace} {ρ : Env} (hok : Value.okWide P W .any base t v) (hr : DataW.Trod enc P W 0 sp true t v x p) (hd : depthOk P (d + 1) t = true) :
    ∃ ts, TT P (d + 1) t ts ∧ RW W (fun _ => False) ρ (mkW P t ts) v := by
  obtain ⟨fuel, hr⟩ := hr
  unfold Value.okWide at hok
  have hd' := hd
  unfold depthOk at hd'
  cases hu : P.underlying t with
  | none => simp [hu] at hd'
  | some dsc =>
    simp only [hu] at hok hd'
    have cellCase : aggT P t = some false → v.oneCell' = true → P.cellsOf t = 1 → ∃ ts, TT P (d + 1) t ts ∧ RW W (fun _ => False) ρ (mkW P t ts) v := by
      intro hagg hv hone
      have hvc : v.cells.toList = [v] := by cases v <;> simp [Value.oneCell'] at hv <;> rfl
      rw [hvc] at hr
      obtain ⟨ts, h1, h2⟩ := trod_tree (d + 1) t hd fuel sp true [v] _ hr (by simp [hone])
      refine ⟨ts, h2, ?_⟩
      have hl : ts.length = 1 := by simpa using h1.1
      obtain ⟨q, rfl⟩ := List.length_eq_one_iff.1 hl
      simp only [mkW, hagg]
      exact ⟨h1.2 0 q v rfl rfl, hv⟩
    cases dsc with
    | struct fs =>
      simp only at hok
      obtain ⟨cs, rfl, hsz, _⟩ := hok
      obtain ⟨ts, h1, h2⟩ := trod_tree (d + 1) t hd fuel sp true cs.toList _ hr (by simpa using hsz)
      refine ⟨ts, h2, ?_⟩
      have hagg : aggT P t = some true := by simp [aggT, hu]
      simp only [mkW, hagg]
      refine ⟨cs, rfl, by simpa using h1.1, fun k c x hk hx => ?_⟩
      simp only [List.getElem?_map, Option.map_eq_some_iff] at hk
      obtain ⟨q, hq, rfl⟩ := hk
      have := h1.2 k q x hq (by simpa using hx)
      exact ⟨this, this.cell⟩
    | bool =>
      simp only [beq_iff_eq] at hd'
      refine cellCase (by simp [aggT, hu]) ?_ hd'
      cases v <;> simp_all [Cell.okWide, Cell.ok, Value.oneCell']
    | int k =>
      simp only [beq_iff_eq] at hd'
      refine cellCase (by simp [aggT, hu]) ?_ hd'
      cases v <;> simp_all [Cell.okWide, Cell.ok, Value.oneCell']
    | string =>
      simp only [beq_iff_eq] at hd'
      refine cellCase (by simp [aggT, hu]) ?_ hd'
      cases v <;> simp_all [Cell.okWide, Cell.ok, Value.oneCell']
    | slice e =>
      simp only [Bool.and_eq_true, beq_iff_eq] at hd'
      refine cellCase (by simp [aggT, hu]) ?_ hd'.1.1
      cases v <;> simp_all [Cell.okWide, Cell.ok, Value.oneCell']
    | _ => simp at hd'

/-- Arguments of given types. -/
def Typed (P : Program) (d : Nat) : List TypeId → List W → Prop
  | [], us => us = []
  | t :: ts, us => ∃ a r, us = mkW P t a :: r ∧ TT P d t a ∧ Typed P d ts r

theorem args_tree {W : World} {base d : Nat} {ρ : Env} : ∀ {ts : List TypeId} {vs : List Value} {ds : List (DataW H)} {ps : List MemPlace}, DataW.TrodAll enc P W 0 (fun _ => true) true ts vs ds ps →
    (∀ (j : Nat) (t : TypeId) (v : Value), ts[j]? = some t → vs[j]? = some v → Value.okWide P W .any base t v) → (∀ t, t ∈ ts → depthOk P (d + 1) t = true) → ∃ us, Typed P (d + 1) ts us ∧ RWs W (fun _ => False) ρ us vs
  | [], vs, ds, ps, h, _, _ => by
    obtain ⟨rfl, _⟩ := trodAll_nil h
    exact ⟨[], rfl, rfl, by simp⟩
  | t :: ts, vs, ds, ps, h, hval, hdp => by
    obtain ⟨v, vs', x, ds', p, q, rfl, rfl, rfl, h1, h2⟩ := trodAll_cons h
    obtain ⟨a, ha, hra⟩ := arg_tree (ρ := ρ) (hval 0 t v rfl rfl) h1 (hdp t (by simp))
    obtain ⟨us, hu, hl, hru⟩ := args_tree (ρ := ρ) h2 (fun j t' v' ht hv => hval (j + 1) t' v' (by simpa using ht) (by simpa using hv)) (fun t' ht => hdp t' (by simp [ht]))
    refine ⟨mkW P t a :: us, ⟨a, us, rfl, ha, hu⟩, by simp [hl], fun k u y hk hy => ?_⟩
    cases k with
    | zero =>
      simp only [List.getElem?_cons_zero, Option.some.injEq] at hk hy
      subst hk
      subst hy
      exact hra
    | succ k => exact hru k u y (by simpa using hk) (by simpa using hy)

theorem args_again (hl : laidOutB P = true) {W W' : World} (hb : Below W.heap.size W W') : ∀ {ts : List TypeId} {vs : List Value} {ds : List (DataW H)} {ps : List MemPlace}, DataW.TrodAll enc P W 0 (fun _ => true) true ts vs ds ps →
    (∀ t, t ∈ ts → P.readableRec t = true ∧ t < P.types.size) → DataW.TrodAll enc P W' 0 (fun b => decide (b < W.heap.size)) true ts vs ds ps
  | [], vs, ds, ps, h, _ => by
    obtain ⟨rfl, rfl, rfl⟩ := trodAll_nil h
    exact trodAll_mk0
  | t :: ts, vs, ds, ps, h, ht => by
    have hlt := h.lt
    obtain ⟨v, vs', x, ds', p, q, rfl, rfl, rfl, h1, h2⟩ := trodAll_cons h
    have h3 := Below.trod hl (ht t (by simp)).1 (ht t (by simp)).2 h1 hb (fun z hz => hlt z (by simp [hz]))
    exact trodAll_cons_mk h3 (args_again hl hb h2 (fun t' h' => ht t' (by simp [h'])))

theorem below_of_evo {W W' : World} (h : Evo (fun b => W.heap.size ≤ b) W W') : Below W.heap.size W W' :=
  ⟨h.os, h.tape, h.output, h.size, fun k hk => h.block k hk (by omega)⟩

/-- THE LAW: a contract 'true for all typed trees' gives what the row asks of the call. -/
theorem law_calls {f : FuncId} {fn : Func} {s : ChangeSpec} {d : Nat} {W : World} {base : Nat} {args : Array Value} {ds gs : List (DataW H)} {before : List MemPlace}
    (hl : laidOutB P = true) (hvars : s.vars = []) (hres : fn.resultTypes = #[4]) (hbool : P.underlying 4 = some .bool) (hspec : ∀ ds : List (DataW H), ds.length = fn.params.size → (s.fn H ds).results = [.lit (.bool true)] ∧ (s.fn H ds).args = ds ∧ (s.fn H ds).vars = [])
    (hdp : ∀ t, t ∈ fn.params.toList → depthOk P (d + 1) t = true) (hrd : ∀ t, t ∈ fn.params.toList → P.readableRec t = true ∧ t < P.types.size)
    (hFn : ∀ us, Typed P (d + 1) fn.params.toList us → Fn P f us [] (.w (.one (.t (.val (.bool true))))) [])
    (hval : ∀ (j : Nat) t v, fn.params[j]? = some t → args[j]? = some v → Value.okWide P W .any base t v)
    (hglob : Glob (fun b => W.heap.size ≤ b) (fun _ => False) W)
    (hW : DataW.Whole enc P fn.params.toList s.vars false W args.toList ds gs before) :
    Calls P f args W fun e W' => ∃ v, e = .returned v ∧ s.post enc P fn false true false false W args v W' := by
  have hW' := hW
  obtain ⟨p, q, hA, hV, rfl, hfz, hnd⟩ := hW
  rw [hvars] at hV
  obtain ⟨rfl, rfl⟩ := trodVars_none hV
  obtain ⟨us, hu, hru⟩ := args_tree (ρ := fun _ => none) hA (fun j t v ht hv => hval j t v (by simpa using ht) (by simpa using hv)) hdp
  have hH : HR (fun b => Own (fun _ => none) [] b ∨ W.heap.size ≤ b) (fun _ => False) (fun _ => none) (From 4) [] W :=
    ⟨rfl, rfl, fun t v hv => by simp [find] at hv, fun id b hb => by simp [find] at hb, fun id id' b b' c hb => by simp [find] at hb, fun _ _ => rfl, fun _ h => h.elim, fun b hb => .inr hb, hglob.sub (fun b hb hm => hm.elim (fun ho => by obtain ⟨_, _, hf, _⟩ := ho; simp [find] at hf) (fun hl => hl)) (fun _ h => h)⟩
  refine (hFn us hu W (fun _ => False) (fun _ => none) args hH hru).mono ?_
  rintro e W' ⟨x, A', ρ', F', rfl, hv, _, hev, _, _⟩
  have hM : (fun b => Own (fun _ => none) [] b ∨ W.heap.size ≤ b) = fun b => W.heap.size ≤ b := by funext b; simp [Own, find]
  rw [hM] at hev
  have hb := below_of_evo hev
  have hx : x = .bool true := V.val?_spec (u := .w (.one (.t (.val (.bool true))))) rfl hv
  subst hx
  have hlen : ds.length = fn.params.size := by
    have len : ∀ {ts : List TypeId} {vs : List Value} {ds : List (DataW H)} {ps : List MemPlace}, DataW.TrodAll enc P W 0 (fun _ => true) true ts vs ds ps → ds.length = ts.length := by
      intro ts
      induction ts with
      | nil => intro vs ds ps h; obtain ⟨_, rfl, _⟩ := trodAll_nil h; rfl
      | cons t ts ih => intro vs ds ps h; obtain ⟨_, _, _, _, _, _, _, rfl, _, _, h2⟩ := trodAll_cons h; simp [ih h2]
    simpa using len hA
  obtain ⟨s1, s2, s3⟩ := hspec (ds ++ []) (by simpa using hlen)
  refine ⟨_, rfl, ds, [], _, [], p, [], hW', ?_, ?_, ?_, hb.frame _, fun h => by simp at h⟩
  · rw [s1, hres]
    exact trodAll_mk1 ⟨1, by simp [DataW.trod, Value.cells, hbool]⟩
  · rw [s2]
    simpa using args_again hl hb hA hrd
  · rw [s3, hvars]
    rfl

end Go.Abs
