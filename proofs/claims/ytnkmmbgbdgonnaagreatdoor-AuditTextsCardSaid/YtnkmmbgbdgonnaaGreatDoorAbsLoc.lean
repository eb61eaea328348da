import Derived.Test.YtnkmmbgbdgonnaaGreatDoorAbsCode
namespace Go.Abs
open Go

variable {P : Program}

/-! The evaluation of an operation looks at its operands, and at the blocks that they name. -/

theorem vcongr {get get' : Operand → V} {o : Oper} (h : ∀ x, x ∈ o.op.operands → get x = get' x) : evalPure P get o = evalPure P get' o := by
  unfold evalPure
  have h1 : (o.op.operands.toList.all fun x => (get x).val?.isSome) = (o.op.operands.toList.all fun x => (get' x).val?.isSome) := by
    rw [Bool.eq_iff_iff, List.all_eq_true, List.all_eq_true]
    constructor
    · intro hh x hx; rw [← h x (by simpa using hx)]; exact hh x hx
    · intro hh x hx; rw [h x (by simpa using hx)]; exact hh x hx
  rw [h1]
  split
  · rename_i hc
    have hs : ∀ cs b, o.op ≠ .select cs b := by
      intro cs b e
      simp [e, noSel] at hc
    rw [execOp_congr o hs (ρ := fun x => ((get x).val?).getD undef) (ρ' := fun x => ((get' x).val?).getD undef) (fun x hx => by rw [h x hx])]
  · rfl

theorem partsW_congr {get get' : Operand → V} : ∀ {ps : List (Nat × Operand)}, (∀ p, p ∈ ps → get p.2 = get' p.2) → partsW get ps = partsW get' ps
  | [], _ => rfl
  | (i, x) :: r, h => by
    have h1 := h (i, x) (by simp)
    simp only at h1
    simp only [partsW, h1, partsW_congr (ps := r) (fun p hp => h p (by simp [hp]))]

theorem ptrs_congr {get get' : Operand → V} : ∀ {xs : List Operand}, (∀ x, x ∈ xs → get x = get' x) → ptrs get xs = ptrs get' xs
  | [], _ => rfl
  | x :: r, h => by simp only [ptrs, h x (by simp), ptrs_congr (xs := r) (fun y hy => h y (by simp [hy]))]

theorem wsOf_congr {get get' : Operand → V} : ∀ {xs : List Operand}, (∀ x, x ∈ xs → get x = get' x) → wsOf get xs = wsOf get' xs
  | [], _ => rfl
  | x :: r, h => by simp only [wsOf, h x (by simp), wsOf_congr (xs := r) (fun y hy => h y (by simp [hy]))]

theorem evalOp_congr {get get' : Operand → V} {heap : List (Nat × Blk)} {nid : Nat} {o : Oper} (h : ∀ x, x ∈ o.op.operands → get x = get' x) : evalOp P get heap nid o = evalOp P get' heap nid o := by
  have hp := vcongr (P := P) h
  obtain ⟨dst, op, ty, pos, after, guard⟩ := o
  simp only at h
  cases op with
  | move x => simp only [evalOp, h x (by simp [Op.operands])]
  | assign x => simp only [evalOp, h x (by simp [Op.operands])]
  | pick c x y => simp only [evalOp, h c (by simp [Op.operands]), h x (by simp [Op.operands]), h y (by simp [Op.operands])]
  | box e x => simp only [evalOp, h x (by simp [Op.operands])]
  | build t ps => simp only [evalOp, partsW_congr (ps := ps.toList) (fun p hp => h p.2 (by simp [Op.operands]; exact ⟨p.1, by simpa using hp⟩))]
  | buildSlice t len ps => simp only [evalOp, partsW_congr (ps := ps.toList) (fun p hp => h p.2 (by simp [Op.operands]; exact ⟨p.1, by simpa using hp⟩))]
  | load t x => simp only [evalOp, h x (by simp [Op.operands])]
  | store t x y => simp only [evalOp, h x (by simp [Op.operands]), h y (by simp [Op.operands])]
  | fieldAddr s x f => simp only [evalOp, h x (by simp [Op.operands])]
  | field t x f => simp only [evalOp, h x (by simp [Op.operands]), hp]
  | indexAddr t x i => simp only [evalOp, h x (by simp [Op.operands]), h i (by simp [Op.operands])]
  | slice t x lo hi mx =>
    cases mx with
    | some m => rfl
    | none =>
      have e1 : lo.map get = lo.map get' := by cases lo with | none => rfl | some z => simp only [Option.map_some]; rw [h z (by simp [Op.operands])]
      have e2 : hi.map get = hi.map get' := by cases hi with | none => rfl | some z => simp only [Option.map_some]; rw [h z (by simp [Op.operands])]
      simp only [evalOp, h x (by simp [Op.operands]), e1, e2, hp]
  | makeSlice t l c => simp only [evalOp, h l (by simp [Op.operands]), h c (by simp [Op.operands])]
  | extract x k => simp only [evalOp, h x (by simp [Op.operands])]
  | nilCheck x => simp only [evalOp, h x (by simp [Op.operands]), hp]
  | makeFunc fn first captured =>
    cases fn with
    | func f => simp only [evalOp, ptrs_congr (xs := captured.toList) (fun x hx => h x (by simp [Op.operands]; exact .inr (by simpa using hx))), hp]
    | _ => rfl
  | call c =>
    obtain ⟨callee, args, argTypes⟩ := c
    have ha : ∀ x, x ∈ args → get x = get' x := fun x hx => h x (by simp [Op.operands, Call.operands]; exact .inr hx)
    cases callee with
    | builtin b =>
      cases b with
      | len =>
        simp only [evalOp]
        split
        · rename_i x t hx ht
          have hm : x ∈ args := by
            have : x ∈ args.toList := by rw [hx]; simp
            simpa using this
          rw [ha x hm, hp]
        · rfl
      | append =>
        simp only [evalOp]
        split
        · rename_i s x t t' hx ht
          have hs : s ∈ args := by
            have : s ∈ args.toList := by rw [hx]; simp
            simpa using this
          have hm : x ∈ args := by
            have : x ∈ args.toList := by rw [hx]; simp
            simpa using this
          rw [ha s hs, ha x hm]
        · rfl
      | copy =>
        simp only [evalOp]
        split
        · rename_i s x t t' hx ht
          have hs : s ∈ args := by
            have : s ∈ args.toList := by rw [hx]; simp
            simpa using this
          have hm : x ∈ args := by
            have : x ∈ args.toList := by rw [hx]; simp
            simpa using this
          rw [ha s hs, ha x hm]
        · rfl
      | _ => simp only [evalOp, hp]
    | _ => rfl
  | lookup t m k ok => simp only [evalOp]; rw [h m (by simp [Op.operands]), h k (by simp [Op.operands])]
  | binOp => simp only [evalOp, hp]
  | unOp => simp only [evalOp, hp]
  | convert src dst' x => simp only [evalOp, hp]; rw [h x (by simp [Op.operands])]
  | index => simp only [evalOp, hp]
  | makeInterface => simp only [evalOp, hp]
  | _ => rfl

theorem callOf_congr {get get' : Operand → V} {o : Oper} (h : ∀ x, x ∈ o.op.operands → get x = get' x) : callOf get o = callOf get' o := by
  unfold callOf
  split
  · rename_i f args tys ho
    rw [ho] at h
    rw [h f (by simp [Op.operands, Call.operands]), wsOf_congr (xs := args.toList) (fun x hx => h x (by simp [Op.operands, Call.operands]; exact .inr (by simpa using hx)))]
  · rfl

/-- Operations that look at the heap. -/
def looks : Op → Bool
  | .load .. | .store .. | .call .. | .lookup .. | .convert .. => true
  | _ => false

theorem evalOp_quiet {get : Operand → V} {heap : List (Nat × Blk)} {nid : Nat} {o : Oper} {v : V} {hp' : List (Nat × Blk)} (hl : looks o.op = false) (h : evalOp P get heap nid o = some (v, hp')) :
    ∃ pre : List (Nat × Blk), (∀ p, p ∈ pre → p.1 = nid) ∧ hp' = pre ++ heap ∧ ∀ heap2, evalOp P get heap2 nid o = some (v, pre ++ heap2) := by
  have pc : ((evalPure P get o).map fun v => (v, heap)) = some (v, hp') → ∃ pre : List (Nat × Blk), (∀ p, p ∈ pre → p.1 = nid) ∧ hp' = pre ++ heap ∧ ∀ heap2, ((evalPure P get o).map fun v => (v, heap2)) = some (v, pre ++ heap2) := by
    intro h
    simp only [Option.map_eq_some_iff, Prod.mk.injEq] at h
    obtain ⟨u, hu, rfl, rfl⟩ := h
    exact ⟨[], by simp, rfl, fun heap2 => by simp [hu]⟩
  obtain ⟨dst, op, ty, pos, after, guard⟩ := o
  simp only at hl
  cases op with
  | move x =>
    simp only [evalOp, Option.some.injEq, Prod.mk.injEq] at h
    obtain ⟨rfl, rfl⟩ := h
    exact ⟨[], by simp, rfl, fun _ => rfl⟩
  | assign x =>
    simp only [evalOp, Option.some.injEq, Prod.mk.injEq] at h
    obtain ⟨rfl, rfl⟩ := h
    exact ⟨[], by simp, rfl, fun _ => rfl⟩
  | pick c x y =>
    simp only [evalOp] at h ⊢
    split at h
    · rename_i b hb
      simp only [Option.some.injEq, Prod.mk.injEq] at h
      obtain ⟨rfl, rfl⟩ := h
      exact ⟨[], by simp, rfl, fun _ => by rfl⟩
    · simp at h
  | alloc e =>
    simp only [evalOp, Option.map_eq_some_iff, Prod.mk.injEq] at h
    obtain ⟨⟨u, p⟩, hp, rfl, rfl⟩ := h
    refine ⟨[p], ?_, rfl, fun _ => by simp only [evalOp, hp, Option.map_some]; rfl⟩
    unfold evalAlloc at hp
    split at hp
    · simp only [Option.some.injEq, Prod.mk.injEq] at hp
      obtain ⟨_, rfl⟩ := hp
      simp
    · simp at hp
  | box e x =>
    simp only [evalOp, Option.map_eq_some_iff, Prod.mk.injEq] at h
    obtain ⟨⟨u, p⟩, hp, rfl, rfl⟩ := h
    refine ⟨[p], ?_, rfl, fun _ => by simp only [evalOp, hp, Option.map_some]; rfl⟩
    unfold evalBox at hp
    split at hp
    · simp only [Option.some.injEq, Prod.mk.injEq] at hp
      obtain ⟨_, rfl⟩ := hp
      simp
    · simp at hp
  | build t ps =>
    simp only [evalOp] at h ⊢
    split at h
    · rename_i l hl'
      simp only [Option.map_eq_some_iff, Prod.mk.injEq] at h
      obtain ⟨u, hu, rfl, rfl⟩ := h
      exact ⟨[], by simp, rfl, fun _ => by simp [hu]⟩
    · simp at h
  | buildSlice t len ps =>
    simp only [evalOp] at h ⊢
    split at h
    · rename_i l hl'
      simp only [Option.map_eq_some_iff, Prod.mk.injEq] at h
      obtain ⟨⟨u, p⟩, hp, rfl, rfl⟩ := h
      refine ⟨[p], ?_, rfl, fun _ => by simp [hp]⟩
      unfold evalBuildSlice at hp
      split at hp
      · split at hp
        · split at hp
          · simp only [Option.map_eq_some_iff, Prod.mk.injEq] at hp
            obtain ⟨_, _, _, rfl⟩ := hp
            simp
          · simp at hp
        · simp at hp
      · simp at hp
    · simp at h
  | fieldAddr s x f =>
    simp only [evalOp, Option.map_eq_some_iff, Prod.mk.injEq] at h
    obtain ⟨u, hu, rfl, rfl⟩ := h
    exact ⟨[], by simp, rfl, fun _ => by simp [evalOp, hu]⟩
  | field t x f =>
    simp only [evalOp] at h ⊢
    split at h
    · rename_i u hu
      simp only [Option.some.injEq, Prod.mk.injEq] at h
      obtain ⟨rfl, rfl⟩ := h
      exact ⟨[], by simp, rfl, fun _ => rfl⟩
    · exact pc h
  | indexAddr t x i =>
    simp only [evalOp, Option.map_eq_some_iff, Prod.mk.injEq] at h
    obtain ⟨u, hu, rfl, rfl⟩ := h
    exact ⟨[], by simp, rfl, fun _ => by simp [evalOp, hu]⟩
  | slice t x lo hi mx =>
    cases mx with
    | some m => simp [evalOp] at h
    | none =>
      simp only [evalOp] at h ⊢
      split at h
      · rename_i u hu
        simp only [Option.some.injEq, Prod.mk.injEq] at h
        obtain ⟨rfl, rfl⟩ := h
        exact ⟨[], by simp, rfl, fun _ => rfl⟩
      · exact pc h
  | makeSlice t l c =>
    simp only [evalOp, Option.map_eq_some_iff, Prod.mk.injEq] at h
    obtain ⟨⟨u, p⟩, hp, rfl, rfl⟩ := h
    refine ⟨[p], ?_, rfl, fun _ => by simp only [evalOp, hp, Option.map_some]; rfl⟩
    unfold evalMakeSlice at hp
    split at hp
    · split at hp
      · split at hp
        · simp only [Option.some.injEq, Prod.mk.injEq] at hp
          obtain ⟨_, rfl⟩ := hp
          simp
        · simp at hp
      · simp at hp
    · simp at hp
  | extract x k =>
    simp only [evalOp] at h ⊢
    split at h
    · rename_i ws hws
      simp only [Option.map_eq_some_iff, Prod.mk.injEq] at h
      obtain ⟨u, hu, rfl, rfl⟩ := h
      exact ⟨[], by simp, rfl, fun _ => by simp [hu]⟩
    · simp at h
  | nilCheck x =>
    simp only [evalOp] at h ⊢
    split at h
    · simp only [Option.some.injEq, Prod.mk.injEq] at h
      obtain ⟨rfl, rfl⟩ := h
      exact ⟨[], by simp, rfl, fun _ => rfl⟩
    · simp only [Option.some.injEq, Prod.mk.injEq] at h
      obtain ⟨rfl, rfl⟩ := h
      exact ⟨[], by simp, rfl, fun _ => rfl⟩
    · exact pc h
  | makeFunc fn first captured =>
    cases fn with
    | func f =>
      simp only [evalOp] at h ⊢
      split at h
      · rename_i hc
        split at h
        · rename_i l hl'
          simp only [Option.some.injEq, Prod.mk.injEq] at h
          obtain ⟨rfl, rfl⟩ := h
          exact ⟨[], by simp, rfl, fun _ => by rw [if_pos hc]; rfl⟩
        · simp at h
      · rename_i hc
        obtain ⟨pre, h1, h2, h3⟩ := pc h
        exact ⟨pre, h1, h2, fun heap2 => by rw [if_neg hc]; exact h3 heap2⟩
    | _ => simp [evalOp] at h
  | binOp => exact pc (by simpa [evalOp] using h)
  | unOp => exact pc (by simpa [evalOp] using h)
  | convert => simp [looks] at hl
  | index => exact pc (by simpa [evalOp] using h)
  | makeInterface => exact pc (by simpa [evalOp] using h)
  | load => simp [looks] at hl
  | store => simp [looks] at hl
  | call => simp [looks] at hl
  | lookup => simp [looks] at hl
  | _ => simp [evalOp] at h

end Go.Abs
