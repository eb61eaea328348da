import Derived.Test.YtnkmmbgbdgonnaaGreatDoorAbsLoc
namespace Go.Abs
open Go

variable {P : Program}

def C.ids : C → List Nat
  | .own id .. => [id]
  | .ptr id .. => [id]
  | .clo _ caps => caps.map (·.1)
  | .map id => [id]
  | .it id => [id]
  | _ => []
def W.ids : W → List Nat
  | .one c => c.ids
  | .agg cs => cs.flatMap C.ids
def V.ids : V → List Nat
  | .w u => u.ids
  | .tup ws => ws.flatMap W.ids
  | .undef => []

/-- The blocks that an operation may look at. -/
def touch (get : Operand → V) (o : Oper) : List Nat := if looks o.op then o.op.operands.toList.flatMap fun x => (get x).ids else []

/-- Operations that write blocks that were there. -/
def writes : Op → Bool
  | .store .. => true
  | .call ⟨.builtin .append, _, _⟩ => true
  | .call ⟨.builtin .copy, _, _⟩ => true
  | _ => false

def four (nid : Nat) : List Nat := [nid, nid + 1, nid + 2, nid + 3]
theorem mem_four {nid id : Nat} : id ∈ four nid ↔ nid ≤ id ∧ id < nid + 4 := by simp [four]; omega

def wrs (get : Operand → V) (nid : Nat) (o : Oper) : List Nat := four nid ++ if writes o.op then touch get o else []

/-- Two heaps behind one operation. -/
def Alike (wr : List Nat) (hp hp' hp2 hp2' : List (Nat × Blk)) : Prop :=
  (∀ id, id ∈ wr → find hp2' id = find hp' id) ∧ (∀ id, ¬ id ∈ wr → find hp' id = find hp id ∧ find hp2' id = find hp2 id)

theorem Alike.pre {wr : List Nat} {hp hp2 pre : List (Nat × Blk)} (hw : ∀ id, id ∈ wr → find hp2 id = find hp id) (hpre : ∀ p, p ∈ pre → p.1 ∈ wr) : Alike wr hp (pre ++ hp) hp2 (pre ++ hp2) := by
  refine ⟨fun id hid => ?_, fun id hid => ?_⟩
  · rw [find_append, find_append, hw id hid]
  · have : find pre id = none := by
      cases hf : find pre id with
      | none => rfl
      | some b => exact absurd (hpre _ (mem_of_find hf)) hid
    rw [find_append, find_append, this]
    simp

theorem deref_congr {hp hp2 : List (Nat × Blk)} {c : C} (h : ∀ id, id ∈ c.ids → find hp2 id = find hp id) : deref hp2 c = deref hp c := by
  cases c with
  | ptr id sz i j => simp only [deref, h id (by simp [C.ids])]
  | _ => rfl

theorem elems_congr {hp hp2 : List (Nat × Blk)} {c : C} (h : ∀ id, id ∈ c.ids → find hp2 id = find hp id) : elems hp2 c = elems hp c := by
  cases c with
  | own id sz i len => simp only [elems, h id (by simp [C.ids])]
  | t x => cases x <;> rfl
  | _ => rfl

theorem lendC_congr {hp hp2 : List (Nat × Blk)} {c : C} (h : ∀ id, id ∈ c.ids → find hp2 id = find hp id) : lendC hp2 c = lendC hp c := by
  cases c with
  | own id sz i len => simp only [lendC, elems_congr (c := .own id sz i len) h]
  | _ => rfl

theorem lendCs_congr {hp hp2 : List (Nat × Blk)} : ∀ {cs : List C}, (∀ id, id ∈ cs.flatMap C.ids → find hp2 id = find hp id) → lendCs hp2 cs = lendCs hp cs
  | [], _ => rfl
  | c :: r, h => by simp only [lendCs, lendC_congr (c := c) (fun id hid => h id (by simp [hid])), lendCs_congr (cs := r) (fun id hid => h id (by simp at hid ⊢; exact .inr hid))]

theorem lendW_congr {hp hp2 : List (Nat × Blk)} {u : W} (h : ∀ id, id ∈ u.ids → find hp2 id = find hp id) : lendW hp2 u = lendW hp u := by
  cases u with
  | one c => simp only [lendW, lendC_congr (c := c) h]
  | agg cs => simp only [lendW, lendCs_congr (cs := cs) h]

theorem lendWs_congr {hp hp2 : List (Nat × Blk)} : ∀ {us : List W}, (∀ id, id ∈ us.flatMap W.ids → find hp2 id = find hp id) → lendWs hp2 us = lendWs hp us
  | [], _ => rfl
  | u :: r, h => by simp only [lendWs, lendW_congr (u := u) (fun id hid => h id (by simp [hid])), lendWs_congr (us := r) (fun id hid => h id (by simp at hid ⊢; exact .inr hid))]

theorem wsOf_ids {get : Operand → V} : ∀ {xs : List Operand} {us : List W}, wsOf get xs = some us → ∀ id, id ∈ us.flatMap W.ids → id ∈ xs.flatMap fun x => (get x).ids
  | [], us, h, id, hid => by simp only [wsOf, Option.some.injEq] at h; subst h; simp at hid
  | x :: r, us, h, id, hid => by
    simp only [wsOf] at h
    split at h
    · rename_i u l hx hl
      simp only [Option.some.injEq] at h
      subst h
      simp only [List.flatMap_cons, List.mem_append] at hid ⊢
      rcases hid with hid | hid
      · exact .inl (by rw [hx]; exact hid)
      · exact .inr (wsOf_ids hl id hid)
    · simp at h

theorem callOf_ids {get : Operand → V} {o : Oper} {g : FuncId} {us : List W} (h : callOf get o = some (g, us)) : looks o.op = true ∧ ∀ id, id ∈ us.flatMap W.ids → id ∈ touch get o := by
  unfold callOf at h
  split at h
  · rename_i f args tys ho
    have hlk : looks o.op = true := by rw [ho]; rfl
    refine ⟨hlk, ?_⟩
    have ht : touch get o = (get f).ids ++ args.toList.flatMap fun x => (get x).ids := by
      rw [touch, if_pos hlk, ho]
      simp [Op.operands, Call.operands]
    rw [ht]
    split at h
    · rename_i g' first caps us' hf hus
      split at h
      · simp only [Option.some.injEq, Prod.mk.injEq] at h
        obtain ⟨_, rfl⟩ := h
        intro id hid
        exact List.mem_append.2 (.inr (wsOf_ids hus id hid))
      · simp at h
    · rename_i g' caps us' hf hus
      simp only [Option.some.injEq, Prod.mk.injEq] at h
      obtain ⟨_, rfl⟩ := h
      intro id hid
      simp only [List.flatMap_append, List.mem_append] at hid
      rcases hid with hid | hid
      · exact List.mem_append.2 (.inr (wsOf_ids hus id hid))
      · refine List.mem_append.2 (.inl ?_)
        rw [hf]
        simp only [List.mem_flatMap, List.mem_map, W.ids, C.ids] at hid
        obtain ⟨w, ⟨p, hp, rfl⟩, hid⟩ := hid
        simp only [C.ids, List.mem_singleton] at hid
        simp only [V.ids, W.ids, C.ids, List.mem_map]
        exact ⟨p, hp, hid.symm⟩
    · rename_i g' b ts us' hf hus
      simp only [Option.map_eq_some_iff, Prod.mk.injEq] at h
      obtain ⟨u0, hu0, _, rfl⟩ := h
      intro id hid
      simp only [List.flatMap_cons, List.mem_append] at hid
      rcases hid with hid | hid
      · exfalso
        cases b with
        | true =>
          simp only [recvW, Option.some.injEq] at hu0
          subst hu0
          simp only [W.ids, List.mem_flatMap, List.mem_map] at hid
          obtain ⟨c, ⟨t, _, rfl⟩, hid⟩ := hid
          simp [C.ids] at hid
        | false =>
          unfold recvW at hu0
          split at hu0
          · simp at *
          · simp only [Option.some.injEq] at hu0
            subst hu0
            simp [W.ids, C.ids] at hid
          · simp at hu0
      · exact List.mem_append.2 (.inr (wsOf_ids hus id hid))
    · simp at h
  · simp at h

theorem upHeap_ids {nid : Nat} : ∀ {hout : List (Nat × Blk)} {p : Nat × Blk}, p ∈ upHeap nid hout → p.1 ∈ four nid
  | [], p, h => by simp [upHeap] at h
  | (id, b) :: r, p, h => by
    simp only [upHeap] at h
    split at h
    · rename_i hid
      rcases List.mem_cons.1 h with rfl | h
      · rw [mem_four]; simp; omega
      · exact upHeap_ids h
    · exact upHeap_ids h

theorem evalAppend_local {t : TypeId} {s x v : V} {hp hp' hp2 : List (Nat × Blk)} {nid : Nat} {wr : List Nat} (h : evalAppend P t s x hp nid = some (v, hp'))
    (hs : ∀ id, id ∈ s.ids → id ∈ wr) (hx : ∀ id, id ∈ x.ids → id ∈ wr) (hn : nid ∈ wr) (hw : ∀ id, id ∈ wr → find hp2 id = find hp id) :
    ∃ hp2', evalAppend P t s x hp2 nid = some (v, hp2') ∧ Alike wr hp hp' hp2 hp2' := by
  unfold evalAppend at h ⊢
  split at h
  · rename_i s x
    have hel : elems hp2 x = elems hp x := elems_congr (fun id hid => hw id (hx id hid))
    split at h
    · rename_i e hu
      split at h
      · rename_i size bytes sz ys hT hys
        have hys2 : (if isNil x = true then some (0, []) else elems hp2 x) = some (sz, ys) := by rw [hel]; exact hys
        simp only [hys2, hT]
        split at h
        · rename_i hemp
          rw [if_pos hemp]
          split at h
          · rename_i hlen
            simp only [Option.some.injEq, Prod.mk.injEq] at h
            obtain ⟨rfl, rfl⟩ := h
            exact ⟨hp2, by rw [if_pos hlen], ⟨fun id hid => hw id hid, fun id _ => ⟨rfl, rfl⟩⟩⟩
          · simp at h
        · rename_i hemp
          rw [if_neg hemp]
          split at h
          · rename_i hsz
            rw [if_pos hsz]
            split at h
            · rename_i id sz' len
              have hid : id ∈ wr := hs id (by simp [V.ids, W.ids, C.ids])
              have hf2 := hw id hid
              split at h
              · rename_i sz2 xs hf
                split at h
                · rename_i hc
                  simp only [Option.some.injEq, Prod.mk.injEq] at h
                  obtain ⟨rfl, rfl⟩ := h
                  refine ⟨(nid, .row size (xs ++ ys)) :: del hp2 id, by simp only [hf2, hf, if_pos hc], ⟨fun k hk => ?_, fun k hk => ?_⟩⟩
                  · simp only [find_cons, find_del, hw k hk]
                  · have h1 : ¬ nid = k := fun e => hk (e ▸ hn)
                    have h2 : ¬ k = id := fun e => hk (e ▸ hid)
                    simp only [find_cons, find_del, h1, h2, if_false]
                    exact ⟨trivial, trivial⟩
                · simp at h
              · simp at h
            · rename_i hne
              split at h
              · rename_i hc
                simp only [Option.some.injEq, Prod.mk.injEq] at h
                obtain ⟨rfl, rfl⟩ := h
                refine ⟨_, by rw [if_pos hc], ?_⟩
                exact Alike.pre (pre := [_]) hw (by simp; exact hn)
              · simp at h
          · simp at h
      · simp at h
    · simp at h
  · simp at h


theorem evalCopy_local {t : TypeId} {d s v : V} {hp hp' hp2 : List (Nat × Blk)} {wr : List Nat} (h : evalCopy P t d s hp = some (v, hp'))
    (hd : ∀ id, id ∈ d.ids → id ∈ wr) (hs : ∀ id, id ∈ s.ids → id ∈ wr) (hw : ∀ id, id ∈ wr → find hp2 id = find hp id) : ∃ hp2', evalCopy P t d s hp2 = some (v, hp2') ∧ Alike wr hp hp' hp2 hp2' := by
  unfold evalCopy at h
  split at h
  · rename_i id sz i len x
    have e1 : elems hp2 x = elems hp x := elems_congr fun k hk => hw k (hs k (by simpa [V.ids, W.ids] using hk))
    have e2 : find hp2 id = find hp id := hw id (hd id (by simp [V.ids, W.ids, C.ids]))
    split at h
    · rename_i e hu
      split at h
      · rename_i size sz2 ys hsz hys
        split at h
        · rename_i h0
          simp only [Option.some.injEq, Prod.mk.injEq] at h
          obtain ⟨rfl, rfl⟩ := h
          exact ⟨hp2, by simp only [evalCopy, hu, e1, hsz, hys, if_pos h0], ⟨hw, fun _ _ => ⟨rfl, rfl⟩⟩⟩
        · rename_i h0
          split at h
          · rename_i sz' xs hf
            split at h
            · rename_i hc
              simp only [Option.some.injEq, Prod.mk.injEq] at h
              obtain ⟨rfl, rfl⟩ := h
              refine ⟨upd hp2 id (.row size (splice xs i (ys.take len))), by simp only [evalCopy, hu, e1, hsz, hys, if_neg h0, e2, hf, if_pos hc], ⟨fun k hk => ?_, fun k hk => ?_⟩⟩
              · simp only [find_upd, e2, hw k hk]
              · have : ¬ k = id := fun e => hk (e ▸ hd id (by simp [V.ids, W.ids, C.ids]))
                simp only [find_upd, this, if_false]
                exact ⟨trivial, trivial⟩
            · simp at h
          · simp at h
      · simp at h
    · simp at h
  · simp at h

/-- One operation of a region, in text order: what it comes to. -/
def StepOk (P : Program) (ops : Array Oper) (o : Oper) (n : Nat) (tm : List (Nat × V)) (hp : List (Nat × Blk)) (nid : Nat) (v : V) (hp' : List (Nat × Blk)) : Prop :=
  dstOk n o.dst = true ∧
  match evalGuard ops o tm with
  | none => False
  | some false => v = .tup [] ∧ hp' = hp
  | some true =>
    match callOf (St.get ⟨n, tm, hp⟩) o with
    | some (g, us) => enters P g = true ∧ CallTo P hp nid g us v hp'
    | none => evalOp P (St.get ⟨n, tm, hp⟩) hp nid o = some (v, hp')

/-- The temporaries that an operation looks at. -/
def names (ops : Array Oper) (o : Oper) : List Nat :=
  (o.op.operands.toList.filterMap fun | .tmp t => some t | _ => none) ++
  match o.guard with
  | some (j, _) => ((ops[j]?).bind (·.dst)).toList
  | none => []

theorem get_congr {ops : Array Oper} {o : Oper} {n n2 : Nat} {tm tm2 : List (Nat × V)} {hp hp2 : List (Nat × Blk)} (h : ∀ t, t ∈ names ops o → find tm2 t = find tm t) (x : Operand) (hx : x ∈ o.op.operands) :
    St.get ⟨n2, tm2, hp2⟩ x = St.get ⟨n, tm, hp⟩ x := by
  cases x with
  | tmp t =>
    simp only [St.get]
    rw [h t]
    simp only [names, List.mem_append, List.mem_filterMap]
    exact .inl ⟨.tmp t, by simpa using hx, rfl⟩
  | _ => rfl

theorem guard_congr {ops : Array Oper} {o : Oper} {tm tm2 : List (Nat × V)} (h : ∀ t, t ∈ names ops o → find tm2 t = find tm t) : evalGuard ops o tm2 = evalGuard ops o tm := by
  unfold evalGuard
  split
  · rfl
  · rename_i j want hg
    split
    · rfl
    · rename_i d hd
      rw [h d (by simp [names, hg, hd])]

theorem touch_congr {get get2 : Operand → V} {o : Oper} (h : ∀ x, x ∈ o.op.operands → get2 x = get x) : touch get2 o = touch get o := by
  unfold touch
  split
  · rw [List.flatMap_def, List.flatMap_def, List.map_congr_left]
    intro x hx
    rw [h x (by simpa using hx)]
  · rfl

theorem StepOk.loc {ops : Array Oper} {o : Oper} {n nid : Nat} {tm tm2 : List (Nat × V)} {hp hp' hp2 : List (Nat × Blk)} {v : V} (h : StepOk P ops o n tm hp nid v hp')
    (ht : ∀ t, t ∈ names ops o → find tm2 t = find tm t) (hh : ∀ id, id ∈ touch (St.get ⟨n, tm, hp⟩) o → find hp2 id = find hp id) (hf : ∀ id, id ∈ four nid → find hp2 id = find hp id) :
    ∃ hp2', StepOk P ops o n tm2 hp2 nid v hp2' ∧ Alike (wrs (St.get ⟨n, tm, hp⟩) nid o) hp hp' hp2 hp2' := by
  have hg := guard_congr (ops := ops) (o := o) ht
  have hget := fun x hx => get_congr (ops := ops) (o := o) (n := n) (n2 := n) (hp := hp) (hp2 := hp2) ht x hx
  have hw : ∀ id, id ∈ wrs (St.get ⟨n, tm, hp⟩) nid o → find hp2 id = find hp id := by
    intro id hid
    simp only [wrs, List.mem_append] at hid
    rcases hid with hid | hid
    · exact hf id hid
    · split at hid
      · exact hh id hid
      · simp at hid
  have h4 : ∀ id, id ∈ four nid → id ∈ wrs (St.get ⟨n, tm, hp⟩) nid o := fun id hid => by simp only [wrs, List.mem_append]; exact .inl hid
  obtain ⟨hd, h⟩ := h
  unfold StepOk
  rw [hg]
  split at h
  · exact h.elim
  · obtain ⟨rfl, rfl⟩ := h
    exact ⟨hp2, ⟨hd, rfl, rfl⟩, ⟨hw, fun id _ => ⟨rfl, rfl⟩⟩⟩
  · rename_i hgt
    clear hgt
    have hco := callOf_congr (get := St.get ⟨n, tm2, hp2⟩) (get' := St.get ⟨n, tm, hp⟩) (o := o) hget
    rw [hco]
    split at h
    · rename_i g us hcall
      obtain ⟨he, res, hout, targs, k1, rfl, rfl, k4⟩ := h
      refine ⟨upHeap nid hout ++ hp2, ⟨hd, he, res, hout, targs, k1, rfl, rfl, ?_⟩, Alike.pre hw (fun p hp => h4 _ (upHeap_ids hp))⟩
      rcases k4 with k4 | ⟨q1, q2⟩
      · exact .inl k4
      · refine .inr ⟨?_, q2⟩
        rw [lendWs_congr (fun id hid => hh id ((callOf_ids hcall).2 id hid))]
        exact q1
    · rename_i hcn
      clear hcn
      have hev := evalOp_congr (P := P) (get := St.get ⟨n, tm2, hp2⟩) (get' := St.get ⟨n, tm, hp⟩) (heap := hp2) (nid := nid) (o := o) hget
      simp only [hev]
      cases hlk : looks o.op with
      | false =>
        obtain ⟨pre, p1, rfl, p3⟩ := evalOp_quiet hlk h
        exact ⟨pre ++ hp2, ⟨hd, p3 hp2⟩, Alike.pre hw (fun p hp => by rw [p1 p hp]; exact h4 _ (by simp [four]))⟩
      | true =>
        have htouch : touch (St.get ⟨n, tm, hp⟩) o = o.op.operands.toList.flatMap fun x => (St.get ⟨n, tm, hp⟩ x).ids := by rw [touch, if_pos hlk]
        obtain ⟨dst, op, ty, pos, after, guard⟩ := o
        simp only at hlk htouch h hh hw h4
        cases op <;> simp [looks] at hlk
        case load t x =>
          simp only [evalOp, Option.map_eq_some_iff, Prod.mk.injEq] at h
          obtain ⟨u, hu, rfl, rfl⟩ := h
          refine ⟨hp2, ⟨hd, ?_⟩, ⟨hw, fun id _ => ⟨rfl, rfl⟩⟩⟩
          unfold evalLoad at hu
          simp only [evalOp, evalLoad]
          split at hu
          · rename_i c hc
            have : deref hp2 c = deref hp c := deref_congr (fun id hid => hh id (by rw [htouch]; simp [Op.operands, hc, V.ids, W.ids, hid]))
            rw [this]
            simp only [hu, Option.map_some]
          · simp at hu
        case convert src dst' x =>
          have hsame : evalBytes P src dst' (St.get ⟨n, tm, hp⟩ x) hp2 = evalBytes P src dst' (St.get ⟨n, tm, hp⟩ x) hp := by
            unfold evalBytes
            split
            · rename_i id sz i len hx
              rw [elems_congr (hp := hp) (fun id' hid => hh id' (by rw [htouch]; simp only [Op.operands, List.mem_flatMap]; exact ⟨x, by simp, by rw [hx]; exact hid⟩))]
            · rfl
          simp only [evalOp] at h
          split at h
          · rename_i u hu
            simp only [Option.some.injEq, Prod.mk.injEq] at h
            obtain ⟨rfl, rfl⟩ := h
            exact ⟨hp2, ⟨hd, by simp only [evalOp, hsame, hu]⟩, ⟨hw, fun id _ => ⟨rfl, rfl⟩⟩⟩
          · rename_i hu
            simp only [Option.map_eq_some_iff, Prod.mk.injEq] at h
            obtain ⟨u, hpu, rfl, rfl⟩ := h
            exact ⟨hp2, ⟨hd, by simp only [evalOp, hsame, hu, hpu, Option.map_some]⟩, ⟨hw, fun id _ => ⟨rfl, rfl⟩⟩⟩
        case lookup t m k ok =>
          simp only [evalOp, Option.map_eq_some_iff, Prod.mk.injEq] at h
          obtain ⟨u, hu, rfl, rfl⟩ := h
          refine ⟨hp2, ⟨hd, ?_⟩, ⟨hw, fun id _ => ⟨rfl, rfl⟩⟩⟩
          simp only [evalOp]
          rw [evalLookup_congr (hp := hp) (fun id hid => hh id (by rw [htouch]; simp [Op.operands, hid, V.ids, W.ids, C.ids])), hu]
          rfl
        case store t x y =>
          simp only [evalOp, Option.map_eq_some_iff, Prod.mk.injEq] at h
          obtain ⟨hq, hu, rfl, rfl⟩ := h
          unfold evalStore at hu
          split at hu
          · rename_i id sz i j u hx hy
            have hid : id ∈ touch (St.get ⟨n, tm, hp⟩) ⟨dst, .store t x y, ty, pos, after, guard⟩ := by rw [htouch]; simp [Op.operands, hx, V.ids, W.ids, C.ids]
            have hidw : id ∈ wrs (St.get ⟨n, tm, hp⟩) nid ⟨dst, .store t x y, ty, pos, after, guard⟩ := by simp only [wrs, writes, if_true, List.mem_append]; exact .inr hid
            have hf2 := hh id hid
            split at hu
            · rename_i sz' xs m hfd hm
              split at hu
              · rename_i el hel
                split at hu
                · rename_i hc
                  simp only [Option.some.injEq] at hu
                  subst hu
                  refine ⟨upd hp2 id (.row sz (xs.set i (splice el j (cellsOf u)))), ⟨hd, ?_⟩, ⟨fun k hk => ?_, fun k hk => ?_⟩⟩
                  · simp only [evalOp, evalStore, hx, hy, hf2, hfd, hm, hel, if_pos hc, Option.map_some]
                  · simp only [find_upd, hf2, hw k hk]
                  · have : ¬ k = id := fun e => hk (e ▸ hidw)
                    simp only [find_upd, this, if_false]
                    exact ⟨trivial, trivial⟩
                · simp at hu
              · simp at hu
            · simp at hu
          · simp at hu
        case call c =>
          obtain ⟨callee, args, argTypes⟩ := c
          simp only [evalOp] at h
          have same : ∀ {q : Option V}, (q.map fun v => (v, hp)) = some (v, hp') → (q.map fun v => (v, hp2)) = some (v, hp2) ∧ hp' = hp := by
            intro q hq
            simp only [Option.map_eq_some_iff, Prod.mk.injEq] at hq
            obtain ⟨u, rfl, rfl, rfl⟩ := hq
            exact ⟨rfl, rfl⟩
          split at h
          · split at h
            · rename_i x t hargs htys
              split at h
              · rename_i e hu
                obtain ⟨k1, rfl⟩ := same h
                exact ⟨hp2, ⟨hd, by simp only [evalOp, hargs, htys, hu]; exact k1⟩, ⟨hw, fun id _ => ⟨rfl, rfl⟩⟩⟩
              · rename_i hu
                obtain ⟨k1, rfl⟩ := same h
                refine ⟨hp2, ⟨hd, ?_⟩, ⟨hw, fun id _ => ⟨rfl, rfl⟩⟩⟩
                simp only [evalOp, hargs, htys]
                exact k1
            · simp at h
          · split at h
            · rename_i s x t t' hargs htys
              split at h
              · rename_i htt
                subst htt
                have hsub : ∀ (z : Operand), z ∈ args.toList → ∀ id, id ∈ (St.get ⟨n, tm, hp⟩ z).ids → id ∈ wrs (St.get ⟨n, tm, hp⟩) nid ⟨dst, .call ⟨.builtin .append, args, argTypes⟩, ty, pos, after, guard⟩ := by
                  intro z hz id hid
                  simp only [wrs, writes, if_true, List.mem_append]
                  refine .inr ?_
                  rw [htouch]
                  simp only [Op.operands, Call.operands, List.mem_flatMap]
                  exact ⟨z, by simpa using hz, hid⟩
                obtain ⟨hp2', k1, k2⟩ := evalAppend_local h (hsub s (by rw [hargs]; simp)) (hsub x (by rw [hargs]; simp)) (h4 nid (by simp [four])) hw
                exact ⟨hp2', ⟨hd, by simp only [evalOp, hargs, htys, if_true]; exact k1⟩, k2⟩
              · simp at h
            · simp at h
          · split at h
            · rename_i d s t t' hargs htys
              have hsub : ∀ (z : Operand), z ∈ args.toList → ∀ id, id ∈ (St.get ⟨n, tm, hp⟩ z).ids → id ∈ wrs (St.get ⟨n, tm, hp⟩) nid ⟨dst, .call ⟨.builtin .copy, args, argTypes⟩, ty, pos, after, guard⟩ := by
                intro z hz id hid
                simp only [wrs, writes, if_true, List.mem_append]
                refine .inr ?_
                rw [htouch]
                simp only [Op.operands, Call.operands, List.mem_flatMap]
                exact ⟨z, by simpa using hz, hid⟩
              obtain ⟨hp2', k1, k2⟩ := evalCopy_local h (hsub d (by rw [hargs]; simp)) (hsub s (by rw [hargs]; simp)) hw
              exact ⟨hp2', ⟨hd, by simp only [evalOp, hargs, htys]; exact k1⟩, k2⟩
            · simp at h
          · rename_i b hb1 hb2 hb3
            obtain ⟨k1, rfl⟩ := same h
            refine ⟨hp2, ⟨hd, ?_⟩, ⟨hw, fun id _ => ⟨rfl, rfl⟩⟩⟩
            simp only [evalOp]
            exact k1
          · simp at h

end Go.Abs
