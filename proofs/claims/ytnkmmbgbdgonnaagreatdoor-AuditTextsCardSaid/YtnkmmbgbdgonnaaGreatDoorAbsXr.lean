import Derived.Test.YtnkmmbgbdgonnaaGreatDoorAbsX
namespace Go.Abs
open Go

/-- Forcing a list's spine. -/
def frcL {α : Type} {β : Sort _} : List α → (List α → β) → β
  | [], k => k []
  | x :: r, k => frcL r fun r => k (x :: r)

theorem frcL_eq {α : Type} {β : Sort _} : ∀ (l : List α) (k : List α → β), frcL l k = k l
  | [], _ => rfl
  | x :: r, k => by simp only [frcL]; rw [frcL_eq r]

/-- A branch on a Bool. -/
def br (b : Bool) (x y : Prop) : Prop := match b with | true => x | false => y

theorem br_intro {b : Bool} {x y : Prop} (hx : b = true → x) (hy : b = false → y) : br b x y := by
  cases b
  · exact hy rfl
  · exact hx rfl

theorem br_elim {b : Bool} {x y : Prop} (h : br b x y) : (b = true ∧ x) ∨ (b = false ∧ y) := by
  cases b
  · exact .inr ⟨rfl, h⟩
  · exact .inl ⟨rfl, h⟩

def partsX (tm : List (Nat × V)) : List (Nat × Opd) → Option (List (Nat × W))
  | [] => some []
  | (i, x) :: r => match x.get tm, partsX tm r with
    | .w u, some l => some ((i, u) :: l)
    | _, _ => none

/-- Cells laid over the zero value, field by field. -/
def fillX (tm : List (Nat × V)) (cells : List C) : List (Nat × Nat × Opd) → Option (List C)
  | [] => some cells
  | (off, size, x) :: rest =>
    match x.get tm with
    | .w u => if (cellsOf u).length = size ∧ off + size ≤ cells.length then fillX tm (splice cells off (cellsOf u)) rest else none
    | _ => none

def capsX (tm : List (Nat × V)) : List Opd → Option (List (Nat × Nat × Nat × Nat))
  | [] => some []
  | x :: r => match x.get tm, capsX tm r with
    | .w (.one (.ptr id sz i j)), some l => some ((id, sz, i, j) :: l)
    | _, _ => none

def pickR (n : Option Nat) (cs : List C) (j : Nat) (K : V → Prop) : Prop :=
  match n with
  | some n => if j + n ≤ cs.length then frcL ((cs.drop j).take n) fun l => K (.w (.agg l)) else False
  | none => match cs[j]? with
    | some c => frcC c fun c => K (.w (.one c))
    | none => False

/-- The elements of a slice, also of a nil one. -/
def elemsN (hp : List (Nat × Blk)) (x : C) : Option (Nat × List (List C)) :=
  match x with
  | .t (.val (.slice none 0 0)) => some (0, [])
  | x => elems hp x

theorem elemsN_eq (hp : List (Nat × Blk)) (x : C) : elemsN hp x = if isNil x then some (0, []) else elems hp x := by
  unfold elemsN
  split
  · rfl
  · rename_i hne
    have : isNil x = false := by
      unfold isNil
      split
      · exact absurd rfl hne
      · rfl
    rw [this]; rfl

def XR (r : Ro) (tm : List (Nat × V)) (hp : List (Nat × Blk)) (nid : Nat) (K : V → List (Nat × Blk) → Prop) : Prop :=
  match r with
  | .mov x => frc (x.get tm) fun v => K v hp
  | .pick c x y => match (c.get tm).bool? with
    | some b => br b (frc (x.get tm) fun v => K v hp) (frc (y.get tm) fun v => K v hp)
    | none => False
  | .alloc z => K (.w (.one (.ptr nid z.length 0 0))) ((nid, .row z.length [z]) :: hp)
  | .box x => match x.get tm with
    | .w u => frcL (cellsOf u) fun cs => K (.w (.one (.ptr nid cs.length 0 0))) ((nid, .row cs.length [cs]) :: hp)
    | _ => False
  | .build z ps => match fillX tm z ps with
    | some cs => frcL cs fun cs => K (.w (.agg cs)) hp
    | none => False
  | .bslice z len ps => match partsX tm ps with
    | some l => match fillE z.length (List.replicate len z) l with
      | some xs => frcL xs fun xs => K (.w (.one (.own nid z.length 0 len))) ((nid, .row z.length xs) :: hp)
      | none => False
    | none => False
  | .load n x => match x.get tm with
    | .w (.one c) => match deref hp c with
      | some (cs, j) => pickR n cs j fun v => K v hp
      | none => False
    | _ => False
  | .store n x y => match x.get tm, y.get tm with
    | .w (.one (.ptr id sz i j)), .w u => match find hp id with
      | some (.row sz' xs) => match xs[i]? with
        | some el => if sz' = sz ∧ (cellsOf u).length = n ∧ j + n ≤ el.length then
            frcL (splice el j (cellsOf u)) fun el' => frcL (upd hp id (.row sz (xs.set i el'))) fun h => K .undef h
          else False
        | none => False
      | _ => False
    | _, _ => False
  | .faddr off x => match x.get tm with
    | .w (.one (.ptr id sz i j)) => K (.w (.one (.ptr id sz i (j + off)))) hp
    | .w (.one (.roe e j)) => K (.w (.one (.roe e (j + off)))) hp
    | _ => False
  | .field off n x => match x.get tm with
    | .w (.agg cs) => pickR n cs off fun v => K v hp
    | _ => False
  | .iaddr size x i => match x.get tm, (i.get tm).int? with
    | .w (.one (.own id sz i0 len)), some (_, n) => if sz = size then (0 ≤ n ∧ n < len) ∧ K (.w (.one (.ptr id sz (i0 + n.toNat) 0))) hp else False
    | .w (.one (.t (.lst sz xs))), some (_, n) => if sz = size then 0 ≤ n ∧ ∃ e, xs[n.toNat]? = some e ∧ K (.w (.one (.roe e 0))) hp else False
    | _, _ => False
  | .iaddrA len size x i => match x.get tm, (i.get tm).int? with
    | .w (.one c), some (_, n) => match c.shift (n.toNat * size) with
      | some d => (0 ≤ n ∧ n < len) ∧ K (.w (.one d)) hp
      | none => False
    | _, _ => False
  | .slice size x lo hi => match x.get tm with
    | .w (.one c) => match c.len?, c.sz? with
      | some len, some sz => if sz = size then match bound? (lo.map (·.get tm)) 0, bound? (hi.map (·.get tm)) len with
          | some l, some h => (l ≤ h ∧ h ≤ len) ∧ match cutC c l h with
            | some d => K (.w (.one d)) hp
            | none => False
          | _, _ => False
        else False
      | _, _ => False
    | _ => False
  | .make z bytes l c => match (l.get tm).int?, (c.get tm).int? with
    | some (_, l), some (_, c) => (0 ≤ l ∧ l ≤ c ∧ c ≤ 4611686018427387904 ∧ c * bytes ≤ 281474976710656) ∧
        K (.w (.one (.own nid z.length 0 l.toNat))) ((nid, .row z.length (List.replicate l.toNat z)) :: hp)
    | _, _ => False
  | .extract x k => match x.get tm with
    | .tup ws => match ws[k]? with
      | some u => frc (.w u) fun v => K v hp
      | none => False
    | _ => False
  | .clo f caps => match capsX tm caps with
    | some l => K (.w (.one (.clo f l))) hp
    | none => False
  | .len x => match x.get tm with
    | .w (.one c) => match c.len? with
      | some n => K (iV .i64 (n : Int)) hp
      | none => False
    | _ => False
  | .append size bytes s x => match s.get tm, x.get tm with
    | .w (.one s), .w (.one x) => match elemsN hp x with
      | some (_, []) => match s.len? with
        | some _ => frcC s fun s => K (.w (.one s)) hp
        | none => False
      | some (sz, y :: ys) => match s with
        | .own id sz' 0 len => match find hp id with
          | some (.row sz2 xs) =>
            if sz = size ∧ sz' = size ∧ sz2 = size then (len = xs.length ∧ (xs.length + (ys.length + 1)) * bytes ≤ maxRoom ∧ xs.length + (ys.length + 1) ≤ maxLen) ∧
              frcL (del hp id) fun hp => K (.w (.one (.own nid size 0 (xs.length + (ys.length + 1))))) ((nid, .row size (xs ++ y :: ys)) :: hp)
            else False
          | _ => False
        | .t (.val (.slice none 0 0)) => if sz = size then ((ys.length + 1) * bytes ≤ maxRoom ∧ ys.length + 1 ≤ maxLen) ∧
            K (.w (.one (.own nid size 0 (ys.length + 1)))) ((nid, .row size (y :: ys)) :: hp) else False
        | _ => False
      | none => False
    | _, _ => False
  | .bin op x y => match x.get tm, y.get tm with
    | .w (.one (.t (.val (.int k a)))), .w (.one (.t (.val (.int k' b)))) =>
      if k = k' then match op with
        | .quo => b ≠ 0 ∧ K (iV k (k.wrap (a.tdiv b))) hp
        | .rem => b ≠ 0 ∧ K (iV k (a.tmod b)) hp
        | .shl => 0 ≤ b ∧ K (iV k (k.wrap (a * 2 ^ (min b.toNat k.bits)))) hp
        | .shr => 0 ≤ b ∧ K (iV k (a.fdiv (2 ^ (min b.toNat k.bits)))) hp
        | .and => K (iV k (k.wrap (BitVec.ofInt k.bits a &&& BitVec.ofInt k.bits b).toNat)) hp
        | .or => K (iV k (k.wrap (BitVec.ofInt k.bits a ||| BitVec.ofInt k.bits b).toNat)) hp
        | op => match binI op k a b with
          | some (.int j n) => K (iV j n) hp
          | some (.bool c) => K (bV c) hp
          | _ => False
      else False
    | .w (.one (.t (.val (.string a)))), .w (.one (.t (.val (.string b)))) => match op with
      | .add => a.size + b.size ≤ 9223372036854775807 ∧ K (.w (.one (.t (.val (.string (a ++ b)))))) hp
      | .eql => K (bV (a.toList == b.toList)) hp
      | .neq => K (bV (!(a.toList == b.toList))) hp
      | _ => False
    | _, _ => False
  | .binB op x y => match (x.get tm).bool?, (y.get tm).bool? with
    | some a, some b => match op with
      | .eql => K (bV (a == b)) hp
      | .neq => K (bV (!(a == b))) hp
      | _ => False
    | _, _ => False
  | .smin x y => match (x.get tm).int?, (y.get tm).int? with
    | some (k, a), some (_, b) => K (iV k (if b < a then b else a)) hp
    | _, _ => False
  | .smax x y => match (x.get tm).int?, (y.get tm).int? with
    | some (k, a), some (_, b) => K (iV k (if b > a then b else a)) hp
    | _, _ => False
  | .slen x => match x.get tm with
    | .w (.one (.t (.val (.string s)))) => K (iV .i64 (s.size : Int)) hp
    | _ => False
  | .sidx x i => match x.get tm, (i.get tm).int? with
    | .w (.one (.t (.val (.string s)))), some (_, n) => 0 ≤ n ∧ ∃ b, s[n.toNat]? = some b ∧ K (iV .u8 (b.toNat : Int)) hp
    | _, _ => False
  | .not x => match (x.get tm).bool? with
    | some b => K (bV (!b)) hp
    | none => False
  | .neg x => match (x.get tm).int? with
    | some (k, n) => K (iV k (k.wrap (0 - n))) hp
    | none => False
  | .conv k x => match (x.get tm).int? with
    | some (_, n) => K (iV k (k.wrap n)) hp
    | none => False
  | .bstr x => match x.get tm with
    | .w (.one (.own id sz i len)) => match elems hp (.own id sz i len) with
      | some (1, y :: ys) => match byteL (y :: ys) with
        | some ns => K (.w (.one (.t (.val (.string (strOfNums ns)))))) hp
        | none => False
      | _ => False
    | _ => False
  | _ => False


variable {P : Program} {st : St}

theorem partsX_eq (st : St) : ∀ (ps : List (Nat × Operand)), partsX st.tmps (ps.map fun p => (p.1, opd p.2)) = partsW st.get ps
  | [] => rfl
  | (i, x) :: r => by simp only [List.map_cons, partsX, partsW, opd_get, partsX_eq st r]; rfl

theorem fillX_sound {place : Nat → Option (Nat × Nat)} : ∀ {ps : List (Nat × Operand)} {l : List (Nat × Nat × Opd)} {z cs : List C}, partsR place ps = some l → fillX st.tmps z l = some cs →
    ∃ us, partsW st.get ps = some us ∧ fillC place z us = some cs
  | [], l, z, cs, h, hf => by
    simp only [partsR, Option.some.injEq] at h
    subst h
    simp only [fillX, Option.some.injEq] at hf
    subst hf
    exact ⟨[], rfl, rfl⟩
  | (i, x) :: r, l, z, cs, h, hf => by
    simp only [partsR] at h
    split at h
    · rename_i off size l' hp hl
      simp only [Option.some.injEq] at h
      subst h
      simp only [fillX, opd_get] at hf
      split at hf
      · rename_i u hu
        split at hf
        · rename_i hc
          obtain ⟨us, h1, h2⟩ := fillX_sound hl hf
          exact ⟨(i, u) :: us, by simp only [partsW, hu, h1], by simp only [fillC, hp, if_pos hc, h2]⟩
        · simp at hf
      · simp at hf
    · simp at h

theorem capsX_eq (st : St) : ∀ (xs : List Operand), capsX st.tmps (xs.map opd) = ptrs st.get xs
  | [] => rfl
  | x :: r => by simp only [List.map_cons, capsX, ptrs, opd_get, capsX_eq st r]; rfl

theorem pickR_sound {t : TypeId} {n : Option Nat} {cs : List C} {j : Nat} {K : V → Prop} (hn : szOf P t = some n) (h : pickR n cs j K) : ∃ u, pickAt P t cs j = some u ∧ K (.w u) := by
  unfold szOf at hn
  split at hn
  · rename_i hagg
    split at hn
    · rename_i m hm
      simp only [Option.some.injEq] at hn
      subst hn
      simp only [pickR] at h
      split at h
      · rename_i hle
        rw [frcL_eq] at h
        exact ⟨_, by simp only [pickAt, hagg, hm, if_pos hle], h⟩
      · exact h.elim
    · simp at hn
  · rename_i hagg
    simp only [Option.some.injEq] at hn
    subst hn
    simp only [pickR] at h
    split at h
    · rename_i c hc
      rw [frcC_eq] at h
      exact ⟨.one c, by simp only [pickAt, hagg, hc, Option.map_some], h⟩
    · exact h.elim
  · simp at hn


theorem int?_val {v : V} {k : IntKind} {n : Int} (hb : v.int? = some (k, n)) : v = iV k n := by
  unfold V.int? at hb
  split at hb
  · simp only [Option.some.injEq, Prod.mk.injEq] at hb
    obtain ⟨rfl, rfl⟩ := hb
    rfl
  · simp at hb

theorem bool?_val {v : V} {b : Bool} (hb : v.bool? = some b) : v = bV b := by
  unfold V.bool? at hb
  split at hb
  · simp only [Option.some.injEq] at hb
    subst hb
    rfl
  · simp at hb

theorem pure_bin {P : Program} {get : Operand → V} {o : Oper} {op : BinOp} {t t' : TypeId} {x y : Operand} {a b v : Value} (ho : o.op = .binOp op t x y t') (hx : (get x).val? = some a) (hy : (get y).val? = some b)
    (h : semPure P (execOp (fun x => ((get x).val?).getD undef) o) = some (.value v)) : evalPure P get o = some (V.ofValue v) := by
  have hall : (noSel o.op && o.op.operands.toList.all fun x => (get x).val?.isSome) = true := by simp [ho, noSel, Op.operands, hx, hy]
  simp only [evalPure, hall, if_true, h]

theorem XR_sound0 {o : Oper} {r : Ro} {nid : Nat} {K : V → List (Nat × Blk) → Prop} (hr : resolveOp0 P o = some r) (h : XR r st.tmps st.heap nid K) :
    callOf st.get o = none ∧ ∃ v heap', evalOp P st.get st.heap nid o = some (v, heap') ∧ K v heap' := by
  obtain ⟨dst, op, ty, pos, after, guard⟩ := o
  cases op with
  | move x =>
    simp only [resolveOp0, Option.some.injEq] at hr
    subst hr
    simp only [XR, frc_eq, opd_get] at h
    exact ⟨rfl, _, _, rfl, h⟩
  | assign x =>
    simp only [resolveOp0, Option.some.injEq] at hr
    subst hr
    simp only [XR, frc_eq, opd_get] at h
    exact ⟨rfl, _, _, rfl, h⟩
  | pick c x y =>
    simp only [resolveOp0, Option.some.injEq] at hr
    subst hr
    simp only [XR, frc_eq, opd_get] at h
    split at h
    · rename_i b hb
      refine ⟨rfl, if b then st.get x else st.get y, st.heap, by simp only [evalOp, hb], ?_⟩
      rcases br_elim h with ⟨rfl, h⟩ | ⟨rfl, h⟩
      · exact h
      · exact h
    · exact h.elim
  | alloc e =>
    simp only [resolveOp0, Option.map_eq_some_iff] at hr
    obtain ⟨z, hz, rfl⟩ := hr
    simp only [XR] at h
    exact ⟨rfl, _, _, by simp only [evalOp, evalAlloc, hz, Option.map_some], h⟩
  | box e x =>
    simp only [resolveOp0, Option.some.injEq] at hr
    subst hr
    simp only [XR, frcL_eq, opd_get] at h
    split at h
    · rename_i u hu
      exact ⟨rfl, _, _, by simp only [evalOp, evalBox, hu, Option.map_some], h⟩
    · exact h.elim
  | build t ps =>
    simp only [resolveOp0] at hr
    split at hr
    · rename_i z fields hz hu
      split at hr
      · rename_i l hl
        simp only [Option.map_eq_some_iff] at hr
        obtain ⟨qs, hq, rfl⟩ := hr
        simp only [XR, frcL_eq] at h
        split at h
        · rename_i cs hcs
          obtain ⟨us, h1, h2⟩ := fillX_sound hq hcs
          exact ⟨rfl, _, _, by simp only [evalOp, evalBuild, h1, hz, hu, hl, h2, Option.map_some], h⟩
        · exact h.elim
      · simp at hr
    · rename_i z n e hz hu
      split at hr
      · rename_i size hs
        simp only [Option.map_eq_some_iff] at hr
        obtain ⟨qs, hq, rfl⟩ := hr
        simp only [XR, frcL_eq] at h
        split at h
        · rename_i cs hcs
          obtain ⟨us, h1, h2⟩ := fillX_sound hq hcs
          exact ⟨rfl, _, _, by simp only [evalOp, evalBuild, h1, hz, hu, hs, h2, Option.map_some], h⟩
        · exact h.elim
      · simp at hr
    · simp at hr
  | buildSlice t len ps =>
    simp only [resolveOp0] at hr
    split at hr
    · rename_i e hu
      split at hr
      · rename_i z hz
        split at hr
        · rename_i hc
          simp only [Option.some.injEq] at hr
          subst hr
          simp only [XR, frcL_eq, partsX_eq] at h
          split at h
          · rename_i l hl
            split at h
            · rename_i xs hxs
              exact ⟨rfl, _, _, by simp only [evalOp, evalBuildSlice, hl, hu, hz, if_pos hc, hxs, Option.map_some], h⟩
            · exact h.elim
          · exact h.elim
        · simp at hr
      · simp at hr
    · simp at hr
  | load t x =>
    simp only [resolveOp0, Option.map_eq_some_iff] at hr
    obtain ⟨n, hn, rfl⟩ := hr
    simp only [XR, opd_get] at h
    split at h
    · rename_i c hc
      split at h
      · rename_i cs j hd
        obtain ⟨u, hu, hK⟩ := pickR_sound hn h
        exact ⟨rfl, _, _, by simp only [evalOp, evalLoad, hc, hd, hu, Option.map_some], hK⟩
      · exact h.elim
    · exact h.elim
  | store t x y =>
    simp only [resolveOp0, Option.map_eq_some_iff] at hr
    obtain ⟨n, hn, rfl⟩ := hr
    simp only [XR, opd_get, frcL_eq] at h
    split at h
    · rename_i id sz i j u hx hy
      split at h
      · rename_i sz' xs hf
        split at h
        · rename_i el hel
          split at h
          · rename_i hc
            exact ⟨rfl, _, _, by simp only [evalOp, evalStore, hx, hy, hf, hn, hel, if_pos hc, Option.map_some], h⟩
          · exact h.elim
        · exact h.elim
      · exact h.elim
    · exact h.elim
  | fieldAddr s x f =>
    simp only [resolveOp0] at hr
    split at hr
    · rename_i fields hu
      split at hr
      · rename_i fd hfd
        split at hr
        · rename_i m hm
          simp only [Option.some.injEq] at hr
          subst hr
          simp only [XR, opd_get] at h
          split at h
          · rename_i id sz i j hx
            exact ⟨rfl, _, _, by simp only [evalOp, evalFieldAddr, hx, hu, hfd, hm, C.shift, Option.map_some], h⟩
          · rename_i e j hx
            exact ⟨rfl, _, _, by simp only [evalOp, evalFieldAddr, hx, hu, hfd, hm, C.shift, Option.map_some], h⟩
          · exact h.elim
        · simp at hr
      · simp at hr
    · simp at hr
  | field t x f =>
    simp only [resolveOp0] at hr
    split at hr
    · rename_i fields hu
      split at hr
      · rename_i fd hfd
        simp only [Option.map_eq_some_iff] at hr
        obtain ⟨n, hn, rfl⟩ := hr
        simp only [XR, opd_get] at h
        split at h
        · rename_i cs hx
          obtain ⟨u, hp, hK⟩ := pickR_sound hn h
          exact ⟨rfl, _, _, by simp only [evalOp, evalField, hx, hu, hfd, hp, Option.map_some], hK⟩
        · exact h.elim
      · simp at hr
    · simp at hr
  | indexAddr t x i =>
    simp only [resolveOp0] at hr
    split at hr
    · rename_i elem hu
      simp only [Option.map_eq_some_iff] at hr
      obtain ⟨size, hs, rfl⟩ := hr
      simp only [XR, opd_get] at h
      split at h
      · rename_i id sz i0 len k n hx hi
        split at h
        · rename_i hsz
          obtain ⟨hb, hK⟩ := h
          refine ⟨rfl, _, _, ?_, hK⟩
          simp only [evalOp, evalIndexAddr, hx, hi, hu, hs, elemAt, if_pos (⟨hsz, hb⟩ : sz = size ∧ 0 ≤ n ∧ n < (len : Int)), Option.map_some]
        · exact h.elim
      · rename_i sz xs k n hx hi
        split at h
        · rename_i hsz
          obtain ⟨h0, e, he, hK⟩ := h
          have hlt : n < (xs.length : Int) := by
            have := (List.getElem?_eq_some_iff.1 he).1
            omega
          refine ⟨rfl, _, _, ?_, hK⟩
          simp only [evalOp, evalIndexAddr, hx, hi, hu, hs, elemAt, if_pos (⟨hsz, h0, hlt⟩ : sz = size ∧ 0 ≤ n ∧ n < (xs.length : Int)), he, Option.map_some]
        · exact h.elim
      · exact h.elim
    · rename_i len elem hu
      simp only [Option.map_eq_some_iff] at hr
      obtain ⟨size, hs, rfl⟩ := hr
      simp only [XR, opd_get] at h
      split at h
      · rename_i c k n hx hi
        split at h
        · rename_i d hd
          obtain ⟨hb, hK⟩ := h
          refine ⟨rfl, _, _, ?_, hK⟩
          simp only [evalOp, evalIndexAddr, hx, hi, hu, hs, if_pos hb, hd, Option.map_some]
        · exact h.elim
      · exact h.elim
    · simp at hr
  | slice t x lo hi mx =>
    cases mx with
    | some m => simp [resolveOp0] at hr
    | none =>
      simp only [resolveOp0] at hr
      split at hr
      · rename_i elem hu
        simp only [Option.map_eq_some_iff] at hr
        obtain ⟨size, hs, rfl⟩ := hr
        have e1 : ∀ (q : Option Operand), (q.map opd).map (·.get st.tmps) = q.map st.get := by intro q; cases q <;> simp [opd_get]
        simp only [XR, opd_get, e1] at h
        split at h
        · rename_i c hx
          split at h
          · rename_i len sz hlen hsz
            split at h
            · rename_i hss
              split at h
              · rename_i l hh hl hhh
                obtain ⟨⟨c1, c2⟩, h⟩ := h
                split at h
                · rename_i d hd
                  refine ⟨rfl, _, _, ?_, h⟩
                  simp only [evalOp, evalSlice, hx, hu, hlen, hl, hhh, hs, if_pos (⟨c1, c2, by rw [hsz, hss]⟩ : l ≤ hh ∧ hh ≤ len ∧ c.sz? = some size), hd, Option.map_some]
                · exact h.elim
              · exact h.elim
            · exact h.elim
          · exact h.elim
        · exact h.elim
      · simp at hr
  | makeSlice t l c =>
    simp only [resolveOp0] at hr
    split at hr
    · rename_i e hu
      split at hr
      · rename_i z size bytes hz hT
        simp only [Option.some.injEq] at hr
        subst hr
        simp only [XR, opd_get] at h
        split at h
        · rename_i k1 l' k2 c' hl hc
          obtain ⟨hcond, hK⟩ := h
          refine ⟨rfl, _, _, ?_, hK⟩
          simp only [evalOp, evalMakeSlice, hu, hl, hc, hz, hT, if_pos hcond, Option.map_some]
        · exact h.elim
      · simp at hr
    · simp at hr
  | extract x k =>
    simp only [resolveOp0, Option.some.injEq] at hr
    subst hr
    simp only [XR, opd_get, frc_eq] at h
    split at h
    · rename_i ws hx
      split at h
      · rename_i u hu
        exact ⟨rfl, _, _, by simp only [evalOp, hx, hu, Option.map_some], h⟩
      · exact h.elim
    · exact h.elim
  | makeFunc fn first captured =>
    cases fn with
    | func f =>
      simp only [resolveOp0] at hr
      split at hr
      · rename_i hc
        simp only [Option.some.injEq] at hr
        subst hr
        simp only [XR, capsX_eq] at h
        split at h
        · rename_i l hl
          exact ⟨rfl, _, _, by simp only [evalOp, if_pos hc, hl], h⟩
        · exact h.elim
      · simp at hr
    | _ => simp [resolveOp0] at hr
  | unOp op t x =>
    cases op with
    | not =>
      simp only [resolveOp0, Option.some.injEq] at hr
      subst hr
      simp only [XR, opd_get] at h
      split at h
      · rename_i b hb
        have hv : (st.get x).val? = some (.bool b) := by
          unfold V.bool? at hb
          split at hb
          · rename_i c heq
            simp only [Option.some.injEq] at hb
            subst hb
            rw [heq]; rfl
          · simp at hb
        refine ⟨rfl, _, _, ?_, h⟩
        simp [evalOp, evalPure, noSel, Op.operands, hv, execOp, Op.unary, semPure, bind, Sem.bind, pure, V.ofValue]
      · exact h.elim
    | neg =>
      simp only [resolveOp0, Option.some.injEq] at hr
      subst hr
      simp only [XR, opd_get] at h
      split at h
      · rename_i k n hb
        have hv : (st.get x).val? = some (.int k n) := by
          unfold V.int? at hb
          split at hb
          · rename_i k' n' heq
            simp only [Option.some.injEq, Prod.mk.injEq] at hb
            obtain ⟨rfl, rfl⟩ := hb
            rw [heq]; rfl
          · simp at hb
        refine ⟨rfl, _, _, ?_, h⟩
        simp [evalOp, evalPure, noSel, Op.operands, hv, execOp, Op.unary, Op.intArith, semPure, bind, Sem.bind, pure, V.ofValue]
      · exact h.elim
    | _ => simp [resolveOp0] at hr
  | convert src dst' x =>
    simp only [resolveOp0] at hr
    split at hr
    · rename_i j k hs hu
      simp only [Option.some.injEq] at hr
      subst hr
      simp only [XR, opd_get] at h
      split at h
      · rename_i k' n hb
        have hv := int?_val hb
        refine ⟨rfl, _, _, ?_, h⟩
        simp [evalOp, evalBytes, evalPure, noSel, Op.operands, hv, V.val?, W.val?, C.val?, execOp, convert, semPure_bind, semPure_underlying hs, semPure_underlying hu, Conv.intToInt, semPure_pure, V.ofValue]
      · exact h.elim
    · rename_i e hs hu
      split at hr
      · rename_i he
        simp only [Option.some.injEq] at hr
        subst hr
        simp only [XR, opd_get] at h
        split at h
        · rename_i id sz i len hx
          split at h
          · rename_i y ys hel
            split at h
            · rename_i ns hns
              exact ⟨rfl, _, _, by simp only [evalOp, evalBytes, hx, hs, hu, he, hel, hns, Option.map_some], h⟩
            · exact h.elim
          · exact h.elim
        · exact h.elim
      · simp at hr
    · simp at hr
  | binOp op t x y t' =>
    simp only [resolveOp0] at hr
    split at hr
    · simp only [Option.some.injEq] at hr
      subst hr
      simp only [XR, opd_get] at h
      split at h
      · rename_i k a k' b hx hy
        split at h
        · rename_i hk
          subst hk
          have key : ∀ {v : Value}, semPure P (binOp op t (.int k a) (.int k b)) = some v → isCell v = true → evalOp P st.get st.heap nid ⟨dst, .binOp op t x y t', ty, pos, after, guard⟩ = some (.w (.one (.t (.val v))), st.heap) := by
            intro v hv hc
            have hg : semPure P (eqGuard op t x y (.int k a) (.int k b)) = some () := by
              unfold eqGuard
              cases op <;> rfl
            have h1 : semPure P (execOp (fun x => ((st.get x).val?).getD undef) ⟨dst, .binOp op t x y t', ty, pos, after, guard⟩) = some (.value v) := by
              simp only [execOp, hx, hy, V.val?, W.val?, C.val?, Option.getD_some, semPure_bind, hg, Option.bind_some, hv, semPure_pure]
            have h2 := pure_bin (P := P) (get := st.get) (o := ⟨dst, .binOp op t x y t', ty, pos, after, guard⟩) rfl (a := .int k a) (b := .int k b) (by rw [hx]; rfl) (by rw [hy]; rfl) h1
            have h3 : V.ofValue v = .w (.one (.t (.val v))) := by cases v <;> first | rfl | (simp [Value.oneCell'] at hc)
            simp only [evalOp, h2, Option.map_some, h3]
          split at h
          · obtain ⟨h0, hK⟩ := h
            exact ⟨rfl, _, _, key (v := .int k (k.wrap (a.tdiv b))) (by simp [binOp, Op.intDiv, h0, semPure_pure]) rfl, hK⟩
          · obtain ⟨h0, hK⟩ := h
            exact ⟨rfl, _, _, key (v := .int k (a.tmod b)) (by simp [binOp, Op.intDiv, h0, semPure_pure]) rfl, hK⟩
          · obtain ⟨h0, hK⟩ := h
            have hn : ¬ b < 0 := by omega
            exact ⟨rfl, _, _, key (v := .int k (k.wrap (a * 2 ^ (min b.toNat k.bits)))) (by simp [binOp, Op.shift, hn, semPure_pure]) rfl, hK⟩
          · obtain ⟨h0, hK⟩ := h
            have hn : ¬ b < 0 := by omega
            exact ⟨rfl, _, _, key (v := .int k (a.fdiv (2 ^ (min b.toNat k.bits)))) (by simp [binOp, Op.shift, hn, semPure_pure]) rfl, hK⟩
          · exact ⟨rfl, _, _, key (v := .int k (k.wrap (BitVec.ofInt k.bits a &&& BitVec.ofInt k.bits b).toNat)) (by simp [binOp, Op.intBits, semPure_pure]) rfl, h⟩
          · exact ⟨rfl, _, _, key (v := .int k (k.wrap (BitVec.ofInt k.bits a ||| BitVec.ofInt k.bits b).toNat)) (by simp [binOp, Op.intBits, semPure_pure]) rfl, h⟩
          · have hbin : ∀ v, binI op k a b = some v → semPure P (binOp op t (.int k a) (.int k b)) = some v := by
              intro v hv
              cases op <;> simp [binI] at hv <;> subst hv <;> simp [binOp, Op.intArith, Op.intCmp, semPure_pure]
            split at h
            · rename_i j n hb
              exact ⟨rfl, _, _, key (hbin _ hb) rfl, h⟩
            · rename_i c hb
              exact ⟨rfl, _, _, key (hbin _ hb) rfl, h⟩
            · exact h.elim
        · exact h.elim
      · rename_i a b hx hy
        have key : ∀ {v : Value}, semPure P (binOp op t (.string a) (.string b)) = some v → isCell v = true → evalOp P st.get st.heap nid ⟨dst, .binOp op t x y t', ty, pos, after, guard⟩ = some (.w (.one (.t (.val v))), st.heap) := by
          intro v hv hc
          have hg : semPure P (eqGuard op t x y (.string a) (.string b)) = some () := by
            unfold eqGuard
            cases op <;> rfl
          have h1 : semPure P (execOp (fun x => ((st.get x).val?).getD undef) ⟨dst, .binOp op t x y t', ty, pos, after, guard⟩) = some (.value v) := by
            simp only [execOp, hx, hy, V.val?, W.val?, C.val?, Option.getD_some, semPure_bind, hg, Option.bind_some, hv, semPure_pure]
          have h2 := pure_bin (P := P) (get := st.get) (o := ⟨dst, .binOp op t x y t', ty, pos, after, guard⟩) rfl (a := .string a) (b := .string b) (by rw [hx]; rfl) (by rw [hy]; rfl) h1
          have h3 : V.ofValue v = .w (.one (.t (.val v))) := by cases v <;> first | rfl | (simp [Value.oneCell'] at hc)
          simp only [evalOp, h2, Option.map_some, h3]
        split at h
        · obtain ⟨h0, hK⟩ := h
          have hn : ¬ ((a.size + b.size : Nat) : Int) > IntKind.i64.max := by simp [IntKind.max, IntKind.bits, IntKind.signed]; omega
          exact ⟨rfl, _, _, key (v := .string (a ++ b)) (by simp only [binOp, Op.stringOp, if_neg hn, semPure_pure]) rfl, hK⟩
        · exact ⟨rfl, _, _, key (v := .bool (a.toList == b.toList)) (by simp [binOp, Op.stringOp, semPure_pure]) rfl, h⟩
        · exact ⟨rfl, _, _, key (v := .bool (!(a.toList == b.toList))) (by simp [binOp, Op.stringOp, semPure_pure]) rfl, h⟩
        · exact h.elim
      · exact h.elim
    · split at hr
      · rename_i hu
        simp only [Option.some.injEq] at hr
        subst hr
        simp only [XR, opd_get] at h
        split at h
        · rename_i a b hx hy
          have hx := bool?_val hx
          have hy := bool?_val hy
          have key : ∀ {v : Value}, semPure P (binOp op t (.bool a) (.bool b)) = some v → isCell v = true → evalOp P st.get st.heap nid ⟨dst, .binOp op t x y t', ty, pos, after, guard⟩ = some (.w (.one (.t (.val v))), st.heap) := by
            intro v hv hc
            have hg : semPure P (eqGuard op t x y (.bool a) (.bool b)) = some () := by
              unfold eqGuard
              cases op <;> rfl
            have h1 : semPure P (execOp (fun x => ((st.get x).val?).getD undef) ⟨dst, .binOp op t x y t', ty, pos, after, guard⟩) = some (.value v) := by
              simp only [execOp, hx, hy, V.val?, W.val?, C.val?, Option.getD_some, semPure_bind, hg, Option.bind_some, hv, semPure_pure]
            have h2 := pure_bin (P := P) (get := st.get) (o := ⟨dst, .binOp op t x y t', ty, pos, after, guard⟩) rfl (a := .bool a) (b := .bool b) (by rw [hx]; rfl) (by rw [hy]; rfl) h1
            have h3 : V.ofValue v = .w (.one (.t (.val v))) := by cases v <;> first | rfl | (simp [Value.oneCell'] at hc)
            simp only [evalOp, h2, Option.map_some, h3]
          have heq : semPure P (Op.equal t (.bool a) (.bool b)) = some (a == b) := by
            show semPure P (Op.equalIn 10000 t (.bool a) (.bool b)) = _
            unfold Op.equalIn
            rw [semPure_bind, semPure_underlying hu]
            rfl
          split at h
          · exact ⟨rfl, _, _, key (v := .bool (a == b)) (by simp [binOp, semPure_map, heq]) rfl, h⟩
          · exact ⟨rfl, _, _, key (v := .bool (!(a == b))) (by simp [binOp, semPure_map, heq]) rfl, h⟩
          · exact h.elim
        · exact h.elim
      · simp at hr
  | index t x i =>
    simp only [resolveOp0] at hr
    split at hr
    · rename_i hu
      simp only [Option.some.injEq] at hr
      subst hr
      simp only [XR, opd_get] at h
      split at h
      · rename_i s k n hx hi
        have hi := int?_val hi
        obtain ⟨h0, b, hb, hK⟩ := h
        refine ⟨rfl, _, _, ?_, hK⟩
        have hall : (noSel (Op.index t x i) && (Op.index t x i).operands.toList.all fun x => (st.get x).val?.isSome) = true := by
          simp [noSel, Op.operands, hx, hi, V.val?, W.val?, C.val?]
        have hpv : evalPure P st.get ⟨dst, .index t x i, ty, pos, after, guard⟩ = some (iV .u8 (b.toNat : Int)) := by
          simp only [evalPure, hall, if_true]
          simp [execOp, hx, hi, V.val?, W.val?, C.val?, Instr.index, asIntOf, semPure_bind, semPure_pure, semPure_map, semPure_underlying hu, h0, hb, V.ofValue]
        simp only [evalOp, hpv, Option.map_some]
      · exact h.elim
    · simp at hr
  | call c =>
    obtain ⟨callee, args, argTypes⟩ := c
    simp only [resolveOp0] at hr
    split at hr
    · split at hr
      · rename_i x t hargs htys
        split at hr
        · rename_i e hu
          simp only [Option.some.injEq] at hr
          subst hr
          simp only [XR, opd_get] at h
          split at h
          · rename_i c hc
            split at h
            · rename_i n hn
              refine ⟨rfl, _, _, ?_, h⟩
              simp only [evalOp, hargs, htys, hu, lenV, hc, hn, Option.map_some]
              rfl
            · exact h.elim
          · exact h.elim
        · rename_i hu
          simp only [Option.some.injEq] at hr
          subst hr
          simp only [XR, opd_get] at h
          split at h
          · rename_i s hs
            refine ⟨rfl, _, _, ?_, h⟩
            have hall : (noSel (Op.call ⟨.builtin .len, args, argTypes⟩) && (Op.call ⟨.builtin .len, args, argTypes⟩).operands.toList.all fun x => (st.get x).val?.isSome) = true := by
              simp [noSel, Op.operands, Call.operands, hargs, hs, V.val?, W.val?, C.val?]
            have ea : args = #[x] := by rw [← Array.toArray_toList (xs := args), hargs]
            have et : argTypes = #[t] := by rw [← Array.toArray_toList (xs := argTypes), htys]
            have hpv : evalPure P st.get ⟨dst, .call ⟨.builtin .len, args, argTypes⟩, ty, pos, after, guard⟩ = some (iV .i64 (s.size : Int)) := by
              subst ea
              subst et
              simp only [evalPure, hall, if_true]
              simp [execOp, resolve, hs, V.val?, W.val?, C.val?, invoke, builtin, Builtin.len_, semPure_bind, semPure_pure, semPure_underlying hu, semPure_map, goInt, V.ofValue]
            simp only [evalOp, hargs, htys, hu, hpv, Option.map_some]
          · exact h.elim
        · simp at hr
      · simp at hr
    · split at hr
      · rename_i x y hargs
        simp only [Option.some.injEq] at hr
        subst hr
        simp only [XR, opd_get] at h
        split at h
        · rename_i k a k' b hx hy
          have hx := int?_val hx
          have hy := int?_val hy
          refine ⟨rfl, _, _, ?_, h⟩
          have hall : (noSel (Op.call ⟨.builtin .min, args, argTypes⟩) && (Op.call ⟨.builtin .min, args, argTypes⟩).operands.toList.all fun x => (st.get x).val?.isSome) = true := by
            simp [noSel, Op.operands, Call.operands, hargs, hx, hy, V.val?, W.val?, C.val?]
          have ea : args = #[x, y] := by rw [← Array.toArray_toList (xs := args), hargs]
          have hpv : evalPure P st.get ⟨dst, .call ⟨.builtin .min, args, argTypes⟩, ty, pos, after, guard⟩ = some (iV k (if b < a then b else a)) := by
            subst ea
            simp only [evalPure, hall, if_true]
            simp [execOp, resolve, hx, hy, V.val?, W.val?, C.val?, invoke, builtin, Builtin.min_, Builtin.min2, semPure_bind, semPure_pure, semPure_map, V.ofValue]
          simp only [evalOp, hpv, Option.map_some]
        · exact h.elim
      · simp at hr
    · split at hr
      · rename_i x y hargs
        simp only [Option.some.injEq] at hr
        subst hr
        simp only [XR, opd_get] at h
        split at h
        · rename_i k a k' b hx hy
          have hx := int?_val hx
          have hy := int?_val hy
          refine ⟨rfl, _, _, ?_, h⟩
          have hall : (noSel (Op.call ⟨.builtin .max, args, argTypes⟩) && (Op.call ⟨.builtin .max, args, argTypes⟩).operands.toList.all fun x => (st.get x).val?.isSome) = true := by
            simp [noSel, Op.operands, Call.operands, hargs, hx, hy, V.val?, W.val?, C.val?]
          have ea : args = #[x, y] := by rw [← Array.toArray_toList (xs := args), hargs]
          have hpv : evalPure P st.get ⟨dst, .call ⟨.builtin .max, args, argTypes⟩, ty, pos, after, guard⟩ = some (iV k (if b > a then b else a)) := by
            subst ea
            simp only [evalPure, hall, if_true]
            simp [execOp, resolve, hx, hy, V.val?, W.val?, C.val?, invoke, builtin, Builtin.max_, Builtin.max2, semPure_bind, semPure_pure, semPure_map, V.ofValue]
          simp only [evalOp, hpv, Option.map_some]
        · exact h.elim
      · simp at hr
    · split at hr
      · rename_i s x t t' hargs htys
        split at hr
        · rename_i htt
          subst htt
          split at hr
          · rename_i e hu
            split at hr
            · rename_i size bytes hT
              simp only [Option.some.injEq] at hr
              subst hr
              simp only [XR, opd_get, frcL_eq, frcC_eq, elemsN_eq] at h
              split at h
              · rename_i s' x' hs hx
                split at h
                · rename_i sz hel
                  split at h
                  · rename_i ln hln
                    refine ⟨rfl, _, _, ?_, h⟩
                    simp only [evalOp, hargs, htys, if_true, evalAppend, hs, hx, hu, hT, hel, List.isEmpty_nil, hln, Option.isSome_some]
                  · exact h.elim
                · rename_i sz y ys hel
                  split at h
                  · rename_i id sz' len
                    split at h
                    · rename_i sz2 xs hf
                      split at h
                      · rename_i hc
                        obtain ⟨rfl, rfl, rfl⟩ := hc
                        obtain ⟨⟨c1, c2, c3⟩, hK⟩ := h
                        refine ⟨rfl, _, _, ?_, hK⟩
                        simp only [evalOp, hargs, htys, if_true, evalAppend, hs, hx, hu, hT, Bool.false_eq_true, if_false, hel, List.isEmpty_cons, hf, List.length_cons]
                        rw [if_pos ⟨trivial, trivial, c1, c2, c3⟩]
                      · exact h.elim
                    · exact h.elim
                  · split at h
                    · rename_i hc
                      subst hc
                      obtain ⟨⟨c2, c3⟩, hK⟩ := h
                      refine ⟨rfl, _, _, ?_, hK⟩
                      simp only [evalOp, hargs, htys, if_true, evalAppend, hs, hx, hu, hT, Bool.false_eq_true, if_false, hel, List.isEmpty_cons, List.length_cons]
                      rw [if_pos ⟨rfl, c2, c3⟩]
                    · exact h.elim
                  · exact h.elim
                · exact h.elim
              · exact h.elim
            · simp at hr
          · simp at hr
        · simp at hr
      · simp at hr
    · split at hr
      · simp only [Option.some.injEq] at hr
        subst hr
        exact h.elim
      · simp at hr
    · simp at hr
  | _ => simp [resolveOp0] at hr

theorem XR_raw {o : Oper} {tm : List (Nat × V)} {hp : List (Nat × Blk)} {nid : Nat} {K : V → List (Nat × Blk) → Prop} (h : XR (rawOp o) tm hp nid K) : False := by
  rcases rawOp_or o with ⟨t, args, tys, _, e⟩ | e
  · rw [e] at h; exact h
  · rw [e] at h; exact h

theorem XR_sound {o : Oper} {r : Ro} {nid : Nat} {K : V → List (Nat × Blk) → Prop} (hr : resolveOp P o = some r) (h : XR r st.tmps st.heap nid K) :
    callOf st.get o = none ∧ ∃ v heap', evalOp P st.get st.heap nid o = some (v, heap') ∧ K v heap' := by
  unfold resolveOp at hr
  split at hr
  · rename_i r' hr'
    simp only [Option.some.injEq] at hr
    subst hr
    exact XR_sound0 hr' h
  · simp only [Option.some.injEq] at hr
    subst hr
    exact (XR_raw h).elim

end Go.Abs
