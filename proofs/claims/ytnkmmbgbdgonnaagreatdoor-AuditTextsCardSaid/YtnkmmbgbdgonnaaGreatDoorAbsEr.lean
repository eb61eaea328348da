import Derived.Test.YtnkmmbgbdgonnaaGreatDoorAbsE
import Derived.Laws.Strings
namespace Go.Abs
open Go

def partsG {α : Type} (bad : α) (g : Opd → V) : List (Nat × Opd) → (List (Nat × W) → α) → α
  | [], k => k []
  | (i, x) :: r, k => match g x with
    | .w u => partsG bad g r fun l => k ((i, u) :: l)
    | _ => bad

theorem partsG_eq {tm : TS} : ∀ {ps : List (Nat × Opd)} {k : List (Nat × W) → Bool}, partsG false (fun x => x.get tm) ps k = true → ∃ l, partsX tm ps = some l ∧ k l = true
  | [], k, h => ⟨[], rfl, h⟩
  | (i, x) :: r, k, h => by
    simp only [partsG] at h
    split at h
    · rename_i u hu
      obtain ⟨l, h1, h2⟩ := partsG_eq h
      exact ⟨_, by simp only [partsX, hu, h1], h2⟩
    · simp at h

def fillG {α : Type} (bad : α) (g : Opd → V) : List C → List (Nat × Nat × Opd) → (List C → α) → α
  | cells, [], k => k cells
  | cells, (off, size, x) :: rest, k =>
    match g x with
    | .w u => sel (Nat.beq (cellsOf u).length size && Nat.ble (off + size) cells.length) (frcL (splice cells off (cellsOf u)) fun cs => fillG bad g cs rest k) bad
    | _ => bad

theorem fillG_eq {tm : TS} : ∀ {ps : List (Nat × Nat × Opd)} {cells : List C} {k : List C → Bool}, fillG false (fun x => x.get tm) cells ps k = true → ∃ l, fillX tm cells ps = some l ∧ k l = true
  | [], cells, k, h => ⟨cells, rfl, h⟩
  | (off, size, x) :: r, cells, k, h => by
    simp only [fillG] at h
    split at h
    · rename_i u hu
      obtain ⟨hc, h⟩ := sel_true h
      rw [frcL_eq] at h
      simp only [Bool.and_eq_true, Nat.beq_eq, Nat.ble_eq] at hc
      obtain ⟨l, h1, h2⟩ := fillG_eq h
      exact ⟨l, by simp only [fillX, hu, if_pos hc, h1], h2⟩
    · simp at h

def capsG {α : Type} (bad : α) (g : Opd → V) : List Opd → (List (Nat × Nat × Nat × Nat) → α) → α
  | [], k => k []
  | x :: r, k => match g x with
    | .w (.one (.ptr id sz i j)) => capsG bad g r fun l => k ((id, sz, i, j) :: l)
    | _ => bad

theorem capsG_eq {tm : TS} : ∀ {ps : List Opd} {k : List (Nat × Nat × Nat × Nat) → Bool}, capsG false (fun x => x.get tm) ps k = true → ∃ l, capsX tm ps = some l ∧ k l = true
  | [], k, h => ⟨[], rfl, h⟩
  | x :: r, k, h => by
    simp only [capsG] at h
    split at h
    · rename_i id sz i j hu
      obtain ⟨l, h1, h2⟩ := capsG_eq h
      exact ⟨_, by simp only [capsX, hu, h1], h2⟩
    · simp at h

def wsG {α : Type} (bad : α) (g : Opd → V) : List Opd → (List W → α) → α
  | [], k => k []
  | x :: r, k => match g x with
    | .w u => wsG bad g r fun l => k (u :: l)
    | _ => bad

theorem wsG_eq {tm : TS} : ∀ {ps : List Opd} {k : List W → Bool}, wsG false (fun x => x.get tm) ps k = true → ∃ l, wsX tm ps = some l ∧ k l = true
  | [], k, h => ⟨[], rfl, h⟩
  | x :: r, k, h => by
    simp only [wsG] at h
    split at h
    · rename_i u hu
      obtain ⟨l, h1, h2⟩ := wsG_eq h
      exact ⟨_, by simp only [wsX, hu, h1], h2⟩
    · simp at h

/-- The cell at a place, or some cells from there on. -/
def pickG {α : Type} (bad : α) (n : Option Nat) (cs : List C) (j : Nat) (K : V → α) : α :=
  match n with
  | some n => sel (Nat.ble (j + n) cs.length) (frcL ((cs.drop j).take n) fun l => K (.w (.agg l))) bad
  | none => match nth cs j with
    | some c => frcC c fun c => K (.w (.one c))
    | none => bad

theorem pickG_eq {n : Option Nat} {cs : List C} {j : Nat} {K : V → Bool} (h : pickG false n cs j K = true) : pickR n cs j fun v => K v = true := by
  unfold pickG at h
  unfold pickR
  split at h
  · obtain ⟨hc, h⟩ := sel_true h
    simp only [Nat.ble_eq] at hc
    simp only [if_pos hc, frcL_eq] at h ⊢
    exact h
  · split at h
    · rename_i c hc
      rw [nth_eq] at hc
      simp only [hc, frcC_eq] at h ⊢
      exact h
    · simp at h

def derefG {α : Type} (bad : α) (hp : HS) (c : C) (k : List C → Nat → α) : α :=
  match c with
  | .ptr id sz i j => match find hp id with
    | some (.row sz' xs) => match nth xs i with
      | some e => sel (Nat.beq sz' sz) (k e j) bad
      | none => bad
    | _ => bad
  | .roe e j => k (e.map .t) j
  | _ => bad

theorem derefG_eq {hp : HS} {c : C} {k : List C → Nat → Bool} (h : derefG false hp c k = true) : ∃ cs j, deref hp c = some (cs, j) ∧ k cs j = true := by
  unfold derefG at h
  split at h
  · split at h
    · rename_i hf
      split at h
      · rename_i e he
        obtain ⟨hc, h⟩ := sel_true h
        rw [nth_eq] at he
        simp only [Nat.beq_eq] at hc
        exact ⟨_, _, by simp [deref, hf, hc, he], h⟩
      · simp at h
    · simp at h
  · exact ⟨_, _, rfl, h⟩
  · simp at h

def lenG {α : Type} (bad : α) (c : C) (k : Nat → α) : α :=
  match c.len? with
  | some n => frN n k
  | none => bad

def binG {α : Type} (bad : α) (op : BinOp) (k : IntKind) (a b : Int) (K : V → α) : α :=
  match op with
  | .add => frI (fwrap k (a + b)) fun n => K (iV k n)
  | .sub => frI (fwrap k (a - b)) fun n => K (iV k n)
  | .mul => frI (fwrap k (a * b)) fun n => K (iV k n)
  | .eql => frB (eqI a b) fun c => K (bV c)
  | .neq => frB (!(eqI a b)) fun c => K (bV c)
  | .lss => frB (ltI a b) fun c => K (bV c)
  | .leq => frB (!(ltI b a)) fun c => K (bV c)
  | .gtr => frB (ltI b a) fun c => K (bV c)
  | .geq => frB (!(ltI a b)) fun c => K (bV c)
  | .quo => sel (!(eqI b 0)) (frI (fwrap k (a.tdiv b)) fun n => K (iV k n)) bad
  | .rem => sel (!(eqI b 0)) (frI (a.tmod b) fun n => K (iV k n)) bad
  | .shl => sel (!(ltI b 0)) (frI (fwrap k (a * pow2 (min b.toNat k.bits))) fun n => K (iV k n)) bad
  | .shr => sel (!(ltI b 0)) (frI (shrI a (min b.toNat k.bits)) fun n => K (iV k n)) bad
  | .and => frI (andI k a b) fun n => K (iV k n)
  | .or => frI (orI k a b) fun n => K (iV k n)
  | _ => bad

def ER {α : Type} (bad : α) (r : Ro) (g : Opd → V) (hp : HS) (nid : Nat) (K : V → HS → α) : α :=
  match r with
  | .mov x => frc (g x) fun v => K v hp
  | .pick c x y => match (g c).bool? with
    | some b => sel b (frc (g x) fun v => K v hp) (frc (g y) fun v => K v hp)
    | none => bad
  | .alloc z => K (.w (.one (.ptr nid z.length 0 0))) ((nid, .row z.length [z]) :: hp)
  | .box x => match g x with
    | .w u => frcL (cellsOf u) fun cs => K (.w (.one (.ptr nid cs.length 0 0))) ((nid, .row cs.length [cs]) :: hp)
    | _ => bad
  | .build z ps => fillG bad g z ps fun cs => K (.w (.agg cs)) hp
  | .bslice z len ps => partsG bad g ps fun l => match fillE z.length (List.replicate len z) l with
      | some xs => frcL xs fun xs => K (.w (.one (.own nid z.length 0 len))) ((nid, .row z.length xs) :: hp)
      | none => bad
  | .load n x => match g x with
    | .w (.one c) => derefG bad hp c fun cs j => pickG bad n cs j fun v => K v hp
    | _ => bad
  | .store n x y => match g x, g y with
    | .w (.one (.ptr id sz i j)), .w u => match find hp id with
      | some (.row sz' xs) => match nth xs i with
        | some el => sel (Nat.beq sz' sz && Nat.beq (cellsOf u).length n && Nat.ble (j + n) el.length)
            (frcL (splice el j (cellsOf u)) fun el' => frcL (xs.set i el') fun xs' => frcL (upd hp id (.row sz xs')) fun h => K .undef h) bad
        | none => bad
      | _ => bad
    | _, _ => bad
  | .faddr off x => match g x with
    | .w (.one (.ptr id sz i j)) => frN (j + off) fun q => K (.w (.one (.ptr id sz i q))) hp
    | .w (.one (.roe e j)) => frN (j + off) fun q => K (.w (.one (.roe e q))) hp
    | _ => bad
  | .field off n x => match g x with
    | .w (.agg cs) => pickG bad n cs off fun v => K v hp
    | _ => bad
  | .iaddr size x i => match g x, (g i).int? with
    | .w (.one (.own id sz i0 len)), some (_, .ofNat n) => sel (Nat.beq sz size && Nat.blt n len) (frN (i0 + n) fun q => K (.w (.one (.ptr id sz q 0))) hp) bad
    | .w (.one (.t (.lst sz xs))), some (_, .ofNat n) => match nth xs n with
      | some e => sel (Nat.beq sz size) (K (.w (.one (.roe e 0))) hp) bad
      | none => bad
    | _, _ => bad
  | .iaddrA len size x i => match g x, (g i).int? with
    | .w (.one c), some (_, .ofNat n) => match c.shift (n * size) with
      | some d => sel (Nat.blt n len) (K (.w (.one d)) hp) bad
      | none => bad
    | _, _ => bad
  | .slice size x lo hi => match g x with
    | .w (.one c) => match c.len?, c.sz? with
      | some len, some sz => match bound? (lo.map g) 0, bound? (hi.map g) len with
          | some l, some h => sel (Nat.beq sz size && Nat.ble l h && Nat.ble h len) (match cutC c l h with
            | some d => frcC d fun d => K (.w (.one d)) hp
            | none => bad) bad
          | _, _ => bad
      | _, _ => bad
    | _ => bad
  | .make z bytes l c => match (g l).int?, (g c).int? with
    | some (_, .ofNat l), some (_, .ofNat c) => sel (Nat.ble l c && Nat.ble c 4611686018427387904 && Nat.ble (c * bytes) 281474976710656)
        (frcL (List.replicate l z) fun xs => K (.w (.one (.own nid z.length 0 l))) ((nid, .row z.length xs) :: hp)) bad
    | _, _ => bad
  | .extract x k => match g x with
    | .tup ws => match nth ws k with
      | some u => frc (.w u) fun v => K v hp
      | none => bad
    | _ => bad
  | .clo f caps => capsG bad g caps fun l => K (.w (.one (.clo f l))) hp
  | .len x => match g x with
    | .w (.one c) => lenG bad c fun n => K (iV .i64 (.ofNat n)) hp
    | _ => bad
  | .append size bytes s x => match g s, g x with
    | .w (.one s), .w (.one x) => match elemsN hp x with
      | some (_, []) => match s.len? with
        | some _ => frcC s fun s => K (.w (.one s)) hp
        | none => bad
      | some (sz, y :: ys) => match s with
        | .own id sz' 0 len => match find hp id with
          | some (.row sz2 xs) =>
            sel (Nat.beq sz size && Nat.beq sz' size && Nat.beq sz2 size && Nat.beq len xs.length && Nat.ble ((len + (ys.length + 1)) * bytes) maxRoom && Nat.ble (len + (ys.length + 1)) maxLen)
              (frcL (del hp id) fun hp => frcL (xs ++ y :: ys) fun zs => frN (len + (ys.length + 1)) fun q => K (.w (.one (.own nid size 0 q))) ((nid, .row size zs) :: hp)) bad
          | _ => bad
        | .t (.val (.slice none 0 0)) => sel (Nat.beq sz size && Nat.ble ((ys.length + 1) * bytes) maxRoom && Nat.ble (ys.length + 1) maxLen)
            (frcL (y :: ys) fun zs => frN (ys.length + 1) fun q => K (.w (.one (.own nid size 0 q))) ((nid, .row size zs) :: hp)) bad
        | _ => bad
      | none => bad
    | _, _ => bad
  | .bin op x y => match g x, g y with
    | .w (.one (.t (.val (.int k a)))), .w (.one (.t (.val (.int k' b)))) => sel (Nat.beq (kidx k) (kidx k')) (binG bad op k a b fun v => K v hp) bad
    | .w (.one (.t (.val (.string a)))), .w (.one (.t (.val (.string b)))) => match op with
      | .add => sel (Nat.ble (a.data.toList.length + b.data.toList.length) 9223372036854775807) (frcL (a.data.toList ++ b.data.toList) fun l => K (.w (.one (.t (.val (.string ⟨⟨l⟩⟩))))) hp) bad
      | .eql => frB (a.data.toList == b.data.toList) fun c => K (bV c) hp
      | .neq => frB (!(a.data.toList == b.data.toList)) fun c => K (bV c) hp
      | _ => bad
    | _, _ => bad
  | .binB op x y => match (g x).bool?, (g y).bool? with
    | some a, some b => match op with
      | .eql => frB (a == b) fun c => K (bV c) hp
      | .neq => frB (!(a == b)) fun c => K (bV c) hp
      | _ => bad
    | _, _ => bad
  | .smin x y => match (g x).int?, (g y).int? with
    | some (k, a), some (_, b) => K (iV k (sel (ltI b a) b a)) hp
    | _, _ => bad
  | .smax x y => match (g x).int?, (g y).int? with
    | some (k, a), some (_, b) => K (iV k (sel (ltI a b) b a)) hp
    | _, _ => bad
  | .slen x => match g x with
    | .w (.one (.t (.val (.string s)))) => frN s.data.toList.length fun n => K (iV .i64 (.ofNat n)) hp
    | _ => bad
  | .sidx x i => match g x, (g i).int? with
    | .w (.one (.t (.val (.string s)))), some (_, .ofNat n) => match nth s.data.toList n with
      | some b => frN b.toNat fun q => K (iV .u8 (.ofNat q)) hp
      | none => bad
    | _, _ => bad
  | .not x => match (g x).bool? with
    | some b => frB (!b) fun c => K (bV c) hp
    | none => bad
  | .neg x => match (g x).int? with
    | some (k, n) => frI (fwrap k (0 - n)) fun n => K (iV k n) hp
    | none => bad
  | .conv k x => match (g x).int? with
    | some (_, n) => frI (fwrap k n) fun n => K (iV k n) hp
    | none => bad
  | _ => bad

set_option maxHeartbeats 1000000
theorem binG_XR {op : BinOp} {x y : Opd} {k : IntKind} {a b : Int} {tm : TS} {hp : HS} {nid : Nat} {K : V → HS → Bool} (hx : x.get tm = iV k a) (hy : y.get tm = iV k b)
    (h : binG false op k a b (fun v => K v hp) = true) : XR (.bin op x y) tm hp nid fun v hp' => K v hp' = true := by
  simp only [XR, hx, hy, if_true]
  cases op <;> simp only [binG, frI_eq, frB_eq, fwrap_eq, eqI_eq, ltI_eq, pow2_eq, shrI_eq, andI_eq, orI_eq] at h
  case add => exact h
  case sub => exact h
  case mul => exact h
  case eql => exact h
  case neq => exact h
  case lss => exact h
  case leq =>
    have e : (!decide (b < a)) = decide (a ≤ b) := by rw [Bool.eq_iff_iff]; simp
    rw [e] at h
    exact h
  case gtr => exact h
  case geq =>
    have e : (!decide (a < b)) = decide (a ≥ b) := by rw [Bool.eq_iff_iff]; simp
    rw [e] at h
    exact h
  case quo =>
    obtain ⟨h1, h2⟩ := sel_true h
    exact ⟨by simpa using h1, h2⟩
  case rem =>
    obtain ⟨h1, h2⟩ := sel_true h
    exact ⟨by simpa using h1, h2⟩
  case shl =>
    obtain ⟨h1, h2⟩ := sel_true h
    exact ⟨by simpa using h1, h2⟩
  case shr =>
    obtain ⟨h1, h2⟩ := sel_true h
    exact ⟨by simpa using h1, h2⟩
  case and => exact h
  case or => exact h
  all_goals simp at h

theorem ba_get (s : ByteArray) (n : Nat) : s.data.toList[n]? = s[n]? := by
  by_cases h : n < s.size
  · have h2 : n < s.data.size := h
    rw [getElem?_pos s n h]
    simp only [Array.getElem?_toList]
    rw [getElem?_pos s.data n h2]
    rfl
  · have h2 : ¬ n < s.data.size := h
    rw [getElem?_neg s n h]
    simp only [Array.getElem?_toList]
    rw [getElem?_neg s.data n h2]

theorem int?_get {v : V} {k : IntKind} {n : Int} (h : v.int? = some (k, n)) : v = iV k n := int?_val h

theorem ER_XR {r : Ro} {tm : TS} {hp : HS} {nid : Nat} {K : V → HS → Bool} (h : ER false r (fun x => x.get tm) hp nid K = true) : XR r tm hp nid fun v hp' => K v hp' = true := by
  cases r with
  | mov x => simpa only [ER, XR, frc_eq] using h
  | pick c x y =>
    simp only [ER, XR, frc_eq] at h ⊢
    split at h
    · rename_i b hb
      simp only [hb]
      cases b
      · exact h
      · exact h
    · simp at h
  | alloc z => exact h
  | box x =>
    simp only [ER, XR, frcL_eq] at h ⊢
    split at h
    · rename_i u hu; simp only [hu]; exact h
    · simp at h
  | build z ps =>
    simp only [ER, XR, frcL_eq] at h ⊢
    obtain ⟨l, h1, h2⟩ := fillG_eq h
    simp only [h1]
    exact h2
  | bslice z len ps =>
    simp only [ER, XR, frcL_eq] at h ⊢
    obtain ⟨l, h1, h2⟩ := partsG_eq h
    simp only [h1]
    split at h2
    · rename_i xs hxs; simp only [hxs]; exact h2
    · simp at h2
  | load n x =>
    simp only [ER, XR] at h ⊢
    split at h
    · rename_i c hc
      simp only [hc]
      obtain ⟨cs, j, h1, h2⟩ := derefG_eq h
      simp only [h1]
      exact pickG_eq h2
    · simp at h
  | store n x y =>
    simp only [ER, XR, frcL_eq] at h ⊢
    split at h
    · rename_i id sz i j u hx hy
      simp only [hx, hy]
      split at h
      · rename_i sz' xs hf
        simp only [hf]
        split at h
        · rename_i el hel
          rw [nth_eq] at hel
          simp only [hel]
          obtain ⟨hc, h⟩ := sel_true h
          simp only [Bool.and_eq_true, Nat.beq_eq, Nat.ble_eq] at hc
          rw [if_pos ⟨hc.1.1, hc.1.2, hc.2⟩]
          exact h
        · simp at h
      · simp at h
    · simp at h
  | faddr off x =>
    simp only [ER, XR, frN_eq] at h ⊢
    split at h
    · rename_i hx; simp only [hx]; exact h
    · rename_i hx; simp only [hx]; exact h
    · simp at h
  | field off n x =>
    simp only [ER, XR] at h ⊢
    split at h
    · rename_i hx; simp only [hx]; exact pickG_eq h
    · simp at h
  | iaddr size x i =>
    simp only [ER, XR, frN_eq] at h ⊢
    split at h
    · rename_i id sz i0 len q n hx hi
      simp only [hx, hi]
      obtain ⟨hc, h⟩ := sel_true h
      simp only [Bool.and_eq_true, Nat.beq_eq, Nat.blt, Nat.ble_eq] at hc
      rw [if_pos hc.1]
      refine ⟨⟨Int.natCast_nonneg n, ?_⟩, h⟩
      show (n : Int) < (len : Int)
      omega
    · rename_i sz xs q n hx hi
      simp only [hx, hi]
      split at h
      · rename_i e he
        rw [nth_eq] at he
        obtain ⟨hc, h⟩ := sel_true h
        simp only [Nat.beq_eq] at hc
        rw [if_pos hc]
        exact ⟨Int.natCast_nonneg n, e, he, h⟩
      · simp at h
    · simp at h
  | iaddrA len size x i =>
    simp only [ER, XR] at h ⊢
    split at h
    · rename_i c q n hx hi
      simp only [hx, hi]
      split at h
      · rename_i d hd
        obtain ⟨hc, h⟩ := sel_true h
        have e : (Int.ofNat n).toNat = n := rfl
        simp only [e, hd]
        simp only [Nat.blt, Nat.ble_eq] at hc
        refine ⟨⟨Int.natCast_nonneg n, ?_⟩, h⟩
        show (n : Int) < (len : Int)
        omega
      · simp at h
    · simp at h
  | slice size x lo hi =>
    simp only [ER, XR, frcC_eq] at h ⊢
    split at h
    · rename_i c hc
      simp only [hc]
      split at h
      · rename_i len sz hl hs
        simp only [hl, hs]
        split at h
        · rename_i l hh h1 h2
          obtain ⟨hc, h⟩ := sel_true h
          simp only [Bool.and_eq_true, Nat.beq_eq, Nat.ble_eq] at hc
          rw [if_pos hc.1.1]
          simp only [h1, h2]
          refine ⟨⟨hc.1.2, hc.2⟩, ?_⟩
          split at h
          · rename_i d hd; simp only [hd]; exact h
          · simp at h
        · simp at h
      · simp at h
    · simp at h
  | make z bytes l c =>
    simp only [ER, XR, frcL_eq] at h ⊢
    split at h
    · rename_i q l' q' c' hl hc
      simp only [hl, hc]
      obtain ⟨hh, h⟩ := sel_true h
      obtain ⟨hh12, hh3⟩ := Bool.and_eq_true _ _ ▸ hh
      obtain ⟨hh1, hh2⟩ := Bool.and_eq_true _ _ ▸ hh12
      have g1 := Nat.le_of_ble_eq_true hh1
      have g2 := Nat.le_of_ble_eq_true hh2
      have g3 := Nat.le_of_ble_eq_true hh3
      refine ⟨⟨Int.natCast_nonneg l', Int.ofNat_le.2 g1, ?_, ?_⟩, h⟩
      · show (c' : Int) ≤ _
        omega
      · show (c' : Int) * (bytes : Int) ≤ _
        rw [← Int.natCast_mul]
        generalize c' * bytes = q at g3
        omega
    · simp at h
  | extract x k =>
    simp only [ER, XR, frc_eq] at h ⊢
    split at h
    · rename_i ws hx
      simp only [hx]
      split at h
      · rename_i u hu
        rw [nth_eq] at hu
        simp only [hu]
        exact h
      · simp at h
    · simp at h
  | clo f caps =>
    simp only [ER, XR] at h ⊢
    obtain ⟨l, h1, h2⟩ := capsG_eq h
    simp only [h1]
    exact h2
  | len x =>
    simp only [ER, XR, lenG, frN_eq] at h ⊢
    split at h
    · rename_i c hc
      simp only [hc]
      split at h
      · rename_i n hn; simp only [hn]; exact h
      · simp at h
    · simp at h
  | append size bytes s x =>
    simp only [ER, XR, frcL_eq, frN_eq, frcC_eq] at h ⊢
    split at h
    · rename_i s' x' hs hx
      simp only [hs, hx]
      split at h
      · rename_i sz he
        simp only [he]
        split at h
        · rename_i ln hln; simp only [hln]; exact h
        · simp at h
      · rename_i sz y ys he
        simp only [he]
        split at h
        · rename_i id sz' len
          split at h
          · rename_i sz2 xs hf
            simp only [hf]
            obtain ⟨hc, h⟩ := sel_true h
            simp only [Bool.and_eq_true, Nat.beq_eq, Nat.ble_eq] at hc
            obtain ⟨⟨⟨⟨⟨h1, h2⟩, h3⟩, h4⟩, h5⟩, h6⟩ := hc
            subst h4
            rw [if_pos ⟨h1, h2, h3⟩]
            exact ⟨⟨rfl, h5, h6⟩, h⟩
          · simp at h
        · obtain ⟨hc, h⟩ := sel_true h
          simp only [Bool.and_eq_true, Nat.beq_eq, Nat.ble_eq] at hc
          obtain ⟨⟨h1, h2⟩, h3⟩ := hc
          rw [if_pos h1]
          exact ⟨⟨h2, h3⟩, h⟩
        · simp at h
      · simp at h
    · simp at h
  | bin op x y =>
    simp only [ER] at h
    split at h
    · rename_i k a k' b hx hy
      obtain ⟨hc, h'⟩ := sel_true h
      have := kidx_eq hc
      subst this
      exact binG_XR hx hy h'
    · rename_i a b hx hy
      simp only [XR, hx, hy]
      split at h
      · obtain ⟨h1, h2⟩ := sel_true h
        rw [frcL_eq] at h2
        have e : (⟨⟨a.data.toList ++ b.data.toList⟩⟩ : ByteArray) = a ++ b := by
          apply ByteArray.ext
          rw [ByteArray.data_append]
          apply Array.ext'
          simp
        rw [e] at h2
        exact ⟨by have h3 := Nat.le_of_ble_eq_true h1; rw [Array.length_toList, Array.length_toList] at h3; exact h3, h2⟩
      · simpa only [frB_eq, ByteArray.toList_eq] using h
      · simpa only [frB_eq, ByteArray.toList_eq] using h
      · simp at h
    · simp at h
  | bstr x => simp [ER] at h
  | binB op x y =>
    simp only [ER, XR] at h ⊢
    split at h
    · rename_i a b hx hy
      simp only [hx, hy]
      split at h
      · simpa only [frB_eq] using h
      · simpa only [frB_eq] using h
      · simp at h
    · simp at h
  | smin x y =>
    simp only [ER, XR, ltI_eq] at h ⊢
    split at h
    · rename_i k a k' b hx hy
      simp only [hx, hy]
      have e : sel (decide (b < a)) b a = if b < a then b else a := by by_cases hb : b < a <;> simp [sel, hb]
      rw [e] at h
      exact h
    · simp at h
  | smax x y =>
    simp only [ER, XR, ltI_eq] at h ⊢
    split at h
    · rename_i k a k' b hx hy
      simp only [hx, hy]
      have e : sel (decide (a < b)) b a = if b > a then b else a := by by_cases hb : a < b <;> simp [sel, hb]
      rw [e] at h
      exact h
    · simp at h
  | slen x =>
    simp only [ER, XR, frN_eq] at h ⊢
    split at h
    · rename_i s hx; simp only [hx]; exact h
    · simp at h
  | sidx x i =>
    simp only [ER, XR, frN_eq] at h ⊢
    split at h
    · rename_i s q n hx hi
      simp only [hx, hi]
      split at h
      · rename_i b hb
        rw [nth_eq] at hb
        refine ⟨Int.natCast_nonneg n, b, ?_, h⟩
        have e : (Int.ofNat n).toNat = n := rfl
        rw [e, ← ba_get]
        exact hb
      · simp at h
    · simp at h
  | not x =>
    simp only [ER, XR, frB_eq] at h ⊢
    split at h
    · rename_i b hb; simp only [hb]; exact h
    · simp at h
  | neg x =>
    simp only [ER, XR, frI_eq, fwrap_eq] at h ⊢
    split at h
    · rename_i k n hx; simp only [hx]; exact h
    · simp at h
  | conv k x =>
    simp only [ER, XR, frI_eq, fwrap_eq] at h ⊢
    split at h
    · rename_i q n hx; simp only [hx]; exact h
    · simp at h
  | call f xs => simp [ER] at h
  | callc x xs => simp [ER] at h
  | raw op ty => simp [ER] at h

end Go.Abs
