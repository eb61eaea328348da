import Derived.Test.YtnkmmbgbdgonnaaGreatDoorAbsXc
namespace Go.Abs
open Go

/-! A computable evaluator on resolved code, for closed runs in the kernel. -/

inductive Pn where
  | e
  | o (p : Pn)
  | i (p : Pn)
  deriving DecidableEq

def keyF : Nat → Nat → Pn
  | 0, _ => .e
  | f + 1, n => match n with
    | 0 => .e
    | m + 1 => match m % 2 with
      | 0 => .o (keyF f (m / 2))
      | _ => .i (keyF f (m / 2))

def key (n : Nat) : Pn := keyF n n

def Pn.dec : Pn → Nat
  | .e => 0
  | .o p => 2 * p.dec + 1
  | .i p => 2 * p.dec + 2

theorem keyF_dec : ∀ (f n : Nat), n ≤ f → (keyF f n).dec = n
  | 0, n, h => by
    have : n = 0 := by omega
    subst this
    rfl
  | f + 1, 0, _ => rfl
  | f + 1, m + 1, h => by
    simp only [keyF]
    have ih := keyF_dec f (m / 2) (by omega)
    split
    · rename_i h0
      simp only [Pn.dec, ih]
      omega
    · rename_i h0
      simp only [Pn.dec, ih]
      have : m % 2 ≠ 0 := h0
      omega

theorem key_inj {a b : Nat} (h : key a = key b) : a = b := by
  have h1 := keyF_dec a a (Nat.le_refl _)
  have h2 := keyF_dec b b (Nat.le_refl _)
  unfold key at h
  rw [h, h2] at h1
  exact h1.symm

inductive Tr where
  | nil
  | node (v : Option V) (l r : Tr)

def Tr.get : Tr → Pn → Option V
  | .nil, _ => none
  | .node v l r, p => match p with
    | .e => v
    | .o q => l.get q
    | .i q => r.get q

def Tr.set : Pn → Tr → V → Tr
  | .e, t, x => match t with
    | .nil => .node (some x) .nil .nil
    | .node _ l r => .node (some x) l r
  | .o p, t, x => match t with
    | .nil => .node none (Tr.set p .nil x) .nil
    | .node v l r => .node v (Tr.set p l x) r
  | .i p, t, x => match t with
    | .nil => .node none .nil (Tr.set p .nil x)
    | .node v l r => .node v l (Tr.set p r x)

def Tr.put {α : Type} : Pn → Tr → V → (Tr → α) → α
  | .e, t, x, k => match t with
    | .nil => k (.node (some x) .nil .nil)
    | .node _ l r => k (.node (some x) l r)
  | .o p, t, x, k => match t with
    | .nil => Tr.put p .nil x fun l => k (.node none l .nil)
    | .node v l r => Tr.put p l x fun l => k (.node v l r)
  | .i p, t, x, k => match t with
    | .nil => Tr.put p .nil x fun r => k (.node none .nil r)
    | .node v l r => Tr.put p r x fun r => k (.node v l r)

theorem Tr.put_eq {α : Type} : ∀ (p : Pn) (t : Tr) (x : V) (k : Tr → α), Tr.put p t x k = k (Tr.set p t x)
  | .e, t, x, k => by cases t <;> rfl
  | .o p, t, x, k => by cases t <;> simp only [Tr.put, Tr.set, Tr.put_eq p]
  | .i p, t, x, k => by cases t <;> simp only [Tr.put, Tr.set, Tr.put_eq p]

theorem Tr.get_nil (q : Pn) : Tr.nil.get q = none := by cases q <;> rfl

theorem Tr.get_set : ∀ (p : Pn) (t : Tr) (x : V) (q : Pn), (Tr.set p t x).get q = if q = p then some x else t.get q
  | .e, t, x, q => by cases t <;> cases q <;> simp [Tr.set, Tr.get]
  | .o p, t, x, q => by cases t <;> cases q <;> simp [Tr.set, Tr.get, Tr.get_set p, Tr.get_nil]
  | .i p, t, x, q => by cases t <;> cases q <;> simp [Tr.set, Tr.get, Tr.get_set p, Tr.get_nil]

def TmOk (tr : Tr) (L : TS) : Prop := ∀ t, find L t = tr.get (key t)

def putD {α : Type} (tm : Tr) (dst : Option Nat) (v : V) (k : Tr → α) : α :=
  match dst with
  | some d => Tr.put (key d) tm v k
  | none => k tm

def setD (tm : Tr) (dst : Option Nat) (v : V) : Tr :=
  match dst with
  | some d => Tr.set (key d) tm v
  | none => tm

theorem putD_eq {α : Type} (tm : Tr) (dst : Option Nat) (v : V) (k : Tr → α) : putD tm dst v k = k (setD tm dst v) := by
  cases dst <;> simp [putD, setD, Tr.put_eq]

theorem TmOk.put {tr : Tr} {L : TS} (h : TmOk tr L) (dst : Option Nat) (v : V) : TmOk (setD tr dst v) (putT L dst v) := by
  intro t
  cases dst with
  | none => exact h t
  | some d =>
    simp only [setD, putT, Tr.get_set, find_cons]
    by_cases e : d = t
    · subst e; simp
    · have : ¬ key t = key d := fun h' => e (key_inj h').symm
      simp [e, this, h t]

def gT (tm : Tr) : Opd → V
  | .t n => (tm.get (key n)).getD .undef
  | .c v => v

theorem gT_eq {tr : Tr} {L : TS} (h : TmOk tr L) : gT tr = fun x => x.get L := by
  funext x
  cases x with
  | t n => simp only [gT, Opd.get, h n]
  | c v => rfl

/-! Forcing. -/
def frN {α : Sort _} (n : Nat) (k : Nat → α) : α :=
  match n with
  | 0 => k 0
  | m + 1 => k (Nat.succ m)
theorem frN_eq {α : Sort _} (n : Nat) (k : Nat → α) : frN n k = k n := by cases n <;> rfl

def frI {α : Sort _} (n : Int) (k : Int → α) : α :=
  match n with
  | .ofNat m => frN m fun m => k (.ofNat m)
  | .negSucc m => frN m fun m => k (.negSucc m)
theorem frI_eq {α : Sort _} (n : Int) (k : Int → α) : frI n k = k n := by cases n <;> simp [frI, frN_eq]

def frB {α : Sort _} (b : Bool) (k : Bool → α) : α :=
  match b with
  | true => k true
  | false => k false
theorem frB_eq {α : Sort _} (b : Bool) (k : Bool → α) : frB b k = k b := by cases b <;> rfl

def sel {α : Type} (b : Bool) (x y : α) : α :=
  match b with
  | true => x
  | false => y
theorem sel_true {b : Bool} {x : Bool} (h : sel b x false = true) : b = true ∧ x = true := by cases b <;> simp_all [sel]

def nth {α : Type} : List α → Nat → Option α
  | [], _ => none
  | x :: r, n => match n with
    | 0 => some x
    | m + 1 => nth r m
theorem nth_eq {α : Type} : ∀ (l : List α) (n : Nat), nth l n = l[n]?
  | [], n => by simp [nth]
  | x :: r, 0 => by simp [nth]
  | x :: r, n + 1 => by simp [nth, nth_eq r n]

/-! Numbers. -/
theorem blt_lt {a b : Nat} (h : Nat.blt a b = true) : a < b := Nat.le_of_ble_eq_true h
theorem lt_blt {a b : Nat} (h : a < b) : Nat.blt a b = true := Nat.ble_eq_true_of_le h
theorem blt_dec (a b : Nat) : Nat.blt a b = decide (a < b) := by
  by_cases h : a < b
  · rw [lt_blt h, decide_eq_true h]
  · rw [decide_eq_false h]
    cases h' : Nat.blt a b with
    | false => rfl
    | true => exact absurd (blt_lt h') h

def two63 : Nat := 9223372036854775808
def two64 : Nat := 18446744073709551616

def fwrap (k : IntKind) (n : Int) : Int :=
  match k with
  | .i64 => match n with
    | .ofNat m => sel (Nat.blt m 9223372036854775808) (.ofNat m) (IntKind.wrap .i64 (.ofNat m))
    | .negSucc m => sel (Nat.blt m 9223372036854775808) (.negSucc m) (IntKind.wrap .i64 (.negSucc m))
  | .u64 => match n with
    | .ofNat m => .ofNat (m % 18446744073709551616)
    | .negSucc m => IntKind.wrap .u64 (.negSucc m)
  | .u32 => match n with
    | .ofNat m => .ofNat (m % 4294967296)
    | .negSucc m => IntKind.wrap .u32 (.negSucc m)
  | k => k.wrap n

theorem wrap_i64_in {n : Int} (h0 : -9223372036854775808 ≤ n) (h1 : n < 9223372036854775808) : IntKind.i64.wrap n = n := by
  simp [IntKind.wrap, IntKind.bits, IntKind.signed]
  omega

theorem sel_wrap (k : IntKind) (b : Bool) (n : Int) (h : b = true → k.wrap n = n) : sel b n (k.wrap n) = k.wrap n := by
  cases b with
  | false => rfl
  | true => exact (h rfl).symm

theorem fwrap_eq (k : IntKind) (n : Int) : fwrap k n = k.wrap n := by
  unfold fwrap
  split
  · split
    · rename_i m
      refine sel_wrap .i64 _ _ fun h => wrap_i64_in ?_ ?_
      · have := blt_lt h; simp only [Int.ofNat_eq_natCast]; omega
      · have := blt_lt h; simp only [Int.ofNat_eq_natCast]; omega
    · rename_i m
      refine sel_wrap .i64 _ _ fun h => wrap_i64_in ?_ ?_
      · have := blt_lt h; omega
      · have := blt_lt h; omega
  · split
    · rename_i m
      simp only [IntKind.wrap, IntKind.bits, IntKind.signed, Bool.false_and, Int.ofNat_eq_natCast]
      simp
    · rfl
  · split
    · rename_i m
      simp only [IntKind.wrap, IntKind.bits, IntKind.signed, Bool.false_and, Int.ofNat_eq_natCast]
      simp
    · rfl
  · rfl

def ltI (a b : Int) : Bool :=
  match a, b with
  | .ofNat x, .ofNat y => Nat.blt x y
  | .ofNat _, .negSucc _ => false
  | .negSucc _, .ofNat _ => true
  | .negSucc x, .negSucc y => Nat.blt y x
theorem ltI_eq (a b : Int) : ltI a b = decide (a < b) := by
  cases a with
  | ofNat x =>
    cases b with
    | ofNat y => simp only [ltI, blt_dec]; exact decide_eq_decide.2 (by simp only [Int.ofNat_eq_natCast]; omega)
    | negSucc y => simp only [ltI]; exact (decide_eq_false (by simp only [Int.ofNat_eq_natCast]; omega)).symm
  | negSucc x =>
    cases b with
    | ofNat y => simp only [ltI]; exact (decide_eq_true (by simp only [Int.ofNat_eq_natCast]; omega)).symm
    | negSucc y => simp only [ltI, blt_dec]; exact decide_eq_decide.2 (by omega)

def eqI (a b : Int) : Bool :=
  match a, b with
  | .ofNat x, .ofNat y => Nat.beq x y
  | .negSucc x, .negSucc y => Nat.beq x y
  | _, _ => false
theorem eqI_eq (a b : Int) : eqI a b = (a == b) := by
  rw [Bool.eq_iff_iff, beq_iff_eq]
  cases a <;> cases b <;> simp [eqI]
  omega

def kidx : IntKind → Nat
  | .i8 => 0 | .i16 => 1 | .i32 => 2 | .i64 => 3 | .u8 => 4 | .u16 => 5 | .u32 => 6 | .u64 => 7

theorem kidx_eq {k k' : IntKind} (h : Nat.beq (kidx k) (kidx k') = true) : k = k' := by
  cases k <;> cases k' <;> first | rfl | simp [kidx] at h

def pow2 (n : Nat) : Int := .ofNat (2 ^ n)
theorem pow2_eq (n : Nat) : pow2 n = (2 : Int) ^ n := by simp [pow2]

def shrI (a : Int) (n : Nat) : Int :=
  match a with
  | .ofNat m => .ofNat (m / 2 ^ n)
  | a => a.fdiv (2 ^ n)
theorem shrI_eq (a : Int) (n : Nat) : shrI a n = a.fdiv (2 ^ n) := by
  cases a with
  | ofNat m =>
    simp only [shrI]
    rw [Int.fdiv_eq_ediv_of_nonneg _ (by exact_mod_cast Nat.zero_le _)]
    simp
  | negSucc m => rfl

def orI (k : IntKind) (a b : Int) : Int :=
  match a, b with
  | .ofNat x, .ofNat y => sel (Nat.blt x (2 ^ k.bits) && Nat.blt y (2 ^ k.bits)) (fwrap k (.ofNat (x ||| y))) (k.wrap (BitVec.ofInt k.bits (.ofNat x) ||| BitVec.ofInt k.bits (.ofNat y)).toNat)
  | a, b => k.wrap (BitVec.ofInt k.bits a ||| BitVec.ofInt k.bits b).toNat
theorem ofInt_small {w x : Nat} (h : x < 2 ^ w) : (BitVec.ofInt w (Int.ofNat x)).toNat = x := by
  rw [BitVec.toNat_ofInt]
  show ((x : Int) % ((2 ^ w : Nat) : Int)).toNat = x
  rw [← Int.natCast_emod, Int.toNat_natCast, Nat.mod_eq_of_lt h]
theorem orI_eq (k : IntKind) (a b : Int) : orI k a b = k.wrap (BitVec.ofInt k.bits a ||| BitVec.ofInt k.bits b).toNat := by
  cases a <;> cases b <;> simp only [orI]
  rename_i x y
  cases h : (Nat.blt x (2 ^ k.bits) && Nat.blt y (2 ^ k.bits)) with
  | false => rfl
  | true =>
    simp only [Bool.and_eq_true, Nat.blt, Nat.ble_eq] at h
    simp only [sel, fwrap_eq, BitVec.toNat_or]
    rw [ofInt_small (by omega), ofInt_small (by omega)]
    rfl

def andI (k : IntKind) (a b : Int) : Int :=
  match a, b with
  | .ofNat x, .ofNat y => sel (Nat.blt x (2 ^ k.bits) && Nat.blt y (2 ^ k.bits)) (fwrap k (.ofNat (x &&& y))) (k.wrap (BitVec.ofInt k.bits (.ofNat x) &&& BitVec.ofInt k.bits (.ofNat y)).toNat)
  | a, b => k.wrap (BitVec.ofInt k.bits a &&& BitVec.ofInt k.bits b).toNat
theorem andI_eq (k : IntKind) (a b : Int) : andI k a b = k.wrap (BitVec.ofInt k.bits a &&& BitVec.ofInt k.bits b).toNat := by
  cases a <;> cases b <;> simp only [andI]
  rename_i x y
  cases h : (Nat.blt x (2 ^ k.bits) && Nat.blt y (2 ^ k.bits)) with
  | false => rfl
  | true =>
    simp only [Bool.and_eq_true, Nat.blt, Nat.ble_eq] at h
    simp only [sel, fwrap_eq, BitVec.toNat_and]
    rw [ofInt_small (by omega), ofInt_small (by omega)]
    rfl

end Go.Abs
