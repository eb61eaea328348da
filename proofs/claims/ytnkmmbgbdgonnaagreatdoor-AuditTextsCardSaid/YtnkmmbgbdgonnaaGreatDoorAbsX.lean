import Derived.Test.YtnkmmbgbdgonnaaGreatDoorAbsCode
namespace Go.Abs
open Go

/-- Operands, resolved. -/
inductive Opd where
  | t (n : Nat)
  | c (v : V)

inductive Ro where
  | mov (x : Opd)
  | pick (c x y : Opd)
  | alloc (z : List C)
  | box (x : Opd)
  | build (z : List C) (ps : List (Nat × Nat × Opd))
  | bslice (z : List C) (len : Nat) (ps : List (Nat × Opd))
  | load (n : Option Nat) (x : Opd)
  | store (n : Nat) (x y : Opd)
  | faddr (off : Nat) (x : Opd)
  | field (off : Nat) (n : Option Nat) (x : Opd)
  | iaddr (size : Nat) (x i : Opd)
  | iaddrA (len size : Nat) (x i : Opd)
  | slice (size : Nat) (x : Opd) (lo hi : Option Opd)
  | make (z : List C) (bytes : Nat) (l c : Opd)
  | extract (x : Opd) (k : Nat)
  | clo (f : FuncId) (caps : List Opd)
  | len (x : Opd)
  | append (size bytes : Nat) (s x : Opd)
  | bin (op : BinOp) (x y : Opd)
  | binB (op : BinOp) (x y : Opd)
  | not (x : Opd)
  | neg (x : Opd)
  | conv (k : IntKind) (x : Opd)
  | bstr (x : Opd)
  | smin (x y : Opd)
  | smax (x y : Opd)
  | slen (x : Opd)
  | sidx (x i : Opd)
  | call (f : FuncId) (args : List Opd)
  | callc (x : Opd) (args : List Opd)
  | raw (op : Op) (ty : TypeId)

structure Rop where
  dst : Option Nat
  guard : Option (Nat × Bool)
  op : Ro

def opd : Operand → Opd
  | .tmp t => .t t
  | .const v => .c (V.ofValue v)
  | .global g => .c (globV g)
  | .func f => .c (V.ofValue (.func (.func f) #[] #[]))

def Opd.get (tm : List (Nat × V)) : Opd → V
  | .t n => (find tm n).getD .undef
  | .c v => v

theorem opd_get (st : St) (x : Operand) : (opd x).get st.tmps = st.get x := by cases x <;> rfl

def szOf (P : Program) (t : TypeId) : Option (Option Nat) :=
  match aggT P t with
  | some true => match sizeT P t with
    | some n => some (some n)
    | none => none
  | some false => some none
  | none => none

def partsR (place : Nat → Option (Nat × Nat)) : List (Nat × Operand) → Option (List (Nat × Nat × Opd))
  | [] => some []
  | (i, x) :: r => match place i, partsR place r with
    | some (off, size), some l => some ((off, size, opd x) :: l)
    | _, _ => none

def arithOk : BinOp → Bool
  | .add | .sub | .mul | .eql | .neq | .lss | .leq | .gtr | .geq | .quo | .rem | .shl | .shr | .and | .or | .xor | .andNot => true

/-- Does '==' at this type look at plain numbers, bools or strings? -/
def plainT (P : Program) (t : TypeId) : Bool :=
  match P.underlying t with
  | some (.int _) | some .string => true
  | _ => false

/-- An operation with its types looked up. -/
def resolveOp0 (P : Program) (o : Oper) : Option Ro :=
  match o.op with
  | .move x | .assign x => some (.mov (opd x))
  | .pick c x y => some (.pick (opd c) (opd x) (opd y))
  | .alloc e => (zeroC P e).map .alloc
  | .box _ x => some (.box (opd x))
  | .build t ps =>
    match zeroC P t, P.underlying t with
    | some z, some (.struct fields) =>
      match placesOf P fields.toList with
      | some l => (partsR (fun i => l[i]?) ps.toList).map (.build z)
      | none => none
    | some z, some (.array _ e) =>
      match sizeT P e with
      | some size => (partsR (fun i => some (i * size, size)) ps.toList).map (.build z)
      | none => none
    | _, _ => none
  | .buildSlice t len ps =>
    match P.underlying t with
    | some (.slice e) =>
      match zeroC P e with
      | some z => if len * z.length ≤ 16777216 ∧ 0 < z.length then some (.bslice z len (ps.toList.map fun p => (p.1, opd p.2))) else none
      | none => none
    | _ => none
  | .load t x => (szOf P t).map fun n => .load n (opd x)
  | .store t x y => (sizeT P t).map fun n => .store n (opd x) (opd y)
  | .fieldAddr s x f =>
    match P.underlying s with
    | some (.struct fields) =>
      match fields[f]? with
      | some fd =>
        match sizeT P fd.type with
        | some (_ + 1) => some (.faddr fd.offset (opd x))
        | _ => none
      | none => none
    | _ => none
  | .field t x f =>
    match P.underlying t with
    | some (.struct fields) =>
      match fields[f]? with
      | some fd => (szOf P fd.type).map fun n => .field fd.offset n (opd x)
      | none => none
    | _ => none
  | .indexAddr t x i =>
    match P.underlying t with
    | some (.slice elem) => (sizeT P elem).map fun size => .iaddr size (opd x) (opd i)
    | some (.array len elem) => (sizeT P elem).map fun size => .iaddrA len size (opd x) (opd i)
    | _ => none
  | .slice t x lo hi none =>
    match P.underlying t with
    | some (.slice elem) => (sizeT P elem).map fun size => .slice size (opd x) (lo.map opd) (hi.map opd)
    | _ => none
  | .makeSlice t l c =>
    match P.underlying t with
    | some (.slice e) =>
      match zeroC P e, elemT P e with
      | some z, some (_, bytes) => some (.make z bytes (opd l) (opd c))
      | _, _ => none
    | _ => none
  | .extract x k => some (.extract (opd x) k)
  | .makeFunc (.func f) first captured => if first.isEmpty && !captured.isEmpty then some (.clo f (captured.toList.map opd)) else none
  | .call c =>
    match c.callee with
    | .builtin .len =>
      match c.args.toList, c.argTypes.toList with
      | [x], [t] =>
        match P.underlying t with
        | some (.slice _) => some (.len (opd x))
        | some .string => some (.slen (opd x))
        | _ => none
      | _, _ => none
    | .builtin .min =>
      match c.args.toList with
      | [x, y] => some (.smin (opd x) (opd y))
      | _ => none
    | .builtin .max =>
      match c.args.toList with
      | [x, y] => some (.smax (opd x) (opd y))
      | _ => none
    | .builtin .append =>
      match c.args.toList, c.argTypes.toList with
      | [s, x], [t, t'] =>
        if t = t' then
          match P.underlying t with
          | some (.slice e) => match elemT P e with
            | some (size, bytes) => some (.append size bytes (opd s) (opd x))
            | none => none
          | _ => none
        else none
      | _, _ => none
    | .value (.func f) => if enters P f then some (.call f (c.args.toList.map opd)) else none
    | _ => none
  | .binOp op t x y _ =>
    if plainT P t then some (.bin op (opd x) (opd y)) else
    match P.underlying t with
    | some .bool => some (.binB op (opd x) (opd y))
    | _ => none
  | .index t x i =>
    match P.underlying t with
    | some .string => some (.sidx (opd x) (opd i))
    | _ => none
  | .unOp .not _ x => some (.not (opd x))
  | .unOp .neg _ x => some (.neg (opd x))
  | .convert src dst x =>
    match P.underlying src, P.underlying dst with
    | some (.int _), some (.int k) => some (.conv k (opd x))
    | some (.slice e), some .string => match P.underlying e with
      | some (.int .u8) => some (.bstr (opd x))
      | _ => none
    | _, _ => none
  | _ => none

/-- Whatever is not resolved is kept as it is. -/
def rawOp (o : Oper) : Ro :=
  match o.op with
  | .call ⟨.value (.tmp t), args, _⟩ => .callc (.t t) (args.toList.map opd)
  | op => .raw op o.type

def resolveOp (P : Program) (o : Oper) : Option Ro :=
  match resolveOp0 P o with
  | some r => some r
  | none => some (rawOp o)

theorem rawOp_or (o : Oper) : (∃ t args tys, o.op = .call ⟨.value (.tmp t), args, tys⟩ ∧ rawOp o = .callc (.t t) (args.toList.map opd)) ∨ rawOp o = .raw o.op o.type := by
  unfold rawOp
  split
  · rename_i t args tys h
    exact .inl ⟨t, args, tys, h, rfl⟩
  · exact .inr rfl

/-- The outcome of an operation on two plain values. -/
def binI (op : BinOp) (k : IntKind) (x y : Int) : Option Value :=
  match op with
  | .add => some (.int k (k.wrap (x + y)))
  | .sub => some (.int k (k.wrap (x - y)))
  | .mul => some (.int k (k.wrap (x * y)))
  | .eql => some (.bool (x == y))
  | .neq => some (.bool (x != y))
  | .lss => some (.bool (decide (x < y)))
  | .leq => some (.bool (decide (x ≤ y)))
  | .gtr => some (.bool (decide (x > y)))
  | .geq => some (.bool (decide (x ≥ y)))
  | _ => none

abbrev iV (k : IntKind) (n : Int) : V := .w (.one (.t (.val (.int k n))))
abbrev bV (b : Bool) : V := .w (.one (.t (.val (.bool b))))

/-- Forcing a cell's head, so that states are laid out in full. -/
def frcC {α : Sort _} (c : C) (k : C → α) : α :=
  match c with
  | .t (.val (.int j n)) => k (.t (.val (.int j n)))
  | .t (.val (.bool b)) => k (.t (.val (.bool b)))
  | .t (.val (.string s)) => k (.t (.val (.string s)))
  | .t (.val v) => k (.t (.val v))
  | .t (.lst sz xs) => k (.t (.lst sz xs))
  | .own id sz i len => k (.own id sz i len)
  | .ptr id sz i j => k (.ptr id sz i j)
  | .roe e j => k (.roe e j)
  | .clo f caps => k (.clo f caps)
  | .map id => k (.map id)
  | .it id => k (.it id)
  | .bnd f g ts => k (.bnd f g ts)
  | .any => k .any

theorem frcC_eq {α : Sort _} (c : C) (k : C → α) : frcC c k = k c := by
  unfold frcC
  split <;> rfl

def frc {α : Sort _} (v : V) (k : V → α) : α :=
  match v with
  | .w (.one c) => frcC c fun c => k (.w (.one c))
  | .w (.agg cs) => k (.w (.agg cs))
  | .tup ws => k (.tup ws)
  | .undef => k .undef

theorem frc_eq {α : Sort _} (v : V) (k : V → α) : frc v k = k v := by
  unfold frc
  split
  · rw [frcC_eq]
  all_goals rfl

abbrev TS := List (Nat × V)
abbrev HS := List (Nat × Blk)

def putT (tm : TS) (dst : Option Nat) (v : V) : TS :=
  match dst with
  | some d => (d, v) :: tm
  | none => tm

theorem putT_eq (st : St) (dst : Option Tmp) (v : V) (hp : HS) : St.put { st with heap := hp } dst v = ⟨st.n, putT st.tmps dst v, hp⟩ := by cases dst <;> rfl

theorem putT_eq' (st : St) (dst : Option Tmp) (v : V) : St.put st dst v = ⟨st.n, putT st.tmps dst v, st.heap⟩ := by cases dst <;> rfl

end Go.Abs
