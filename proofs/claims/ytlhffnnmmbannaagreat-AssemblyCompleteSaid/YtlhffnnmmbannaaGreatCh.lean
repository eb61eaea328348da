import Derived.Test.YtlhffnnmmbannaaGreatCg
namespace Go.Abs.Cd
open Go Go.Proofs
set_option maxRecDepth 100000
abbrev styC (s0 : T) (zs ms pcs us : List (List T)) (z5 : Nat) (sm : List (List T)) (z6 : Nat) (op : List (List T)) : List C := [.t s0, .t (.lst 1 zs), .t (.lst 1 ms), .t (.lst 7 pcs), .t (.lst 3 us), .t (.lst z5 sm), .t (.lst z6 op)]

abbrev edgeSh : List Sh := [.str, .sl [.int, .int]]
abbrev pieceSh (sn : List Sh) : List Sh := [.str, .sl edgeSh, .int, .sl sn, .sl [.int, .int], .sl [.int], .bool]
abbrev useSh : List Sh := [.int, .int, .bool]

def sm25I (sc : List C) (g : Int) (len : Nat) (m : Nat) (tm : TS) (hp : HS) (c : Nat) : Prop :=
  ∃ k : Nat, k ≤ len ∧ m = len - k ∧ tm = [(1, iV .i64 g), (2, .w (.one (.ptr 4 7 0 0))), (5, iV .i64 k)] ∧ hp = [(4, .row 7 [sc])] ∧ c = 8
def sm25J (sc : List C) (g : Int) (i len : Nat) (m : Nat) (tm : TS) (hp : HS) (c : Nat) : Prop :=
  ∃ (k : Nat) (s : Int), k ≤ len ∧ m = len - k ∧ tm = [(1, iV .i64 g), (2, .w (.one (.ptr 4 7 0 0))), (5, iV .i64 i), (6, iV .i64 s), (7, iV .i64 k)] ∧ hp = [(4, .row 7 [sc])] ∧ c = 8
def sm25K (sc : List C) (g : Int) (len : Nat) (m : Nat) (tm : TS) (hp : HS) (c : Nat) : Prop :=
  ∃ (k : Nat) (s : Int), k ≤ len ∧ m = len - k ∧ tm = [(1, iV .i64 g), (2, .w (.one (.ptr 4 7 0 0))), (8, iV .i64 s), (9, iV .i64 k)] ∧ hp = [(4, .row 7 [sc])] ∧ c = 8

theorem small25 (s0 : T) (zs ms pcs us : List (List T)) (z5 : Nat) (sm : List (List T)) (z6 : Nat) (op : List (List T)) (g : Int) (sn : List Sh) (hpc : ∀ x, x ∈ pcs → IsTs (pieceSh sn) x) (hpl : pcs.length ≤ maxLen)
    (hu : ∀ x, x ∈ us → IsTs useSh x) (hul : us.length ≤ maxLen) :
    ∃ ts, Fn Tryz.prog 25 [.agg (styC s0 zs ms pcs us z5 sm z6 op), oT (tI g)] [] (resV ts) [] ∧ (resV ts).isT = true ∧ GoodB ts := by
  refine fn_good (n := 131) (rs := [.tmp 4]) Tryz.func25 bk25 ck25 rfl rfl (by simp) ?_
  conv => whnf
  refine br_intro (fun h1 => ?_) (fun h1 => ?_)
  · conv => whnf
    exact goodB rfl rfl
  conv => whnf
  refine br_intro (fun h2 => ?_) (fun h2 => ?_)
  · conv => whnf
    exact goodB rfl rfl
  conv => whnf
  refine br_intro (fun h3 => ?_) (fun h3 => ?_)
  · conv => whnf
    exact goodB rfl rfl
  conv => whnf
  refine br_intro (fun h4 => ?_) (fun h4 => ?_)
  · conv => whnf
    exact goodB rfl rfl
  conv => whnf
  refine br_intro (fun h5 => ?_) (fun h5 => ?_)
  · conv => whnf
    exact goodB rfl rfl
  conv => whnf
  refine br_intro (fun h6 => ?_) (fun h6 => ?_)
  · conv => whnf
    exact goodB rfl rfl
  conv => whnf
  refine br_intro (fun h7 => ?_) (fun h7 => ?_)
  · conv => whnf
    exact goodB rfl rfl
  conv => whnf
  refine br_intro (fun h8 => ?_) (fun h8 => ?_)
  · conv => whnf
    exact goodB rfl rfl
  conv => whnf
  refine Exists.intro (sm25I (styC s0 zs ms pcs us z5 sm z6 op) g pcs.length) ?_
  conv => whnf
  refine And.intro ?_ ?_
  · exact ⟨⟨[1, 2, 5], [(4, 4)], 8⟩, rfl, pcs.length, 0, Nat.zero_le _, rfl, rfl, rfl, rfl⟩
  rintro m tm hp c ⟨i, hi, rfl, rfl, rfl, rfl⟩
  conv => whnf
  refine br_intro (fun h9 => ?_) (fun h9 => ?_)
  · have hlt := lt_of_dec h9
    obtain ⟨x, hx, t0, q0, rfl, ⟨n0, rfl⟩, t1, q1, rfl, ⟨es, rfl, hel, her⟩, t2, q2, rfl, ⟨n2, rfl⟩, t3, q3, rfl, ⟨ns, rfl, hnl, hnr⟩, t4, q4, rfl, ⟨cs, rfl, hcl, hcr⟩, t5, q5, rfl, ⟨ws, rfl, hwl, hwr⟩, t6, q6, rfl, ⟨b6, rfl⟩, rfl⟩ := at_of hpc hlt
    conv => whnf
    refine Exists.intro (sm25J (styC s0 zs ms pcs us z5 sm z6 op) g i es.length) ?_
    conv => whnf
    refine And.intro ?_ ?_
    · exact ⟨⟨[1, 2, 5, 6, 7], [(4, 4)], 8⟩, rfl, es.length, 0, 0, Nat.zero_le _, rfl, rfl, rfl, rfl⟩
    rintro m tm hp c ⟨k, s, hk, rfl, rfl, rfl, rfl⟩
    conv => whnf
    refine And.intro (Int.natCast_nonneg i) ?_
    conv => whnf
    refine Exists.intro _ (And.intro hx ?_)
    have after : ∀ {K : Nat}, True := fun {_} => trivial
    conv => whnf
    refine br_intro (fun h10 => ?_) (fun h10 => ?_)
    · have hkl := lt_of_dec h10
      conv => whnf
      refine br_intro (fun h11 => ?_) (fun h11 => ?_)
      · obtain ⟨y, hy, u0, p0, rfl, ⟨v0, rfl⟩, u1, p1, rfl, ⟨ln, rfl, hll, hlr⟩, rfl⟩ := at_of her hkl
        conv => whnf
        refine And.intro (Int.natCast_nonneg i) ?_
        conv => whnf
        refine Exists.intro _ (And.intro hx ?_)
        conv => whnf
        refine And.intro (Int.natCast_nonneg k) ?_
        conv => whnf
        refine Exists.intro _ (And.intro hy ?_)
        refine ⟨⟨[1, 2, 5, 6, 7], [(4, 4)], 8⟩, rfl, es.length - (k + 1), by omega, k + 1, IntKind.i64.wrap (s + (if (20 : Int) < (ln.length : Int) then 20 else (ln.length : Int))), by omega, rfl, ?_, rfl, rfl⟩
        show [_, _, _, (6, iV .i64 _), (7, iV .i64 (IntKind.i64.wrap ((k : Int) + 1)))] = _
        rw [wrap_succ hkl hel]
        rfl
      · conv => whnf
        refine br_intro (fun h12 => ?_) (fun h12 => ?_)
        · conv => whnf
          exact goodB rfl rfl
        conv => whnf
        refine And.intro (Int.natCast_nonneg i) ?_
        conv => whnf
        refine Exists.intro _ (And.intro hx ?_)
        conv => whnf
        refine br_intro (fun h13 => ?_) (fun h13 => ?_)
        · conv => whnf
          exact goodB rfl rfl
        conv => whnf
        refine And.intro (Int.natCast_nonneg i) ?_
        conv => whnf
        refine Exists.intro _ (And.intro hx ?_)
        conv => whnf
        refine br_intro (fun h14 => ?_) (fun h14 => ?_)
        · conv => whnf
          exact goodB rfl rfl
        refine ⟨⟨[1, 2, 5], [(4, 4)], 8⟩, rfl, pcs.length - (i + 1), by omega, i + 1, by omega, rfl, ?_, rfl, rfl⟩
        show [_, _, (5, iV .i64 (IntKind.i64.wrap ((i : Int) + 1)))] = _
        rw [wrap_succ hlt hpl]
        rfl
    · conv => whnf
      refine br_intro (fun h12 => ?_) (fun h12 => ?_)
      · conv => whnf
        exact goodB rfl rfl
      conv => whnf
      refine And.intro (Int.natCast_nonneg i) ?_
      conv => whnf
      refine Exists.intro _ (And.intro hx ?_)
      conv => whnf
      refine br_intro (fun h13 => ?_) (fun h13 => ?_)
      · conv => whnf
        exact goodB rfl rfl
      conv => whnf
      refine And.intro (Int.natCast_nonneg i) ?_
      conv => whnf
      refine Exists.intro _ (And.intro hx ?_)
      conv => whnf
      refine br_intro (fun h14 => ?_) (fun h14 => ?_)
      · conv => whnf
        exact goodB rfl rfl
      refine ⟨⟨[1, 2, 5], [(4, 4)], 8⟩, rfl, pcs.length - (i + 1), by omega, i + 1, by omega, rfl, ?_, rfl, rfl⟩
      show [_, _, (5, iV .i64 (IntKind.i64.wrap ((i : Int) + 1)))] = _
      rw [wrap_succ hlt hpl]
      rfl
  · conv => whnf
    refine Exists.intro (sm25K (styC s0 zs ms pcs us z5 sm z6 op) g us.length) ?_
    conv => whnf
    refine And.intro ?_ ?_
    · exact ⟨⟨[1, 2, 8, 9], [(4, 4)], 8⟩, rfl, us.length, 0, 0, Nat.zero_le _, rfl, rfl, rfl, rfl⟩
    rintro m tm hp c ⟨k, s, hk, rfl, rfl, rfl, rfl⟩
    conv => whnf
    refine br_intro (fun h10 => ?_) (fun h10 => ?_)
    · have hkl := lt_of_dec h10
      obtain ⟨y, hy, u0, p0, rfl, ⟨v0, rfl⟩, u1, p1, rfl, ⟨v1, rfl⟩, u2, p2, rfl, ⟨v2, rfl⟩, rfl⟩ := at_of hu hkl
      conv => whnf
      refine And.intro (Int.natCast_nonneg k) ?_
      conv => whnf
      refine Exists.intro _ (And.intro hy ?_)
      refine ⟨⟨[1, 2, 8, 9], [(4, 4)], 8⟩, rfl, us.length - (k + 1), by omega, k + 1, IntKind.i64.wrap (s + (if (9 : Int) < (if (0 : Int) > v1 then 0 else v1) then 9 else (if (0 : Int) > v1 then 0 else v1))), by omega, rfl, ?_, rfl, rfl⟩
      show [_, _, (8, iV .i64 _), (9, iV .i64 (IntKind.i64.wrap ((k : Int) + 1)))] = _
      rw [wrap_succ hkl hul]
      rfl
    · conv => whnf
      exact goodB rfl rfl

end Go.Abs.Cd
