import Derived.Test.YtlhffnnmmbannaaGreatCf
namespace Go.Abs.Cd
open Go Go.Proofs
set_option maxRecDepth 100000

abbrev layC (l0 l1 l2 l3 : T) (ss ps pl : List (List T)) : List C := [.t l0, .t l1, .t l2, .t l3, .t (.lst 1 ss), .t (.lst 7 ps), .t (.lst 2 pl)]

abbrev cutSh : List Sh := [.int, .int, .int, .int, .sl [.int], .bool]

theorem at_of {xs : List (List T)} {cs : List Sh} (h : ∀ x, x ∈ xs → IsTs cs x) {k : Nat} (hk : k < xs.length) : ∃ x, xs[k]? = some x ∧ IsTs cs x :=
  ⟨xs[k], by simp [hk], h _ (List.getElem_mem hk)⟩

def few26I (lc : List C) (tb tc : T) (len : Nat) (m : Nat) (tm : TS) (hp : HS) (c : Nat) : Prop :=
  ∃ k : Nat, k ≤ len ∧ m = len - k ∧ tm = [(1, .w (oT tb)), (2, .w (oT tc)), (3, .w (oT nl)), (4, .w (.one (.ptr 4 7 0 0))), (9, iV .i64 k)] ∧ hp = [(4, .row 7 [lc])] ∧ c = 8
def few26J (m : Nat) (tm : TS) (hp : HS) (c : Nat) : Prop := m = 0 ∧ tm = [(3, .w (oT nl)), (10, iV .i64 0)] ∧ hp = [] ∧ c = 4

theorem few26 (l0 l1 l2 l3 : T) (ss ps pl bs cs : List (List T)) (bz : Nat) (hc : ∀ x, x ∈ cs → IsTs cutSh x) (hcl : cs.length ≤ maxLen) :
    ∃ ts, Fn Tryz.prog 26 [.agg (layC l0 l1 l2 l3 ss ps pl), oT (.lst bz bs), oT (.lst 6 cs), oT nl] [] (resV ts) [] ∧ (resV ts).isT = true ∧ GoodB ts := by
  refine fn_good Tryz.func26 bk26 ck26 rfl rfl (by simp) ?_
  refine br_intro (fun h1 => ?_) (fun h1 => ?_)
  · exact goodB rfl rfl
  refine br_intro (fun h2 => ?_) (fun h2 => ?_)
  · exact goodB rfl rfl
  refine br_intro (fun h3 => ?_) (fun h3 => ?_)
  · exact goodB rfl rfl
  refine Exists.intro (few26I (layC l0 l1 l2 l3 ss ps pl) (.lst bz bs) (.lst 6 cs) cs.length) ?_
  refine And.intro ?_ ?_
  · exact ⟨⟨[1, 2, 3, 4, 9], [(4, 4)], 8⟩, rfl, cs.length, 0, Nat.zero_le _, rfl, rfl, rfl, rfl⟩
  rintro m tm hp c ⟨k, hk, rfl, rfl, rfl, rfl⟩
  refine br_intro (fun h5 => ?_) (fun h5 => ?_)
  · have hlt := lt_of_dec h5
    obtain ⟨x, hx, t0, q0, rfl, ⟨n0, rfl⟩, t1, q1, rfl, ⟨n1, rfl⟩, t2, q2, rfl, ⟨n2, rfl⟩, t3, q3, rfl, ⟨n3, rfl⟩, t4, q4, rfl, ⟨rl, rfl, hrl, hrr⟩, t5, q5, rfl, ⟨b5, rfl⟩, rfl⟩ := at_of hc hlt
    refine And.intro (Int.natCast_nonneg k) ?_
    refine Exists.intro _ (And.intro hx ?_)
    refine br_intro (fun h6 => ?_) (fun h6 => ?_)
    · exact goodB rfl rfl
    · refine ⟨⟨[1, 2, 3, 4, 9], [(4, 4)], 8⟩, rfl, cs.length - (k + 1), by omega, k + 1, by omega, rfl, ?_, rfl, rfl⟩
      show [_, _, _, _, (9, iV .i64 (IntKind.i64.wrap ((k : Int) + 1)))] = _
      rw [wrap_succ hlt hcl]
      rfl
  · refine Exists.intro few26J ?_
    refine And.intro ?_ ?_
    · exact ⟨⟨[3, 10], [], 4⟩, rfl, 0, rfl, rfl, rfl, rfl⟩
    rintro m tm hp c ⟨rfl, rfl, rfl, rfl⟩
    exact goodB rfl rfl


abbrev plySh : List Sh := [.int, .sl [.int, .int, .int, .int]]

def few22I (lc : List C) (v : Nat) (m : Nat) (tm : TS) (hp : HS) (c : Nat) : Prop :=
  m = 0 ∧ tm = [(1, .w (oT nl)), (2, .w (oT nl)), (4, .w (.one (.ptr 4 7 0 0))), (v, iV .i64 0)] ∧ hp = [(4, .row 7 [lc])] ∧ c = 8
def few22J (lc : List C) (len : Nat) (m : Nat) (tm : TS) (hp : HS) (c : Nat) : Prop :=
  ∃ k : Nat, k ≤ len ∧ m = len - k ∧ tm = [(4, .w (.one (.ptr 4 7 0 0))), (11, iV .i64 k)] ∧ hp = [(4, .row 7 [lc])] ∧ c = 8

theorem few22 (l0 l1 l2 l3 : T) (ss ps pl : List (List T)) (sh : List Sh) (hc : ∀ x, x ∈ pl → IsTs [.int, .sl sh] x) (hcl : pl.length ≤ maxLen) :
    ∃ ts, Fn Tryz.prog 22 [.agg (layC l0 l1 l2 l3 ss ps pl), oT nl, oT nl, oT nl] [] (resV ts) [] ∧ (resV ts).isT = true ∧ GoodB ts := by
  refine fn_good Tryz.func22 bk22 ck22 rfl rfl (by simp) ?_
  refine br_intro (fun h1 => ?_) (fun h1 => ?_)
  · exact goodB rfl rfl
  refine br_intro (fun h2 => ?_) (fun h2 => ?_)
  · exact goodB rfl rfl
  refine br_intro (fun h3 => ?_) (fun h3 => ?_)
  · exact goodB rfl rfl
  refine Exists.intro (few22I (layC l0 l1 l2 l3 ss ps pl) 9) ?_
  refine And.intro ?_ ?_
  · exact ⟨⟨[1, 2, 4, 9], [(4, 4)], 8⟩, rfl, 0, rfl, rfl, rfl, rfl⟩
  rintro m tm hp c ⟨rfl, rfl, rfl, rfl⟩
  refine Exists.intro (few22I (layC l0 l1 l2 l3 ss ps pl) 10) ?_
  refine And.intro ?_ ?_
  · exact ⟨⟨[1, 2, 4, 10], [(4, 4)], 8⟩, rfl, 0, rfl, rfl, rfl, rfl⟩
  rintro m tm hp c ⟨rfl, rfl, rfl, rfl⟩
  refine Exists.intro (few22J (layC l0 l1 l2 l3 ss ps pl) pl.length) ?_
  refine And.intro ?_ ?_
  · exact ⟨⟨[4, 11], [(4, 4)], 8⟩, rfl, pl.length, 0, Nat.zero_le _, rfl, rfl, rfl, rfl⟩
  rintro m tm hp c ⟨k, hk, rfl, rfl, rfl, rfl⟩
  refine br_intro (fun h5 => ?_) (fun h5 => ?_)
  · have hlt := lt_of_dec h5
    obtain ⟨x, hx, t0, q0, rfl, ⟨n0, rfl⟩, t1, q1, rfl, ⟨rl, rfl, hrl, hrr⟩, rfl⟩ := at_of hc hlt
    refine And.intro (Int.natCast_nonneg k) ?_
    refine Exists.intro _ (And.intro hx ?_)
    refine br_intro (fun h6 => ?_) (fun h6 => ?_)
    · exact goodB rfl rfl
    · refine ⟨⟨[4, 11], [(4, 4)], 8⟩, rfl, pl.length - (k + 1), by omega, k + 1, by omega, rfl, ?_, rfl, rfl⟩
      show [_, (11, iV .i64 (IntKind.i64.wrap ((k : Int) + 1)))] = _
      rw [wrap_succ hlt hcl]
      rfl
  · exact goodB rfl rfl


end Go.Abs.Cd
