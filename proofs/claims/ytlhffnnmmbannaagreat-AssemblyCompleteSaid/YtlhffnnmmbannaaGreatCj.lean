import Derived.Test.YtlhffnnmmbannaaGreatCi
namespace Go.Abs.Cd
open Go Go.Proofs
set_option maxRecDepth 100000

def cutOk (k p lot size : Int) : List T → Bool
  | [.val (.int .i64 a0), .val (.int .i64 a1), .val (.int .i64 a2), .val (.int .i64 a3), _, .val (.bool d)] => (a1 == k) && ((a0 == p) && ((!d) && ((a2 == lot) && (a3 == size))))
  | _ => false

def NoCut (cs : List (List T)) (k p lot size : Int) (n : Nat) : Prop := ∀ i x, i < n → cs[i]? = some x → cutOk k p lot size x = false

def GoodR (cs : List (List T)) (k p lot size : Int) (ts : List W) : Prop := ∃ r : Int, ts = [oT (tI r)] ∧ (r < 0 ↔ NoCut cs k p lot size cs.length)

theorem goodR {P : Program} {rs : List ResultVar} {tm : TS} {hp : HS} {r : Int} {t : Nat} {cs : List (List T)} {k p lot size : Int} (hr : rs = [.tmp t]) (h : find tm t = some (iV .i64 r)) (hg : r < 0 ↔ NoCut cs k p lot size cs.length) :
    ∃ us ts, resultsOf P hp tm rs = some us ∧ optL (frzWP hp) us = some ts ∧ GoodR cs k p lot size ts := by
  subst hr
  exact ⟨[oT (tI r)], [oT (tI r)], by simp only [resultsOf, resultOf, h], rfl, r, rfl, hg⟩

theorem NoCut.succ {cs : List (List T)} {k p lot size : Int} {n : Nat} {x : List T} (h : NoCut cs k p lot size n) (hx : cs[n]? = some x) (hc : cutOk k p lot size x = false) : NoCut cs k p lot size (n + 1) := by
  intro i y hi hy
  rcases Nat.lt_succ_iff_lt_or_eq.1 hi with h1 | h1
  · exact h i y h1 hy
  · subst h1
    rw [hx] at hy
    simp only [Option.some.injEq] at hy
    subst hy
    exact hc

def p45I (lc : List C) (cs : List (List T)) (k p lot size : Int) (m : Nat) (tm : TS) (hp : HS) (c : Nat) : Prop :=
  ∃ i : Nat, i ≤ cs.length ∧ NoCut cs k p lot size i ∧ m = cs.length - i ∧ tm = [(1, .w (oT (.lst 6 cs))), (2, iV .i64 k), (3, iV .i64 p), (4, .w (.one (.ptr 4 7 0 0))), (9, iV .i64 i)] ∧ hp = [(4, .row 7 [lc])] ∧ c = 8

theorem piece45 (l0 l1 l2 l3 : T) (ss ps pl cs : List (List T)) (kn pn gn : Nat) (lot size : Int) (p1 p2 p3 p4 p5 p6 q1 : T) (hps : ps[kn]? = some [tI (gn : Int), p1, p2, p3, p4, p5, p6]) (hss : ss[gn]? = some [tI size]) (hpl : pl[pn]? = some [tI lot, q1])
    (hc : ∀ x, x ∈ cs → IsTs cutSh x) (hcl : cs.length ≤ maxLen) :
    ∃ ts, Fn Tryz.prog 45 [.agg (layC l0 l1 l2 l3 ss ps pl), oT (.lst 6 cs), oT (tI (kn : Int)), oT (tI (pn : Int))] [] (resV ts) [] ∧ (resV ts).isT = true ∧ GoodR cs kn pn lot size ts := by
  refine fn_good (n := 65) (rs := [.tmp 8]) Tryz.func45 bk45 ck45 rfl rfl (by simp) ?_
  conv => whnf
  refine Exists.intro (p45I (layC l0 l1 l2 l3 ss ps pl) cs kn pn lot size) ?_
  refine And.intro ?_ ?_
  · exact ⟨⟨[1, 2, 3, 4, 9], [(4, 4)], 8⟩, rfl, cs.length, 0, Nat.zero_le _, fun i x hi => by omega, rfl, rfl, rfl, rfl⟩
  rintro m tm hp c ⟨i, hi, hno, rfl, rfl, rfl, rfl⟩
  conv => whnf
  refine br_intro (fun h1 => ?_) (fun h1 => ?_)
  · have hlt := lt_of_dec h1
    obtain ⟨x, hx, t0, q0, rfl, ⟨a0, rfl⟩, t1, q1, rfl, ⟨a1, rfl⟩, t2, q2, rfl, ⟨a2, rfl⟩, t3, q3, rfl, ⟨a3, rfl⟩, t4, q4, rfl, ⟨rl, rfl, hrl, hrr⟩, t5, q5, rfl, ⟨b5, rfl⟩, rfl⟩ := at_of hc hlt
    have next : ∀ {tm : TS} {hp : HS} {c : Nat}, cutOk kn pn lot size [tI a0, tI a1, tI a2, tI a3, .lst 1 rl, tB b5] = false →
        ({ keys := [1, 2, 3, 4, 9], ids := [(4, 4)], ctr := 8 } : Ren).tm tm = [(1, .w (oT (.lst 6 cs))), (2, iV .i64 kn), (3, iV .i64 pn), (4, .w (.one (.ptr 4 7 0 0))), (9, iV .i64 (IntKind.i64.wrap ((i : Int) + 1)))] →
        ({ keys := [1, 2, 3, 4, 9], ids := [(4, 4)], ctr := 8 } : Ren).hp hp = [(4, .row 7 [layC l0 l1 l2 l3 ss ps pl])] →
        XEnter (fun tm hp c => ∃ m', m' < cs.length - i ∧ p45I (layC l0 l1 l2 l3 ss ps pl) cs kn pn lot size m' tm hp c) tm hp c := by
      intro tm hp c hcut htm hhp
      refine ⟨⟨[1, 2, 3, 4, 9], [(4, 4)], 8⟩, rfl, cs.length - (i + 1), by omega, i + 1, by omega, hno.succ hx hcut, rfl, ?_, hhp, rfl⟩
      rw [htm, wrap_succ hlt hcl]
    conv => whnf
    refine And.intro (Int.natCast_nonneg i) ?_
    refine Exists.intro _ (And.intro hx ?_)
    conv => whnf
    refine br_intro (fun h2 => ?_) (fun h2 => ?_)
    · conv => whnf
      refine br_intro (fun h3 => ?_) (fun h3 => ?_)
      · conv => whnf
        refine br_intro (fun h4 => ?_) (fun h4 => ?_)
        · conv => whnf
          refine And.intro (Int.natCast_nonneg pn) ?_
          refine Exists.intro _ (And.intro hpl ?_)
          conv => whnf
          refine br_intro (fun h5 => ?_) (fun h5 => ?_)
          · conv => whnf
            refine And.intro (Int.natCast_nonneg kn) ?_
            refine Exists.intro _ (And.intro hps ?_)
            conv => whnf
            refine And.intro (Int.natCast_nonneg gn) ?_
            refine Exists.intro _ (And.intro hss ?_)
            conv => whnf
            refine And.intro (by kernel_rfl) ?_
            conv => whnf
            refine br_intro (fun h6 => ?_) (fun h6 => ?_)
            · conv => whnf
              refine goodR (r := (i : Int)) rfl rfl ⟨fun h => by omega, fun h => ?_⟩
              have := h i _ hlt hx
              have e2 : (a1 == (kn : Int)) = true := h2
              have e3 : (a0 == (pn : Int)) = true := h3
              have e5 : (a2 == lot) = true := h5
              have e6 : (a3 == size) = true := h6
              simp [cutOk, e2, e3, h4, e5, e6] at this
            · conv => whnf
              exact next (c := 0) (by have : (a3 == size) = false := h6; simp [cutOk, this]) rfl rfl
          · conv => whnf
            refine And.intro (by kernel_rfl) ?_
            conv => whnf
            exact next (c := 0) (by have : (a2 == lot) = false := h5; simp [cutOk, this]) rfl rfl
        · conv => whnf
          refine And.intro (by kernel_rfl) ?_
          conv => whnf
          exact next (c := 0) (by simp [cutOk, h4]) rfl rfl
      · conv => whnf
        refine And.intro (by kernel_rfl) ?_
        conv => whnf
        exact next (c := 0) (by have : (a0 == (pn : Int)) = false := h3; simp [cutOk, this]) rfl rfl
    · conv => whnf
      refine And.intro (by kernel_rfl) ?_
      conv => whnf
      exact next (c := 0) (by have : (a1 == (kn : Int)) = false := h2; simp [cutOk, this]) rfl rfl
  · conv => whnf
    exact goodR (r := -1) rfl rfl ⟨fun _ => by have := ge_of_dec h1; rw [show cs.length = i by omega]; exact hno, fun _ => by decide⟩

end Go.Abs.Cd
