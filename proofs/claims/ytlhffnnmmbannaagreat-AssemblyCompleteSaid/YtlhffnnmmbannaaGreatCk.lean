import Derived.Test.YtlhffnnmmbannaaGreatCj
namespace Go.Abs.Cd
open Go Go.Proofs
set_option maxRecDepth 100000

def headI : List T → Int
  | .val (.int _ n) :: _ => n
  | _ => 0

def OKp (ps cs : List (List T)) (g p lot size : Int) (n : Nat) : Prop := ∀ k x, k < n → ps[k]? = some x → headI x = g → ¬ NoCut cs k p lot size cs.length

theorem OKp.succ {ps cs : List (List T)} {g p lot size : Int} {n : Nat} {x : List T} (h : OKp ps cs g p lot size n) (hx : ps[n]? = some x) (hc : headI x = g → ¬ NoCut cs n p lot size cs.length) : OKp ps cs g p lot size (n + 1) := by
  intro i y hi hy hg
  rcases Nat.lt_succ_iff_lt_or_eq.1 hi with h1 | h1
  · exact h i y h1 hy hg
  · subst h1
    rw [hx] at hy
    simp only [Option.some.injEq] at hy
    subst hy
    exact hc hg

def GoodO (q : Prop) (ts : List W) : Prop := ∃ v b, ts = [v, oT (tB b)] ∧ (v = oT nl ∨ ∃ xs, v = oT (.lst 1 xs)) ∧ (b = true ↔ q)

def AllI (rows : List (List C)) : Prop := ∀ e, e ∈ rows → ∃ n, e = [.t (tI n)]

theorem frz_ints {d : Nat} {hp : HS} : ∀ {rows : List (List C)}, AllI rows → ∃ ts, optL (optL (frzP d hp)) rows = some ts
  | [], _ => ⟨[], rfl⟩
  | e :: r, h => by
    obtain ⟨n, rfl⟩ := h e (by simp)
    obtain ⟨ts, hts⟩ := frz_ints (d := d) (hp := hp) (rows := r) fun e he => h e (by simp [he])
    have h0 : frzP d hp (C.t (tI n)) = some (tI n) := by cases d <;> rfl
    exact ⟨[tI n] :: ts, by simp only [optL, h0, hts]⟩

theorem AllI.ren {rows : List (List C)} (h : AllI rows) (f : Nat → Option Nat) : AllI (rows.map fun e => e.map (C.ren f)) := by
  intro e he
  simp only [List.mem_map] at he
  obtain ⟨e', he', rfl⟩ := he
  obtain ⟨n, rfl⟩ := h e' he'
  exact ⟨n, rfl⟩

theorem AllI.snoc {rows : List (List C)} (h : AllI rows) (r : Int) : AllI (rows ++ [[.t (tI r)]]) := fun e he => (List.mem_append.1 he).elim (h e) (fun h => ⟨r, by simpa using h⟩)

theorem goodO_nil {P : Program} {rs : List ResultVar} {tm : TS} {hp : HS} {b : Bool} {q : Prop} (hr : rs = [.tmp 8, .tmp 9]) (h : find tm 8 = some (.w (oT nl))) (h9 : find tm 9 = some (bV b)) (hq : b = true ↔ q) :
    ∃ us ts, resultsOf P hp tm rs = some us ∧ optL (frzWP hp) us = some ts ∧ GoodO q ts := by
  subst hr
  exact ⟨[oT nl, oT (tB b)], [oT nl, oT (tB b)], by simp only [resultsOf, resultOf, h, h9], rfl, _, b, rfl, .inl rfl, hq⟩

theorem goodO_own {P : Program} {rs : List ResultVar} {tm : TS} {hp : HS} {b : Bool} {q : Prop} {id len : Nat} {rows : List (List C)} (hr : rs = [.tmp 8, .tmp 9]) (h : find tm 8 = some (.w (.one (.own id 1 0 len)))) (h9 : find tm 9 = some (bV b)) (hq : b = true ↔ q)
    (hf : find hp id = some (.row 1 rows)) (hlen : len = rows.length) (hall : AllI rows) :
    ∃ us ts, resultsOf P hp tm rs = some us ∧ optL (frzWP hp) us = some ts ∧ GoodO q ts := by
  subst hr
  obtain ⟨ts, hts⟩ := frz_ints (d := 5) (hp := hp) hall
  have h1 : frzWP hp (.one (.own id 1 0 len)) = some (oT (.lst 1 ts)) := by
    have e : (List.drop 0 rows).take len = rows := by rw [hlen]; simp
    simp only [frzWP, frzP, hf, e, hts, Option.map_some]
    rw [if_pos ⟨trivial, by omega⟩]
    rfl
  refine ⟨[.one (.own id 1 0 len), oT (tB b)], [oT (.lst 1 ts), oT (tB b)], by simp only [resultsOf, resultOf, h, h9], ?_, _, b, rfl, .inr ⟨ts, rfl⟩, hq⟩
  have h2 : frzWP hp (oT (tB b)) = some (oT (tB b)) := rfl
  simp only [optL, h1, h2]

def p31I (lc : List C) (ps cs : List (List T)) (g p lot size : Int) (m : Nat) (tm : TS) (hp : HS) (c : Nat) : Prop :=
  ∃ j : Nat, j ≤ ps.length ∧ OKp ps cs g p lot size j ∧ m = ps.length - j ∧ c = 12 ∧
    ((tm = [(1, .w (oT (.lst 6 cs))), (2, iV .i64 g), (3, iV .i64 p), (4, .w (.one (.ptr 4 7 0 0))), (10, .w (oT nl)), (11, iV .i64 j)] ∧ hp = [(4, .row 7 [lc])]) ∨
     ∃ (len : Nat) (rows : List (List C)), len = rows.length ∧ len ≤ j ∧ AllI rows ∧ tm = [(1, .w (oT (.lst 6 cs))), (2, iV .i64 g), (3, iV .i64 p), (4, .w (.one (.ptr 4 7 0 0))), (10, .w (.one (.own 5 1 0 len))), (11, iV .i64 j)] ∧ hp = [(4, .row 7 [lc]), (5, .row 1 rows)])

abbrev placeSh : List Sh := [.int, .int, .int, .bool, .int, .int, .int]

theorem pieces31 (l0 l1 l2 l3 : T) (ss ps pl cs : List (List T)) (pn gn : Nat) (lot size : Int) (q1 : T) (hss : ss[gn]? = some [tI size]) (hpl : pl[pn]? = some [tI lot, q1])
    (hc : ∀ x, x ∈ cs → IsTs cutSh x) (hcl : cs.length ≤ maxLen) (hp : ∀ x, x ∈ ps → IsTs placeSh x) (h8 : ps.length ≤ 8) :
    ∃ ts, Fn Tryz.prog 31 [.agg (layC l0 l1 l2 l3 ss ps pl), oT (.lst 6 cs), oT (tI (gn : Int)), oT (tI (pn : Int))] [] (resV ts) [] ∧ (resV ts).isT = true ∧ GoodO (OKp ps cs gn pn lot size ps.length) ts := by
  have hm : ps.length ≤ maxLen := by simp only [maxLen]; omega
  refine fn_good (n := 42) (rs := [.tmp 8, .tmp 9]) Tryz.func31 bk31 ck31 rfl rfl (by simp) ?_
  conv => whnf
  refine Exists.intro (p31I (layC l0 l1 l2 l3 ss ps pl) ps cs gn pn lot size) ?_
  refine And.intro ?_ ?_
  · exact ⟨⟨[1, 2, 3, 4, 10, 11], [(4, 4)], 12⟩, rfl, ps.length, 0, Nat.zero_le _, fun k x hk => by omega, rfl, rfl, .inl ⟨rfl, rfl⟩⟩
  rintro m tm hq c ⟨j, hj, hok, rfl, rfl, ⟨rfl, rfl⟩ | ⟨len, rows, hlen, hlj, hall, rfl, rfl⟩⟩
  · conv => whnf
    refine br_intro (fun h1 => ?_) (fun h1 => ?_)
    · have hlt := lt_of_dec h1
      obtain ⟨x, hx, t0, r0, rfl, ⟨a0, rfl⟩, t1, r1, rfl, ⟨a1, rfl⟩, t2, r2, rfl, ⟨a2, rfl⟩, t3, r3, rfl, ⟨a3, rfl⟩, t4, r4, rfl, ⟨a4, rfl⟩, t5, r5, rfl, ⟨a5, rfl⟩, t6, r6, rfl, ⟨a6, rfl⟩, rfl⟩ := at_of hp hlt
      conv => whnf
      refine And.intro (Int.natCast_nonneg j) ?_
      refine Exists.intro _ (And.intro hx ?_)
      conv => whnf
      refine br_intro (fun h2 => ?_) (fun h2 => ?_)
      · have hne : a0 ≠ (gn : Int) := by simpa using h2
        conv => whnf
        refine ⟨⟨[1, 2, 3, 4, 10, 11], [(4, 4)], 12⟩, rfl, ps.length - (j + 1), by omega, j + 1, by omega, hok.succ hx (fun h => absurd h hne), rfl, rfl, .inl ⟨?_, rfl⟩⟩
        show [_, _, _, _, _, (11, iV .i64 (IntKind.i64.wrap ((j : Int) + 1)))] = _
        rw [wrap_succ hlt hm]
        rfl
      · have he : a0 = (gn : Int) := by simpa using h2
        subst he
        obtain ⟨_, h45, t45, r, rfl, hr⟩ := piece45 l0 l1 l2 l3 ss ps pl cs j pn gn lot size _ _ _ _ _ _ q1 hx hss hpl hc hcl
        conv => whnf
        refine ⟨iV .i64 r, _, callTo_tree t45 rfl h45, ?_⟩
        conv => whnf
        refine br_intro (fun h3 => ?_) (fun h3 => ?_)
        · have hneg : r < 0 := by simpa using h3
          conv => whnf
          exact goodO_nil (b := false) rfl rfl rfl ⟨fun h => by simp at h, fun h => absurd (hr.1 hneg) (h j _ hlt hx rfl)⟩
        · have hpos : ¬ r < 0 := by simpa using h3
          conv => whnf
          refine And.intro ⟨by decide, by decide⟩ ?_
          conv => whnf
          refine ⟨⟨[1, 2, 3, 4, 10, 11], [(4, 4), (116, 5)], 12⟩, rfl, ps.length - (j + 1), by omega, j + 1, by omega, hok.succ hx (fun _ h => hpos (hr.2 h)), rfl, rfl, .inr ⟨1, [[.t (tI r)]], rfl, by omega, fun e he => ⟨r, by simpa using he⟩, ?_, rfl⟩⟩
          show [_, _, _, _, _, (11, iV .i64 (IntKind.i64.wrap ((j : Int) + 1)))] = _
          rw [wrap_succ hlt hm]
          rfl
    · conv => whnf
      exact goodO_nil (b := true) rfl rfl rfl ⟨fun _ => by have := ge_of_dec h1; rw [show ps.length = j by omega]; exact hok, fun _ => rfl⟩
  · conv => whnf
    refine br_intro (fun h1 => ?_) (fun h1 => ?_)
    · have hlt := lt_of_dec h1
      obtain ⟨x, hx, t0, r0, rfl, ⟨a0, rfl⟩, t1, r1, rfl, ⟨a1, rfl⟩, t2, r2, rfl, ⟨a2, rfl⟩, t3, r3, rfl, ⟨a3, rfl⟩, t4, r4, rfl, ⟨a4, rfl⟩, t5, r5, rfl, ⟨a5, rfl⟩, t6, r6, rfl, ⟨a6, rfl⟩, rfl⟩ := at_of hp hlt
      conv => whnf
      refine And.intro (Int.natCast_nonneg j) ?_
      refine Exists.intro _ (And.intro hx ?_)
      conv => whnf
      refine br_intro (fun h2 => ?_) (fun h2 => ?_)
      · have hne : a0 ≠ (gn : Int) := by simpa using h2
        conv => whnf
        refine ⟨⟨[1, 2, 3, 4, 10, 11], [(4, 4), (5, 5)], 12⟩, rfl, ps.length - (j + 1), by omega, j + 1, by omega, hok.succ hx (fun h => absurd h hne), rfl, rfl, .inr ⟨len, _, ?_, by omega, ?_, ?_, rfl⟩⟩
        · simpa using hlen
        · exact hall.ren _
        show [_, _, _, _, _, (11, iV .i64 (IntKind.i64.wrap ((j : Int) + 1)))] = _
        rw [wrap_succ hlt hm]
        rfl
      · have he : a0 = (gn : Int) := by simpa using h2
        subst he
        obtain ⟨_, h45, t45, r, rfl, hr⟩ := piece45 l0 l1 l2 l3 ss ps pl cs j pn gn lot size _ _ _ _ _ _ q1 hx hss hpl hc hcl
        conv => whnf
        refine ⟨iV .i64 r, _, callTo_tree t45 rfl h45, ?_⟩
        conv => whnf
        refine br_intro (fun h3 => ?_) (fun h3 => ?_)
        · have hneg : r < 0 := by simpa using h3
          conv => whnf
          exact goodO_nil (b := false) rfl rfl rfl ⟨fun h => by simp at h, fun h => absurd (hr.1 hneg) (h j _ hlt hx rfl)⟩
        · have hpos : ¬ r < 0 := by simpa using h3
          conv => whnf
          refine And.intro ⟨hlen, by simp only [maxRoom, List.take_zero, List.length_nil]; omega, by simp only [maxLen, List.take_zero, List.length_nil]; omega⟩ ?_
          conv => whnf
          refine ⟨⟨[1, 2, 3, 4, 10, 11], [(4, 4), (116, 5)], 12⟩, rfl, ps.length - (j + 1), by omega, j + 1, by omega, hok.succ hx (fun _ h => hpos (hr.2 h)), rfl, rfl, .inr ⟨rows.length + 1, _, ?_, by omega, ?_, ?_, rfl⟩⟩
          · simp
          · exact (hall.snoc r).ren _
          show [_, _, _, _, _, (11, iV .i64 (IntKind.i64.wrap ((j : Int) + 1)))] = _
          rw [wrap_succ hlt hm]
          rfl
    · conv => whnf
      exact goodO_own (b := true) rfl rfl rfl ⟨fun _ => by have := ge_of_dec h1; rw [show ps.length = j by omega]; exact hok, fun _ => rfl⟩ rfl hlen hall

end Go.Abs.Cd
