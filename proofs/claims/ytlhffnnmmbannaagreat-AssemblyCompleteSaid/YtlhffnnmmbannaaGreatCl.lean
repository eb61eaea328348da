import Derived.Test.YtlhffnnmmbannaaGreatCk
namespace Go.Abs.Cd
open Go Go.Proofs
set_option maxRecDepth 100000

abbrev t29 (cs ps : List (List T)) (g p lot size : Int) (fv : W) (j : Nat) : TS := [(1, .w (oT (.lst 6 cs))), (2, iV .i64 g), (3, iV .i64 p), (10, iV .i64 lot), (11, iV .i64 size), (12, .w fv), (32, .w (oT (.lst 7 ps))), (33, iV .i64 (ps.length : Int)), (34, iV .i64 j)]
abbrev t29i (cs ps : List (List T)) (g p lot size : Int) (fv : W) (j i : Nat) : TS := [(1, .w (oT (.lst 6 cs))), (2, iV .i64 g), (3, iV .i64 p), (10, iV .i64 lot), (11, iV .i64 size), (12, .w fv), (13, iV .i64 j), (15, iV .i64 (-1)), (32, .w (oT (.lst 7 ps))), (33, iV .i64 (ps.length : Int)), (34, iV .i64 j), (43, .w (oT (.lst 6 cs))), (44, iV .i64 (cs.length : Int)), (45, iV .i64 i)]

def p29I (ps cs : List (List T)) (g p lot size : Int) (m : Nat) (tm : TS) (hp : HS) (c : Nat) : Prop :=
  ∃ j : Nat, j ≤ ps.length ∧ OKp ps cs g p lot size j ∧ m = ps.length - j ∧ c = 8 ∧
    ((tm = t29 cs ps g p lot size (oT nl) j ∧ hp = []) ∨
     ∃ (len : Nat) (rows : List (List C)), len = rows.length ∧ len ≤ j ∧ AllI rows ∧ tm = t29 cs ps g p lot size (.one (.own 4 1 0 len)) j ∧ hp = [(4, .row 1 rows)])
def p29N (ps cs : List (List T)) (g p lot size : Int) (j : Nat) (m : Nat) (tm : TS) (hp : HS) (c : Nat) : Prop :=
  ∃ i : Nat, i ≤ cs.length ∧ NoCut cs j p lot size i ∧ m = cs.length - i ∧ c = 8 ∧ tm = t29i cs ps g p lot size (oT nl) j i ∧ hp = []
def p29O (ps cs : List (List T)) (g p lot size : Int) (j len : Nat) (m : Nat) (tm : TS) (hp : HS) (c : Nat) : Prop :=
  ∃ i : Nat, i ≤ cs.length ∧ NoCut cs j p lot size i ∧ m = cs.length - i ∧ c = 8 ∧ tm = t29i cs ps g p lot size (.one (.own 4 1 0 len)) j i ∧ ∃ rows, len = rows.length ∧ AllI rows ∧ hp = [(4, .row 1 rows)]

theorem pieces29 (l0 l1 l2 l3 : T) (ss ps pl cs : List (List T)) (pn gn : Nat) (lot size : Int) (q1 : T) (hss : ss[gn]? = some [tI size]) (hpl : pl[pn]? = some [tI lot, q1])
    (hc : ∀ x, x ∈ cs → IsTs cutSh x) (hcl : cs.length ≤ maxLen) (hp : ∀ x, x ∈ ps → IsTs placeSh x) (h8 : ps.length ≤ 8) :
    ∃ ts, Fn Tryz.prog 29 [.agg (layC l0 l1 l2 l3 ss ps pl), oT (.lst 6 cs), oT (tI (gn : Int)), oT (tI (pn : Int))] [] (resV ts) [] ∧ (resV ts).isT = true ∧ GoodO (OKp ps cs gn pn lot size ps.length) ts := by
  have hm : ps.length ≤ maxLen := by simp only [maxLen]; omega
  refine fn_good (n := 87) (rs := [.tmp 8, .tmp 9]) Tryz.func29 bk29 ck29 rfl rfl (by simp) ?_
  conv => whnf
  refine And.intro (Int.natCast_nonneg pn) ?_
  refine Exists.intro _ (And.intro hpl ?_)
  conv => whnf
  refine And.intro (Int.natCast_nonneg gn) ?_
  refine Exists.intro _ (And.intro hss ?_)
  conv => whnf
  refine And.intro (by kernel_rfl) ?_
  conv => whnf
  refine Exists.intro (p29I ps cs gn pn lot size) ?_
  refine And.intro ?_ ?_
  · exact ⟨⟨[1, 2, 3, 10, 11, 12, 32, 33, 34], [], 8⟩, rfl, ps.length, 0, Nat.zero_le _, fun k x hk => by omega, rfl, rfl, .inl ⟨rfl, rfl⟩⟩
  rintro m tm hq c ⟨j, hj, hok, rfl, rfl, ⟨rfl, rfl⟩ | ⟨len, rows, hlen, hlj, hall, rfl, rfl⟩⟩
  · conv => whnf
    refine br_intro (fun h1 => ?_) (fun h1 => ?_)
    · have hlt := lt_of_dec h1
      obtain ⟨x, hx, t0, r0, rfl, ⟨a0, rfl⟩, t1, r1, rfl, ⟨a1, rfl⟩, t2, r2, rfl, ⟨a2, rfl⟩, t3, r3, rfl, ⟨a3, rfl⟩, t4, r4, rfl, ⟨a4, rfl⟩, t5, r5, rfl, ⟨a5, rfl⟩, t6, r6, rfl, ⟨a6, rfl⟩, rfl⟩ := at_of hp hlt
      conv => whnf
      refine And.intro (Int.natCast_nonneg j) ?_
      refine Exists.intro _ (And.intro hx ?_)
      conv => whnf
      refine br_intro (fun h2 => ?_) (fun h2 => ?_)
      · have hne : a0 ≠ (gn : Int) := by simpa using h2
        conv => whnf
        refine ⟨⟨[1, 2, 3, 10, 11, 12, 32, 33, 34], [], 8⟩, rfl, ps.length - (j + 1), by omega, j + 1, by omega, hok.succ hx (fun h => absurd h hne), rfl, rfl, .inl ⟨?_, rfl⟩⟩
        show [_, _, _, _, _, _, _, _, (34, iV .i64 (IntKind.i64.wrap ((j : Int) + 1)))] = _
        rw [wrap_succ hlt hm]
        rfl
      · have he : a0 = (gn : Int) := by simpa using h2
        subst he
        conv => whnf
        refine Exists.intro (p29N ps cs gn pn lot size j) ?_
        refine And.intro ?_ ?_
        · exact ⟨⟨[1, 2, 3, 10, 11, 12, 13, 15, 32, 33, 34, 43, 44, 45], [], 8⟩, rfl, cs.length, 0, Nat.zero_le _, fun k x hk => by omega, rfl, rfl, rfl, rfl⟩
        rintro m tm hq c ⟨i, hi, hno, rfl, rfl, rfl, rfl⟩
        conv => whnf
        refine br_intro (fun h3 => ?_) (fun h3 => ?_)
        · have hil := lt_of_dec h3
          obtain ⟨y, hy, u0, p0, rfl, ⟨b0, rfl⟩, u1, p1, rfl, ⟨b1, rfl⟩, u2, p2, rfl, ⟨b2, rfl⟩, u3, p3, rfl, ⟨b3, rfl⟩, u4, p4, rfl, ⟨rl, rfl, hrl, hrr⟩, u5, p5, rfl, ⟨b5, rfl⟩, rfl⟩ := at_of hc hil
          conv => whnf
          refine And.intro (Int.natCast_nonneg i) ?_
          refine Exists.intro _ (And.intro hy ?_)
          conv => whnf
          refine br_intro (fun h4 => ?_) (fun h4 => ?_)
          · conv => whnf
            refine br_intro (fun h5 => ?_) (fun h5 => ?_)
            · conv => whnf
              refine br_intro (fun h6 => ?_) (fun h6 => ?_)
              · conv => whnf
                refine br_intro (fun h7 => ?_) (fun h7 => ?_)
                · conv => whnf
                  refine br_intro (fun h8' => ?_) (fun h8' => ?_)
                  · have hyes : ¬ NoCut cs j pn lot size cs.length := by
                      intro h
                      have := h i _ hil hy
                      have e4 : (b1 == (j : Int)) = true := h4
                      have e5 : (b0 == (pn : Int)) = true := h5
                      have e7 : (b2 == lot) = true := h7
                      have e8 : (b3 == size) = true := h8'
                      simp [cutOk, e4, e5, h6, e7, e8] at this
                    conv => whnf
                    refine And.intro ⟨by decide, by decide⟩ ?_
                    conv => whnf
                    refine ⟨⟨[1, 2, 3, 10, 11, 12, 32, 33, 34], [(172, 4)], 8⟩, rfl, ps.length - (j + 1), by omega, j + 1, by omega, hok.succ hx (fun _ => hyes), rfl, rfl, .inr ⟨1, [[.t (tI (i : Int))]], rfl, by omega, fun e he => ⟨(i : Int), by simpa using he⟩, ?_, rfl⟩⟩
                    show [_, _, _, _, _, _, _, _, (34, iV .i64 (IntKind.i64.wrap ((j : Int) + 1)))] = _
                    rw [wrap_succ hlt hm]
                    rfl
                  · have e8 : (b3 == size) = false := h8'
                    conv => whnf
                    refine ⟨⟨[1, 2, 3, 10, 11, 12, 13, 15, 32, 33, 34, 43, 44, 45], [], 8⟩, rfl, cs.length - (i + 1), by omega, i + 1, by omega, hno.succ hy (by simp [cutOk, e8]), rfl, rfl, ?_, rfl⟩
                    · show [_, _, _, _, _, _, _, _, _, _, _, _, _, (45, iV .i64 (IntKind.i64.wrap ((i : Int) + 1)))] = _
                      rw [wrap_succ hil hcl]
                      rfl
                · have e7 : (b2 == lot) = false := h7
                  conv => whnf
                  refine ⟨⟨[1, 2, 3, 10, 11, 12, 13, 15, 32, 33, 34, 43, 44, 45], [], 8⟩, rfl, cs.length - (i + 1), by omega, i + 1, by omega, hno.succ hy (by simp [cutOk, e7]), rfl, rfl, ?_, rfl⟩
                  · show [_, _, _, _, _, _, _, _, _, _, _, _, _, (45, iV .i64 (IntKind.i64.wrap ((i : Int) + 1)))] = _
                    rw [wrap_succ hil hcl]
                    rfl
              · skip
                conv => whnf
                refine ⟨⟨[1, 2, 3, 10, 11, 12, 13, 15, 32, 33, 34, 43, 44, 45], [], 8⟩, rfl, cs.length - (i + 1), by omega, i + 1, by omega, hno.succ hy (by simp [cutOk, h6]), rfl, rfl, ?_, rfl⟩
                · show [_, _, _, _, _, _, _, _, _, _, _, _, _, (45, iV .i64 (IntKind.i64.wrap ((i : Int) + 1)))] = _
                  rw [wrap_succ hil hcl]
                  rfl
            · have e5 : (b0 == (pn : Int)) = false := h5
              conv => whnf
              refine ⟨⟨[1, 2, 3, 10, 11, 12, 13, 15, 32, 33, 34, 43, 44, 45], [], 8⟩, rfl, cs.length - (i + 1), by omega, i + 1, by omega, hno.succ hy (by simp [cutOk, e5]), rfl, rfl, ?_, rfl⟩
              · show [_, _, _, _, _, _, _, _, _, _, _, _, _, (45, iV .i64 (IntKind.i64.wrap ((i : Int) + 1)))] = _
                rw [wrap_succ hil hcl]
                rfl
          · have e4 : (b1 == (j : Int)) = false := h4
            conv => whnf
            refine ⟨⟨[1, 2, 3, 10, 11, 12, 13, 15, 32, 33, 34, 43, 44, 45], [], 8⟩, rfl, cs.length - (i + 1), by omega, i + 1, by omega, hno.succ hy (by simp [cutOk, e4]), rfl, rfl, ?_, rfl⟩
            · show [_, _, _, _, _, _, _, _, _, _, _, _, _, (45, iV .i64 (IntKind.i64.wrap ((i : Int) + 1)))] = _
              rw [wrap_succ hil hcl]
              rfl
        · have hnone : NoCut cs j pn lot size cs.length := by
            have := ge_of_dec h3
            rw [show cs.length = i by omega]
            exact hno
          conv => whnf
          exact goodO_nil (b := false) rfl rfl rfl ⟨fun h => by simp at h, fun h => absurd hnone (h j _ hlt hx rfl)⟩
    · conv => whnf
      exact goodO_nil (b := true) rfl rfl rfl ⟨fun _ => by have := ge_of_dec h1; rw [show ps.length = j by omega]; exact hok, fun _ => rfl⟩
  · conv => whnf
    refine br_intro (fun h1 => ?_) (fun h1 => ?_)
    · have hlt := lt_of_dec h1
      obtain ⟨x, hx, t0, r0, rfl, ⟨a0, rfl⟩, t1, r1, rfl, ⟨a1, rfl⟩, t2, r2, rfl, ⟨a2, rfl⟩, t3, r3, rfl, ⟨a3, rfl⟩, t4, r4, rfl, ⟨a4, rfl⟩, t5, r5, rfl, ⟨a5, rfl⟩, t6, r6, rfl, ⟨a6, rfl⟩, rfl⟩ := at_of hp hlt
      conv => whnf
      refine And.intro (Int.natCast_nonneg j) ?_
      refine Exists.intro _ (And.intro hx ?_)
      conv => whnf
      refine br_intro (fun h2 => ?_) (fun h2 => ?_)
      · have hne : a0 ≠ (gn : Int) := by simpa using h2
        conv => whnf
        refine ⟨⟨[1, 2, 3, 10, 11, 12, 32, 33, 34], [(4, 4)], 8⟩, rfl, ps.length - (j + 1), by omega, j + 1, by omega, hok.succ hx (fun h => absurd h hne), rfl, rfl, .inr ⟨len, _, ?_, by omega, ?_, ?_, rfl⟩⟩
        · simpa using hlen
        · exact hall.ren _
        show [_, _, _, _, _, _, _, _, (34, iV .i64 (IntKind.i64.wrap ((j : Int) + 1)))] = _
        rw [wrap_succ hlt hm]
        rfl
      · have he : a0 = (gn : Int) := by simpa using h2
        subst he
        conv => whnf
        refine Exists.intro (p29O ps cs gn pn lot size j len) ?_
        refine And.intro ?_ ?_
        · exact ⟨⟨[1, 2, 3, 10, 11, 12, 13, 15, 32, 33, 34, 43, 44, 45], [(4, 4)], 8⟩, rfl, cs.length, 0, Nat.zero_le _, fun k x hk => by omega, rfl, rfl, rfl, ⟨_, by simpa using hlen, hall.ren _, rfl⟩⟩
        rintro m tm hq c ⟨i, hi, hno, rfl, rfl, rfl, rows2, hlen2, hall2, rfl⟩
        conv => whnf
        refine br_intro (fun h3 => ?_) (fun h3 => ?_)
        · have hil := lt_of_dec h3
          obtain ⟨y, hy, u0, p0, rfl, ⟨b0, rfl⟩, u1, p1, rfl, ⟨b1, rfl⟩, u2, p2, rfl, ⟨b2, rfl⟩, u3, p3, rfl, ⟨b3, rfl⟩, u4, p4, rfl, ⟨rl, rfl, hrl, hrr⟩, u5, p5, rfl, ⟨b5, rfl⟩, rfl⟩ := at_of hc hil
          conv => whnf
          refine And.intro (Int.natCast_nonneg i) ?_
          refine Exists.intro _ (And.intro hy ?_)
          conv => whnf
          refine br_intro (fun h4 => ?_) (fun h4 => ?_)
          · conv => whnf
            refine br_intro (fun h5 => ?_) (fun h5 => ?_)
            · conv => whnf
              refine br_intro (fun h6 => ?_) (fun h6 => ?_)
              · conv => whnf
                refine br_intro (fun h7 => ?_) (fun h7 => ?_)
                · conv => whnf
                  refine br_intro (fun h8' => ?_) (fun h8' => ?_)
                  · have hyes : ¬ NoCut cs j pn lot size cs.length := by
                      intro h
                      have := h i _ hil hy
                      have e4 : (b1 == (j : Int)) = true := h4
                      have e5 : (b0 == (pn : Int)) = true := h5
                      have e7 : (b2 == lot) = true := h7
                      have e8 : (b3 == size) = true := h8'
                      simp [cutOk, e4, e5, h6, e7, e8] at this
                    conv => whnf
                    refine And.intro ⟨hlen2, by simp only [maxRoom, List.take_zero, List.length_nil]; omega, by simp only [maxLen, List.take_zero, List.length_nil]; omega⟩ ?_
                    conv => whnf
                    refine ⟨⟨[1, 2, 3, 10, 11, 12, 32, 33, 34], [(172, 4)], 8⟩, rfl, ps.length - (j + 1), by omega, j + 1, by omega, hok.succ hx (fun _ => hyes), rfl, rfl, .inr ⟨rows2.length + 1, _, ?_, by omega, ?_, ?_, rfl⟩⟩
                    · simp
                    · exact (hall2.snoc (i : Int)).ren _
                    show [_, _, _, _, _, _, _, _, (34, iV .i64 (IntKind.i64.wrap ((j : Int) + 1)))] = _
                    rw [wrap_succ hlt hm]
                    rfl
                  · have e8 : (b3 == size) = false := h8'
                    conv => whnf
                    refine ⟨⟨[1, 2, 3, 10, 11, 12, 13, 15, 32, 33, 34, 43, 44, 45], [(4, 4)], 8⟩, rfl, cs.length - (i + 1), by omega, i + 1, by omega, hno.succ hy (by simp [cutOk, e8]), rfl, rfl, ?_, ⟨_, ?_, ?_, rfl⟩⟩
                    · show [_, _, _, _, _, _, _, _, _, _, _, _, _, (45, iV .i64 (IntKind.i64.wrap ((i : Int) + 1)))] = _
                      rw [wrap_succ hil hcl]
                      rfl
                    · simpa using hlen2
                    · exact hall2.ren _
                · have e7 : (b2 == lot) = false := h7
                  conv => whnf
                  refine ⟨⟨[1, 2, 3, 10, 11, 12, 13, 15, 32, 33, 34, 43, 44, 45], [(4, 4)], 8⟩, rfl, cs.length - (i + 1), by omega, i + 1, by omega, hno.succ hy (by simp [cutOk, e7]), rfl, rfl, ?_, ⟨_, ?_, ?_, rfl⟩⟩
                  · show [_, _, _, _, _, _, _, _, _, _, _, _, _, (45, iV .i64 (IntKind.i64.wrap ((i : Int) + 1)))] = _
                    rw [wrap_succ hil hcl]
                    rfl
                  · simpa using hlen2
                  · exact hall2.ren _
              · skip
                conv => whnf
                refine ⟨⟨[1, 2, 3, 10, 11, 12, 13, 15, 32, 33, 34, 43, 44, 45], [(4, 4)], 8⟩, rfl, cs.length - (i + 1), by omega, i + 1, by omega, hno.succ hy (by simp [cutOk, h6]), rfl, rfl, ?_, ⟨_, ?_, ?_, rfl⟩⟩
                · show [_, _, _, _, _, _, _, _, _, _, _, _, _, (45, iV .i64 (IntKind.i64.wrap ((i : Int) + 1)))] = _
                  rw [wrap_succ hil hcl]
                  rfl
                · simpa using hlen2
                · exact hall2.ren _
            · have e5 : (b0 == (pn : Int)) = false := h5
              conv => whnf
              refine ⟨⟨[1, 2, 3, 10, 11, 12, 13, 15, 32, 33, 34, 43, 44, 45], [(4, 4)], 8⟩, rfl, cs.length - (i + 1), by omega, i + 1, by omega, hno.succ hy (by simp [cutOk, e5]), rfl, rfl, ?_, ⟨_, ?_, ?_, rfl⟩⟩
              · show [_, _, _, _, _, _, _, _, _, _, _, _, _, (45, iV .i64 (IntKind.i64.wrap ((i : Int) + 1)))] = _
                rw [wrap_succ hil hcl]
                rfl
              · simpa using hlen2
              · exact hall2.ren _
          · have e4 : (b1 == (j : Int)) = false := h4
            conv => whnf
            refine ⟨⟨[1, 2, 3, 10, 11, 12, 13, 15, 32, 33, 34, 43, 44, 45], [(4, 4)], 8⟩, rfl, cs.length - (i + 1), by omega, i + 1, by omega, hno.succ hy (by simp [cutOk, e4]), rfl, rfl, ?_, ⟨_, ?_, ?_, rfl⟩⟩
            · show [_, _, _, _, _, _, _, _, _, _, _, _, _, (45, iV .i64 (IntKind.i64.wrap ((i : Int) + 1)))] = _
              rw [wrap_succ hil hcl]
              rfl
            · simpa using hlen2
            · exact hall2.ren _
        · have hnone : NoCut cs j pn lot size cs.length := by
            have := ge_of_dec h3
            rw [show cs.length = i by omega]
            exact hno
          conv => whnf
          exact goodO_nil (b := false) rfl rfl rfl ⟨fun h => by simp at h, fun h => absurd hnone (h j _ hlt hx rfl)⟩
    · conv => whnf
      exact goodO_own (b := true) rfl rfl rfl ⟨fun _ => by have := ge_of_dec h1; rw [show ps.length = j by omega]; exact hok, fun _ => rfl⟩ rfl hlen hall

end Go.Abs.Cd
