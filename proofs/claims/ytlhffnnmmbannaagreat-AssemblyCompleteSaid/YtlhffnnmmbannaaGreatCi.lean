import Derived.Test.YtlhffnnmmbannaaGreatCh
namespace Go.Abs.Cd
open Go Go.Proofs
set_option maxRecDepth 100000

structure CaseD where
  s0 : T
  (zs ms pcs us : List (List T))
  z5 : Nat
  sm : List (List T)
  z6 : Nat
  op : List (List T)
  (l0 l1 l2 l3 : T)
  (ss ps pl : List (List T))
  bz : Nat
  (bs cs : List (List T))

abbrev CaseD.sty (d : CaseD) : List C := styC d.s0 d.zs d.ms d.pcs d.us d.z5 d.sm d.z6 d.op
abbrev CaseD.lay (d : CaseD) : List C := layC d.l0 d.l1 d.l2 d.l3 d.ss d.ps d.pl
abbrev CaseD.cells (d : CaseD) : List C := [.t d.s0, .t (.lst 1 d.zs), .t (.lst 1 d.ms), .t (.lst 7 d.pcs), .t (.lst 3 d.us), .t (.lst d.z5 d.sm), .t (.lst d.z6 d.op), .t d.l0, .t d.l1, .t d.l2, .t d.l3, .t (.lst 1 d.ss), .t (.lst 7 d.ps), .t (.lst 2 d.pl), .t (.lst d.bz d.bs), .t (.lst 6 d.cs)]

structure CaseD.Ok (d : CaseD) : Prop where
  sn : ∃ sn, ∀ x, x ∈ d.pcs → IsTs (pieceSh sn) x
  pcl : d.pcs.length ≤ maxLen
  us : ∀ x, x ∈ d.us → IsTs useSh x
  usl : d.us.length ≤ maxLen
  ss : ∀ x, x ∈ d.ss → IsTs [.int] x
  ssl : d.ss.length ≤ maxLen
  ps : ∀ x, x ∈ d.ps → IsTs [.int, .int, .int, .bool, .int, .int, .int] x
  psl : d.ps.length ≤ maxLen
  pl : ∃ sh, ∀ x, x ∈ d.pl → IsTs [.int, .sl sh] x
  pll : d.pl.length ≤ maxLen
  cs : ∀ x, x ∈ d.cs → IsTs cutSh x
  csl : d.cs.length ≤ maxLen

def GoodF (n : Nat) (ts : List W) : Prop := ∃ b, ts = [oT (tB b)] ∧ (b = true → n ≤ 8)
theorem goodF {P : Program} {rs : List ResultVar} {tm : TS} {hp : HS} {b : Bool} {t n : Nat} (hr : rs = [.tmp t]) (h : find tm t = some (bV b)) (hn : b = true → n ≤ 8) : ∃ us ts, resultsOf P hp tm rs = some us ∧ optL (frzWP hp) us = some ts ∧ GoodF n ts := by
  subst hr
  exact ⟨[oT (tB b)], [oT (tB b)], by simp only [resultsOf, resultOf, h], rfl, b, rfl, hn⟩

theorem few12 (d : CaseD) (hd : d.Ok) : ∃ ts, Fn Tryz.prog 12 [.agg d.cells, oT nl] [] (resV ts) [] ∧ (resV ts).isT = true ∧ GoodF d.ps.length ts := by
  obtain ⟨sn, hsn⟩ := hd.sn
  obtain ⟨sh, hsh⟩ := hd.pl
  obtain ⟨_, h25, t25, b25, rfl⟩ := small25 d.s0 d.zs d.ms d.pcs d.us d.z5 d.sm d.z6 d.op (d.ss.length : Int) sn hsn hd.pcl hd.us hd.usl
  obtain ⟨_, h26, t26, b26, rfl⟩ := few26 d.l0 d.l1 d.l2 d.l3 d.ss d.ps d.pl d.bs d.cs d.bz hd.cs hd.csl
  obtain ⟨_, h22, t22, b22, rfl⟩ := few22 d.l0 d.l1 d.l2 d.l3 d.ss d.ps d.pl sh hsh hd.pll
  refine fn_good (n := 44) (rs := [.tmp 4]) Tryz.func12 bk12 ck12 rfl rfl (by simp) ?_
  conv => whnf
  refine br_intro (fun h1 => ?_) (fun h1 => ?_)
  · conv => whnf
    refine ⟨bV b25, _, callTo_tree t25 rfl h25, ?_⟩
    conv => whnf
    refine br_intro (fun h2 => ?_) (fun h2 => ?_)
    · conv => whnf
      refine br_intro (fun h3 => ?_) (fun h3 => ?_)
      · conv => whnf
        refine ⟨bV b26, _, callTo_tree t26 rfl h26, ?_⟩
        conv => whnf
        refine br_intro (fun h4 => ?_) (fun h4 => ?_)
        · conv => whnf
          refine ⟨bV b22, _, callTo_tree t22 rfl h22, ?_⟩
          conv => whnf
          exact goodF (b := b22) rfl rfl (fun _ => by simp at h3; omega)
        · conv => whnf
          exact goodF (b := false) rfl rfl (fun h => by simp at h)
      · conv => whnf
        exact goodF (b := false) rfl rfl (fun h => by simp at h)
    · conv => whnf
      exact goodF (b := false) rfl rfl (fun h => by simp at h)
  · conv => whnf
    exact goodF (b := false) rfl rfl (fun h => by simp at h)

end Go.Abs.Cd
