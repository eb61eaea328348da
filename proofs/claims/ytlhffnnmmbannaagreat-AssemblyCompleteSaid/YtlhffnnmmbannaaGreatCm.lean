import Derived.Test.YtlhffnnmmbannaaGreatCl
namespace Go.Abs.Cd
open Go Go.Proofs
set_option maxRecDepth 100000

def CP (ss ps pl cs : List (List T)) (g p : Int) : Prop := ∃ gn pn : Nat, g = (gn : Int) ∧ p = (pn : Int) ∧ gn < ss.length ∧ pn < pl.length ∧
  ∀ lot size q1, ss[gn]? = some [tI size] → pl[pn]? = some [tI lot, q1] → OKp ps cs gn pn lot size ps.length

def GoodC (q : Prop) (ts : List W) : Prop := ∃ b, ts = [oT (tB b)] ∧ (b = true ↔ q)
theorem goodC {P : Program} {rs : List ResultVar} {tm : TS} {hp : HS} {b : Bool} {t : Nat} {q : Prop} (hr : rs = [.tmp t]) (h : find tm t = some (bV b)) (hn : b = true ↔ q) : ∃ us ts, resultsOf P hp tm rs = some us ∧ optL (frzWP hp) us = some ts ∧ GoodC q ts := by
  subst hr
  exact ⟨[oT (tB b)], [oT (tB b)], by simp only [resultsOf, resultOf, h], rfl, b, rfl, hn⟩

theorem complete19 (d : CaseD) (hd : d.Ok) (h8 : d.ps.length ≤ 8) (g p : Int) : ∃ ts, Fn Tryz.prog 19 [.agg d.sty, .agg d.lay, oT (.lst 6 d.cs), oT (tI g), oT (tI p)] [] (resV ts) [] ∧ (resV ts).isT = true ∧ GoodC (CP d.ss d.ps d.pl d.cs g p) ts := by
  refine fn_good (n := 43) (rs := [.tmp 10]) Tryz.func19 bk19 ck19 rfl rfl (by simp) ?_
  conv => whnf
  refine br_intro (fun h1 => ?_) (fun h1 => ?_)
  · have hneg : g < 0 := by simpa using h1
    conv => whnf
    exact goodC (b := false) rfl rfl ⟨fun h => by simp at h, fun ⟨gn, pn, e1, _⟩ => by omega⟩
  have hpos : 0 ≤ g := by simpa using h1
  obtain ⟨gn, rfl⟩ := Int.eq_ofNat_of_zero_le hpos
  conv => whnf
  refine br_intro (fun h2 => ?_) (fun h2 => ?_)
  · have hge : d.ss.length ≤ gn := by simp at h2; omega
    conv => whnf
    exact goodC (b := false) rfl rfl ⟨fun h => by simp at h, fun ⟨gn', pn, e1, _, e2, _⟩ => by omega⟩
  have hgl : gn < d.ss.length := by simp at h2; omega
  conv => whnf
  refine br_intro (fun h3 => ?_) (fun h3 => ?_)
  · have hneg : p < 0 := by simpa using h3
    conv => whnf
    exact goodC (b := false) rfl rfl ⟨fun h => by simp at h, fun ⟨gn', pn, _, e1, _⟩ => by omega⟩
  have hpos2 : 0 ≤ p := by simpa using h3
  obtain ⟨pn, rfl⟩ := Int.eq_ofNat_of_zero_le hpos2
  conv => whnf
  refine br_intro (fun h4 => ?_) (fun h4 => ?_)
  · have hge : d.pl.length ≤ pn := by simp at h4; omega
    conv => whnf
    exact goodC (b := false) rfl rfl ⟨fun h => by simp at h, fun ⟨gn', pn', _, e1, _, e2, _⟩ => by omega⟩
  have hpl : pn < d.pl.length := by simp at h4; omega
  obtain ⟨sh, hsh⟩ := hd.pl
  obtain ⟨x, hx, t0, r0, rfl, ⟨size, rfl⟩, rfl⟩ := at_of hd.ss hgl
  obtain ⟨y, hy, u0, p0, rfl, ⟨lot, rfl⟩, u1, p1, rfl, _, rfl⟩ := at_of hsh hpl
  obtain ⟨_, hfn, hT, v, b, rfl, hv, hb⟩ := pieces29 d.l0 d.l1 d.l2 d.l3 d.ss d.ps d.pl d.cs pn gn lot size u1 hx hy hd.cs hd.csl hd.ps h8
  conv => whnf
  refine ⟨.tup [v, oT (tB b)], _, callTo_tree hT rfl hfn, ?_⟩
  have iff : b = true ↔ CP d.ss d.ps d.pl d.cs (gn : Int) (pn : Int) := ⟨fun h => ⟨gn, pn, rfl, rfl, hgl, hpl, fun lot' size' q' e1 e2 => by
    rw [hx] at e1
    rw [hy] at e2
    simp at e1 e2
    obtain ⟨rfl, rfl⟩ := e2
    subst e1
    exact hb.1 h⟩, fun h => by
    obtain ⟨gn', pn', e1, e2, _, _, e5⟩ := h
    have : gn' = gn := by omega
    subst this
    have : pn' = pn := by omega
    subst this
    exact hb.2 (e5 lot size u1 hx hy)⟩
  rcases hv with rfl | ⟨xs, rfl⟩
  · conv => whnf
    exact goodC (b := b) rfl rfl iff
  · conv => whnf
    exact goodC (b := b) rfl rfl iff

theorem complete20 (d : CaseD) (hd : d.Ok) (h8 : d.ps.length ≤ 8) (g p : Int) : ∃ ts, Fn Tryz.prog 20 [.agg d.sty, .agg d.lay, oT (.lst 6 d.cs), oT (tI g), oT (tI p)] [] (resV ts) [] ∧ (resV ts).isT = true ∧ GoodC (CP d.ss d.ps d.pl d.cs g p) ts := by
  refine fn_good (n := 43) (rs := [.tmp 10]) Tryz.func20 bk20 ck20 rfl rfl (by simp) ?_
  conv => whnf
  refine br_intro (fun h1 => ?_) (fun h1 => ?_)
  · have hneg : g < 0 := by simpa using h1
    conv => whnf
    exact goodC (b := false) rfl rfl ⟨fun h => by simp at h, fun ⟨gn, pn, e1, _⟩ => by omega⟩
  have hpos : 0 ≤ g := by simpa using h1
  obtain ⟨gn, rfl⟩ := Int.eq_ofNat_of_zero_le hpos
  conv => whnf
  refine br_intro (fun h2 => ?_) (fun h2 => ?_)
  · have hge : d.ss.length ≤ gn := by simp at h2; omega
    conv => whnf
    exact goodC (b := false) rfl rfl ⟨fun h => by simp at h, fun ⟨gn', pn, e1, _, e2, _⟩ => by omega⟩
  have hgl : gn < d.ss.length := by simp at h2; omega
  conv => whnf
  refine br_intro (fun h3 => ?_) (fun h3 => ?_)
  · have hneg : p < 0 := by simpa using h3
    conv => whnf
    exact goodC (b := false) rfl rfl ⟨fun h => by simp at h, fun ⟨gn', pn, _, e1, _⟩ => by omega⟩
  have hpos2 : 0 ≤ p := by simpa using h3
  obtain ⟨pn, rfl⟩ := Int.eq_ofNat_of_zero_le hpos2
  conv => whnf
  refine br_intro (fun h4 => ?_) (fun h4 => ?_)
  · have hge : d.pl.length ≤ pn := by simp at h4; omega
    conv => whnf
    exact goodC (b := false) rfl rfl ⟨fun h => by simp at h, fun ⟨gn', pn', _, e1, _, e2, _⟩ => by omega⟩
  have hpl : pn < d.pl.length := by simp at h4; omega
  obtain ⟨sh, hsh⟩ := hd.pl
  obtain ⟨x, hx, t0, r0, rfl, ⟨size, rfl⟩, rfl⟩ := at_of hd.ss hgl
  obtain ⟨y, hy, u0, p0, rfl, ⟨lot, rfl⟩, u1, p1, rfl, _, rfl⟩ := at_of hsh hpl
  obtain ⟨_, hfn, hT, v, b, rfl, hv, hb⟩ := pieces31 d.l0 d.l1 d.l2 d.l3 d.ss d.ps d.pl d.cs pn gn lot size u1 hx hy hd.cs hd.csl hd.ps h8
  conv => whnf
  refine ⟨.tup [v, oT (tB b)], _, callTo_tree hT rfl hfn, ?_⟩
  have iff : b = true ↔ CP d.ss d.ps d.pl d.cs (gn : Int) (pn : Int) := ⟨fun h => ⟨gn, pn, rfl, rfl, hgl, hpl, fun lot' size' q' e1 e2 => by
    rw [hx] at e1
    rw [hy] at e2
    simp at e1 e2
    obtain ⟨rfl, rfl⟩ := e2
    subst e1
    exact hb.1 h⟩, fun h => by
    obtain ⟨gn', pn', e1, e2, _, _, e5⟩ := h
    have : gn' = gn := by omega
    subst this
    have : pn' = pn := by omega
    subst this
    exact hb.2 (e5 lot size u1 hx hy)⟩
  rcases hv with rfl | ⟨xs, rfl⟩
  · conv => whnf
    exact goodC (b := b) rfl rfl iff
  · conv => whnf
    exact goodC (b := b) rfl rfl iff

end Go.Abs.Cd
