import Derived.Test.YtlhffnnmmbannaaGreatCm
import Derived.Test.YtlhffnnmmbannaaGreatTab
namespace Go.Abs.Cd
open Go Go.Proofs
set_option maxRecDepth 100000

def GoodT (ts : List W) : Prop := ts = [oT (tB true)]
theorem goodT {P : Program} {rs : List ResultVar} {tm : TS} {hp : HS} {t : Nat} (hr : rs = [.tmp t]) (h : find tm t = some (bV true)) : ∃ us ts, resultsOf P hp tm rs = some us ∧ optL (frzWP hp) us = some ts ∧ GoodT ts := by
  subst hr
  exact ⟨[oT (tB true)], [oT (tB true)], by simp only [resultsOf, resultOf, h], rfl, rfl⟩

theorem awake13 : Fn Tryz.prog 13 [] [] (bV true) [] := r57.1

theorem law5 (d : CaseD) (hd : d.Ok) (g p : Int) : Fn Tryz.prog 5 [.agg d.cells, oT (tI g), oT (tI p)] [] (bV true) [] := by
  have main : ∃ ts, Fn Tryz.prog 5 [.agg d.cells, oT (tI g), oT (tI p)] [] (resV ts) [] ∧ (resV ts).isT = true ∧ GoodT ts := by
    obtain ⟨_, h12, t12, b, rfl, hb⟩ := few12 d hd
    refine fn_good (n := 33) (rs := [.tmp 6]) Tryz.func5 bk5 ck5 rfl rfl (by simp) ?_
    conv => whnf
    refine ⟨bV b, _, callTo_tree t12 rfl h12, ?_⟩
    conv => whnf
    refine br_intro (fun h1 => ?_) (fun h1 => ?_)
    · conv => whnf
      refine ⟨bV true, _, callTo_tree rfl rfl awake13, ?_⟩
      conv => whnf
      exact goodT rfl rfl
    · have hbt : b = true := by simpa using h1
      obtain ⟨_, h19, t19, b19, rfl, e19⟩ := complete19 d hd (hb hbt) g p
      obtain ⟨_, h20, t20, b20, rfl, e20⟩ := complete20 d hd (hb hbt) g p
      have heq : b19 = b20 := by
        rw [Bool.eq_iff_iff, e19, e20]
      subst heq
      conv => whnf
      refine ⟨bV b19, _, callTo_tree t19 rfl h19, ?_⟩
      conv => whnf
      refine ⟨bV b19, _, callTo_tree t20 rfl h20, ?_⟩
      conv => whnf
      refine br_intro (fun h2 => ?_) (fun h2 => ?_)
      · conv => whnf
        refine ⟨bV true, _, callTo_tree rfl rfl awake13, ?_⟩
        conv => whnf
        refine And.intro (by kernel_rfl) ?_
        conv => whnf
        exact goodT rfl rfl
      · exact absurd h2 (by simp)
  obtain ⟨_, h, _, rfl⟩ := main
  exact h

end Go.Abs.Cd
