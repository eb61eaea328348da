import Derived.Test.YtnkmmbgbdgonnaaGreatDoorAt
import Derived.Test.YtnkmmbgbdgonnaaGreatDoorTab
/- The law AuditTexts over the machine. -/
namespace Go.Abs.Cd
open Go Go.Proofs
set_option maxRecDepth 100000

theorem goodT {P : Program} {rs : List ResultVar} {tm : TS} {hp : HS} {t : Nat} (hr : rs = [.tmp t]) (h : find tm t = some (bV true)) : ∃ us ts, resultsOf P hp tm rs = some us ∧ optL (frzWP hp) us = some ts ∧ ts = [.one (.t (.val (.bool true)))] := by
  subst hr
  exact ⟨[.one (.t (.val (.bool true)))], [.one (.t (.val (.bool true)))], by simp only [resultsOf, resultOf, h], rfl, rfl⟩

theorem awake6 : Fn Tryz.prog 6 [] [] (bV true) [] := r115.1

theorem law3 (k a b : Int) (ha : In64 a) (hb : In64 b) : Fn Tryz.prog 3 [issue k a b] [] (bV true) [] := by
  have main : ∃ ts, Fn Tryz.prog 3 [issue k a b] [] (resV ts) [] ∧ (resV ts).isT = true ∧ ts = [.one (.t (.val (.bool true)))] := by
    obtain ⟨_, h4, _, rfl⟩ := text4 k a b ha hb
    obtain ⟨_, h5, _, rfl⟩ := text5 k a b ha hb
    refine fn_good (n := 11) (rs := [.tmp 2]) Tryz.func3 bk3 ck3 rfl rfl (by simp) ?_
    conv => whnf
    refine ⟨_, _, callTo_tree (v := sV (bsL (textL k a b))) rfl rfl h4, ?_⟩
    conv => whnf
    refine ⟨_, _, callTo_tree (v := sV (bsL (textL k a b))) rfl rfl h5, ?_⟩
    conv => whnf
    refine br_intro (fun h1 => ?_) (fun h1 => ?_)
    · conv => whnf
      refine ⟨bV true, _, callTo_tree rfl rfl awake6, ?_⟩
      conv => whnf
      refine And.intro (by kernel_rfl) ?_
      conv => whnf
      exact goodT rfl rfl
    · exact absurd h1 (by simp)
  obtain ⟨_, h, _, rfl⟩ := main
  exact h

end Go.Abs.Cd
