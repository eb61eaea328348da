import Derived.Test.YtnkmmbgbdgonnaaGreatDoorAbsEh
import Derived.Test.YtnkmmbgbdgonnaaGreatDoorProg
namespace Go.Abs.Cd
open Go
abbrev t (n : Nat) : Opd := .t n
abbrev k (n : Int) : Opd := .c (iV .i64 n)
abbrev kb (b : Bool) : Opd := .c (bV b)
abbrev kn : Opd := .c (.w (.one (.t (.val (.slice none 0 0)))))
abbrev p (d : Nat) (r : Ro) : Rop := ⟨some d, none, r⟩
abbrev q (r : Ro) : Rop := ⟨none, none, r⟩
abbrev i (n : Int) : T := .val (.int .i64 n)
abbrev u (n : Int) : T := .val (.int .u32 n)
abbrev bo (b : Bool) : T := .val (.bool b)
abbrev nl : T := .val (.slice none 0 0)
abbrev zi (n : Int) : C := .t (.val (.int .i64 n))
abbrev zn : C := .t (.val (.slice none 0 0))
abbrev zb (b : Bool) : C := .t (.val (.bool b))

variable {P : Program}

def AllOk (P : Program) : List (Nat × FnR) → Prop
  | [] => True
  | (f, fr) :: r => FnOk P f fr ∧ AllOk P r

theorem fnsOk_of : ∀ {l : List (Nat × FnR)}, AllOk P l → FnsOk P (find l)
  | [], _, f, fr, h => by simp [find] at h
  | (g, gr) :: r, hl, f, fr, h => by
    rw [find_cons] at h
    split at h
    · rename_i e
      subst e
      simp only [Option.some.injEq] at h
      subst h
      exact hl.1
    · exact fnsOk_of hl.2 f fr h

def tabOf : List (Nat × List W × V) → Nat → List W → Option V
  | [], _, _ => none
  | (g, ar, v) :: r, f, us => sel (Nat.beq g f && eqWs ar us) (some v) (tabOf r f us)

theorem tab_nil : TabOk P (tabOf []) := fun f us v h => by simp [tabOf] at h

theorem tab_cons {l : List (Nat × List W × V)} {g : Nat} {ar : List W} {v : V} (h : TabOk P (tabOf l)) (he : Fn P g ar [] v [] ∧ v.isT = true) : TabOk P (tabOf ((g, ar, v) :: l)) := by
  intro f us v' hv
  simp only [tabOf] at hv
  cases hc : (Nat.beq g f && eqWs ar us) with
  | true =>
    rw [hc] at hv
    simp only [sel, Option.some.injEq] at hv
    subst hv
    simp only [Bool.and_eq_true, Nat.beq_eq] at hc
    obtain ⟨rfl, h2⟩ := hc
    rw [← eqWs_eq h2]
    exact he
  | false =>
    rw [hc] at hv
    exact h f us v' hv
end Go.Abs.Cd
