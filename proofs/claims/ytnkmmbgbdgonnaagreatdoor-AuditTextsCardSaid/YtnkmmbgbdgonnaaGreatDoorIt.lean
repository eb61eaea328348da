import Derived.Test.YtnkmmbgbdgonnaaGreatDoorSh
import Derived.Test.YtnkmmbgbdgonnaaGreatDoorAbsEh
/- strconv.Itoa as a contract of the abstract machine, from the library's shelf. -/
namespace Go.Abs.Cd
open Go Go.Proofs
theorem evo_grow {M : Nat → Prop} (w : World) (k : Nat) (os : Array Obj) : Evo M w (Go.Sort.grow (w.drewN k) os) := by
  have hb : ∀ i, i < w.heap.size → (Go.Sort.grow (w.drewN k) os).heap[i]? = w.heap[i]? := fun i hi => by
    rw [Go.Sort.heap_grow_old (w.drewN k) os (by exact hi)]
    rfl
  refine ⟨rfl, rfl, rfl, ?_, fun i hi _ => hb i hi, fun i hi => by simp only [World.shape?, hb i hi]⟩
  show w.heap.size ≤ (w.heap ++ os).size
  simp

theorem rws_one {w : World} {A : Nat → Prop} {ρ : Env} {v : Value} {xs : Array Value} (h : RWs w A ρ [.one (.t (.val v))] xs.toList) : xs = #[v] := by
  obtain ⟨hl, hx⟩ := h
  have h1 : xs.toList.length = 1 := by rw [← hl]; rfl
  obtain ⟨y, hy⟩ := List.length_eq_one_iff.1 h1
  have := hx 0 _ y rfl (by rw [hy]; rfl)
  cases this.1
  rw [← Array.toArray_toList (xs := xs), hy]

theorem itoa_fn (n : Int) (h0 : -9223372036854775808 ≤ n) (h1 : n ≤ 9223372036854775807) :
    Fn Tryz.prog 7 [.one (.t (.val (.int .i64 n)))] [] (.w (.one (.t (.val (.string ⟨(Lib.itoa n).toArray⟩))))) [] := by
  intro w A ρ xs hH hxs
  obtain rfl := rws_one hxs
  obtain ⟨g1, g2, g3, ⟨t, fr, g4⟩, g5⟩ := hH.glob 1 _ rfl
  have hc := Any.strconv_Itoa Tryz.laysM171 n h0 h1 w (by
    show World.var? _ _ _ = _
    unfold World.var?
    rw [show Tryz.prog.globalNamed _ = some 1 by kernel_rfl]
    simp only [Option.bind_some, g4]
    rfl)
  have hc' : Calls Tryz.prog 7 #[.int .i64 n] w fun e w' => e = .returned (.string ⟨(Lib.itoa n).toArray⟩) ∧ ∃ k os, w' = Go.Sort.grow (w.drewN k) os := hc
  refine hc'.mono ?_
  rintro e w' ⟨rfl, k, os, rfl⟩
  have he := evo_grow (M := fun b => Own ρ [] b ∨ w.heap.size ≤ b) w k os
  exact ⟨_, A, ρ, From 4, rfl, ⟨.val rfl, rfl⟩, ⟨rfl, rfl, fun t v hv => by simp [find] at hv, fun id b hb => by simp [find] at hb, fun id id' b b' c hb => by simp [find] at hb, hH.fresh, fun b hb => Nat.lt_of_lt_of_le (hH.bound b hb) he.size, fun b hb => .inr (Nat.le_trans he.size hb), hH.glob.evo he (fun _ _ h => h)⟩, he, Ext4.refl _, Grow.refl _ _⟩

#print axioms itoa_fn
end Go.Abs.Cd
