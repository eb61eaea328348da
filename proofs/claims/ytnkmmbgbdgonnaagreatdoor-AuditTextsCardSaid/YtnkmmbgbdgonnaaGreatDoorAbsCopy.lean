import Derived.Test.YtnkmmbgbdgonnaaGreatDoorAbsBuild
import Derived.Laws.CopyRow
namespace Go.Abs
open Go

variable {P : Program} {M A : Nat → Prop} {ρ : Env} {F : Nat → Prop} {st : St} {a : Act} {w : World}

def evalCopy (P : Program) (t : TypeId) (d s : V) (heap : List (Nat × Blk)) : Option (V × List (Nat × Blk)) :=
  match d, s with
  | .w (.one (.own id sz i len)), .w (.one x) =>
    match P.underlying t with
    | some (.slice e) =>
      match sizeT P e, (if isNil x then some (sz, []) else elems heap x) with
      | some size, some (sz2, ys) =>
        if (ys.take len).length = 0 then some (.w (.one (.t (.val (goInt 0)))), heap)
        else match find heap id with
          | some (.row sz' xs) => if sz = size ∧ sz' = size ∧ sz2 = size ∧ i + len ≤ xs.length then some (.w (.one (.t (.val (goInt ((ys.take len).length : Int))))), upd heap id (.row size (splice xs i (ys.take len)))) else none
          | _ => none
      | _, _ => none
    | _ => none
  | _, _ => none

theorem evalCopy_sound {t t' ty : TypeId} {d s v : V} {x y : Value} {heap' : List (Nat × Blk)} (h : Rel M A ρ F st a w) (he : evalCopy P t d s st.heap = some (v, heap'))
    (hd : RV w A ρ d x) (hs : RV w A ρ s y) : ∃ r w', (Builtin.copy_ #[t, t'] ty #[x, y]).run P w = .ok r w' ∧ Rel M A ρ F { st with heap := heap' } a w' ∧ Evo M w w' ∧ RV w' A ρ v r := by
  unfold evalCopy at he
  split at he
  · rename_i id sz i len xc
    split at he
    · rename_i e hu
      split at he
      · rename_i size sz2 ys hsz hys
        have hinfo : ∃ inf, P.info? e = some inf ∧ inf.size = size := by
          simp only [sizeT, Option.map_eq_some_iff] at hsz
          exact hsz
        obtain ⟨inf, hinf, hinfs⟩ := hinfo
        -- the source's length
        have hsrc : ∃ b cap, y = .slice b ys.length cap ∧ ys.length ≤ cap := by
          split at hys
          · rename_i hn
            simp only [Option.some.injEq, Prod.mk.injEq] at hys
            obtain ⟨_, rfl⟩ := hys
            exact ⟨none, 0, isNil_spec hn hs.1, Nat.le_refl _⟩
          · exact (elems_len h hys hs.1).2
        obtain ⟨sb, scap, rfl, _⟩ := hsrc
        have hdst : ∃ db dcap, x = .slice db len dcap := by
          rcases hd.1 with ⟨b, cap, q, e', k1, k2, _⟩ | ⟨_, _, rfl, k2⟩
          · exact ⟨_, _, k2⟩
          · exact ⟨_, _, k2⟩
        obtain ⟨db, dcap, rfl⟩ := hdst
        have hmin : Nat.min ys.length len = (ys.take len).length := by simp [Nat.min_comm]
        split at he
        · rename_i hn0
          simp only [Option.some.injEq, Prod.mk.injEq] at he
          obtain ⟨rfl, rfl⟩ := he
          refine ⟨goInt 0, w, ?_, h, Evo.refl _ _, RV.ofValue w A ρ (goInt 0)⟩
          have hl : ∀ (q : Addr), (loadCells q 0).run P w = .ok #[] w := fun q => by simpa using run_loadCells_list (P := P) w q [] (by simp)
          rw [hn0] at hmin
          cases db <;> cases sb <;> simp [Builtin.copy_, run_underlying hu, Builtin.lenOf, Builtin.firstCells, sizeOf, typeInfo, hinf, hinfs, hmin, storeCells, hl]
        · rename_i hn0
          split at he
          · rename_i sz' xs hf
            split at he
            · rename_i hc
              obtain ⟨rfl, rfl, rfl, hle⟩ := hc
              simp only [Option.some.injEq, Prod.mk.injEq] at he
              obtain ⟨rfl, rfl⟩ := he
              -- where the destination lies
              rcases hd.1 with ⟨b, cap, q, e', k1, k2, k3, k4, k5⟩ | ⟨_, _, rfl, _⟩
              · simp only [Value.slice.injEq] at k2
                obtain ⟨rfl, _, rfl⟩ := k2
                obtain ⟨hszs, hb⟩ := h.heap id _ hf
                rcases hb with ⟨b', c, ce, q1, q2, q3, q4, q5, q6⟩ | ⟨h2, _⟩
                · rw [k1] at q1
                  simp only [Option.some.injEq, Loc.cel.injEq] at q1
                  subst q1
                  have hnn : isNil xc = false := by
                    cases hni : isNil xc with
                    | false => rfl
                    | true =>
                      rw [hni] at hys
                      simp only [if_true, Option.some.injEq, Prod.mk.injEq] at hys
                      rw [← hys.2] at hn0
                      simp at hn0
                  rw [hnn] at hys
                  simp only [Bool.false_eq_true, if_false] at hys
                  have hne : ys ≠ [] := by
                    intro h0
                    subst h0
                    simp at hn0
                  obtain ⟨hsz2, _⟩ := elems_len h hys hs.1
                  obtain ⟨b2, o2, cap2, e2, hcell⟩ := elems_sound h hys hs.1 hne
                  simp only [Value.slice.injEq] at e2
                  obtain ⟨rfl, _, rfl⟩ := e2
                  let zs := ys.take len
                  have hzs : ∀ el, el ∈ zs → el.length = sz2 := fun el hel => hsz2 el (List.mem_of_mem_take hel)
                  obtain ⟨vs, hvl, hvg, hv1, hvr⟩ := flat_exists (w := w) (A := A) (ρ := ρ) (xs := zs) (sz := sz2) (g := fun n => w.cell? ⟨b2, o2 + n, none⟩) hzs (fun i' el j k hi hj => by
                    have hil : i' < len := by
                      have := (List.getElem?_eq_some_iff.1 hi).1
                      simp only [zs, List.length_take] at this
                      omega
                    exact hcell i' el j k (by simpa [zs, List.getElem?_take, hil] using hi) hj)
                  have hzl : zs.length ≤ len := by simp only [zs, List.length_take]; omega
                  have hfit : i * sz2 + vs.length ≤ c.size := by
                    rw [hvl]
                    have h1 : (i + zs.length) * sz2 ≤ xs.length * sz2 := Nat.mul_le_mul_right _ (by omega)
                    rw [Nat.add_mul] at h1
                    omega
                  have hload := run_loadCells_list (P := P) w ⟨b2, o2, none⟩ vs (fun j u hu' => by
                    have hadd : (⟨b2, o2, none⟩ : Addr).add j = ⟨b2, o2 + j, none⟩ := by unfold Addr.add; split <;> simp_all
                    rw [hadd]
                    exact hvg j u hu')
                  have hst := run_storeCells_at P b (i * sz2) ce vs 0 c w q4 (by simpa using hfit) hv1
                  simp only [Nat.add_zero] at hst
                  have hcl : c.toList.length = c.size := by simp
                  obtain ⟨r1, r2⟩ := h.write (c' := (splice c.toList (i * sz2) vs).toArray) (xs' := splice xs i zs) hf k1 q4
                    (by simp only [List.size_toArray]; rw [splice_length (by omega)]; simp)
                    (fun el hel => by
                      simp only [splice, List.mem_append] at hel
                      rcases hel with (hel | hel) | hel
                      · exact hszs el (List.mem_of_mem_take hel)
                      · exact hzs el hel
                      · exact hszs el (List.mem_of_mem_drop hel))
                    (by rw [splice_length (by omega)]; simp only [List.size_toArray]; rw [splice_length (by omega)]; simpa using q5)
                    (fun i' el j k hi hj => by
                      simp only [List.getElem?_toArray]
                      rw [splice_get (by omega)]
                      rw [splice_get (by omega)] at hi
                      split at hi
                      · rename_i hin
                        have hel : el.length = sz2 := hzs el (List.mem_of_getElem? hi)
                        have hj2 : j < sz2 := by rw [← hel]; exact (List.getElem?_eq_some_iff.1 hj).1
                        have h1 : (i' - i) * sz2 + i * sz2 = i' * sz2 := by rw [← Nat.add_mul]; congr 1; omega
                        have h2 : (i' - i + 1) * sz2 ≤ zs.length * sz2 := Nat.mul_le_mul_right _ (by omega)
                        rw [Nat.add_mul] at h2
                        rw [if_pos (by rw [hvl]; omega), show i' * sz2 + j - i * sz2 = (i' - i) * sz2 + j by omega]
                        exact hvr (i' - i) el j k hi hj
                      · rename_i hin
                        have hel : el.length = sz2 := hszs el (List.mem_of_getElem? hi)
                        have hj2 : j < sz2 := by rw [← hel]; exact (List.getElem?_eq_some_iff.1 hj).1
                        have hout : ¬ (i * sz2 ≤ i' * sz2 + j ∧ i' * sz2 + j < i * sz2 + vs.length) := by
                          intro hh
                          rw [hvl] at hh
                          rcases Nat.lt_or_ge i' i with hlt | hge
                          · have : (i' + 1) * sz2 ≤ i * sz2 := Nat.mul_le_mul_right _ hlt
                            rw [Nat.add_mul] at this
                            omega
                          · have : (i + zs.length) * sz2 ≤ i' * sz2 := Nat.mul_le_mul_right _ (by omega)
                            rw [Nat.add_mul] at this
                            omega
                        rw [if_neg hout]
                        obtain ⟨z, hz, hr, h1⟩ := q6 i' el j k hi hj
                        exact ⟨z, by simpa using hz, hr, h1⟩)
                  refine ⟨goInt ((ys.take len).length : Int), _, ?_, r1, r2, RV.ofValue _ A ρ (goInt ((ys.take len).length : Int))⟩
                  have hnl : Nat.min ys.length len * sz2 = vs.length := by rw [hmin, hvl]
                  simp only [Builtin.copy_, Sem.run_bind, List.getElem?_toArray, List.getElem?_cons_zero, List.getElem?_cons_succ, run_underlying hu, Result.andThen_ok, Builtin.lenOf, Builtin.firstCells, Sem.run_pure, sizeOf, typeInfo, run_program, hinf, hinfs]
                  have hnl2 : (ys.take len).length * sz2 = vs.length := by rw [← hmin]; exact hnl
                  simp only [hmin, hnl2, hload, Result.andThen_ok, hst, splice]
                · simp [k1] at h2
              · simp at hn0
            · simp at he
          · simp at he
      · simp at he
    · simp at he
  · simp at he

end Go.Abs
