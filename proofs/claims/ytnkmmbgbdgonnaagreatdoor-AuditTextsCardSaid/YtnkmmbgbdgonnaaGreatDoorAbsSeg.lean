import Derived.Test.YtnkmmbgbdgonnaaGreatDoorAbsXc
namespace Go.Abs
open Go

variable {P : Program} {M A : Nat → Prop} {ρ : Env} {F : Nat → Prop} {st : St} {a : Act} {w : World}

/-- Within a stretch of operations, each two are ordered or apart. -/
def segOk (bits : List Nat) (lo : Nat) (fs : List Foot) : Bool :=
  (List.range fs.length).all fun j => match fs[j]? with
    | some g => (List.range j).all fun i => match fs[i]? with
      | some f => (bits.getD (lo + j) 0).testBit (lo + i) || f.apart g
      | none => true
    | none => true

theorem segOk_spec {bits : List Nat} {lo : Nat} {fs : List Foot} (h : segOk bits lo fs = true) {i j : Nat} {f g : Foot} (hij : i < j) (hf : fs[i]? = some f) (hg : fs[j]? = some g) :
    (bits.getD (lo + j) 0).testBit (lo + i) = true ∨ f.apart g = true := by
  unfold segOk at h
  have hj : j < fs.length := (List.getElem?_eq_some_iff.1 hg).1
  have := List.all_eq_true.1 h j (List.mem_range.2 hj)
  simp only [hg] at this
  have := List.all_eq_true.1 this i (List.mem_range.2 hij)
  simp only [hf, Bool.or_eq_true] at this
  exact this

/-- A stretch of a region that draws: whatever the order within it, the rest goes on from one state. -/
theorem seg_sound {ops : Array Oper} {n base lo m : Nat} {tmT : Nat → TS} {hpT : Nat → HS} {v : Nat → V} {fs : List Foot} {Q : Exit → Act → World → Prop}
    (hlm : lo + m ≤ ops.size)
    (hstep : ∀ i o, i < m → ops[lo + i]? = some o → StepOk P ops o n (tmT i) (hpT i) (base + 4 * i) (v i) (hpT (i + 1)) ∧ (∀ t, find (tmT (i + 1)) t = find (putT (tmT i) o.dst (v i)) t) ∧
      ∃ f, fs[i]? = some f ∧ f.dst = o.dst ∧ (∀ t, t ∈ names ops o → t ∈ f.nm) ∧ (∀ k, k ∈ touch (St.get ⟨n, tmT i, hpT i⟩) o → k ∈ f.rd) ∧ (∀ k, k ∈ wrs (St.get ⟨n, tmT i, hpT i⟩) (base + 4 * i) o → k ∈ f.wr))
    (hE : ∀ i o, ops[i]? = some o → ∀ e, e ∈ edgesOf o → e < i)
    (hok : segOk (ancL (ops.toList.map edgesOf) []) lo fs = true)
    (hlater : ∀ k, lo + m ≤ k → k < ops.size → ∀ i, i < m → ((ancL (ops.toList.map edgesOf) []).getD k 0).testBit (lo + i) = true)
    (hrel : Rel M A ρ (From base) ⟨n, tmT 0, hpT 0⟩ a w)
    (hnext : ∀ (fuel : Nat) (listed : Array Bool) (a' : Act) (w' : World), listed.size = ops.size → (∀ i, i < ops.size → listed.getD i false = decide (i < lo + m)) → ops.size - (lo + m) ≤ fuel →
      PostX M A ρ w (fun st c => st = ⟨n, tmT m, hpT m⟩ ∧ c = base + 4 * m) a' w' → wpAny P .any ops Q fuel listed a' w') :
    ∀ (fuel : Nat) (listed : Array Bool), listed.size = ops.size → (∀ i, i < ops.size → listed.getD i false = decide (i < lo)) → ops.size - lo ≤ fuel → wpAny P .any ops Q fuel listed a w := by
  let N := m
  let dst : Nat → Option Nat := fun i => (ops[lo + i]?).bind (·.dst)
  let wr : Nat → List Nat := fun i => ((ops[lo + i]?).map fun o => wrs (St.get ⟨n, tmT i, hpT i⟩) (base + 4 * i) o).getD []
  have hop : ∀ i, i < N → ∃ o, ops[lo + i]? = some o := fun i hi => by
    have : lo + i < ops.size := by simp only [N] at hi; omega
    exact ⟨ops[lo + i], by simp [this]⟩
  have hdst : ∀ i o, ops[lo + i]? = some o → dst i = o.dst := fun i o h => by simp only [dst, h, Option.bind_some]
  have hwr : ∀ i o, ops[lo + i]? = some o → wr i = wrs (St.get ⟨n, tmT i, hpT i⟩) (base + 4 * i) o := by
    intro i o h
    simp only [wr, h, Option.map_some, Option.getD_some]
  have hnotwr : ∀ i, i < N → ∀ k, ¬ k ∈ wr i → find (hpT (i + 1)) k = find (hpT i) k := by
    intro i hi k hk
    obtain ⟨o, ho⟩ := hop i hi
    obtain ⟨h1, _⟩ := hstep i o hi ho
    obtain ⟨_, _, h3⟩ := h1.loc (tm2 := tmT i) (hp2 := hpT i) (fun _ _ => rfl) (fun _ _ => rfl) (fun _ _ => rfl)
    rw [hwr i o ho] at hk
    exact (h3.2 k hk).1
  have htmT : ∀ i, i < N → ∀ t, find (tmT (i + 1)) t = find (putT (tmT i) (dst i) (v i)) t := by
    intro i hi t
    obtain ⟨o, ho⟩ := hop i hi
    rw [(hstep i o hi ho).2.1 t, hdst i o ho]
  have hEs : ∀ (i : Nat) (es : List Nat), (ops.toList.map edgesOf)[i]? = some es → ∀ e, e ∈ es → e < i := by
    intro i es h e he
    simp only [List.getElem?_map, Array.getElem?_toList, Option.map_eq_some_iff] at h
    obtain ⟨o, ho, rfl⟩ := h
    exact hE i o ho e he
  let Lg : Array Bool → Nat → Bool := fun listed i => listed.getD i false
  let Lof : Array Bool → Nat → Bool := fun listed i => listed.getD (lo + i) false
  let Fr : (Nat → Bool) → Nat → Prop := fun L k => base + 4 * N ≤ k ∨ ∃ j, j < N ∧ L j = false ∧ base + 4 * j ≤ k ∧ k < base + 4 * j + 4
  have closed_anc : ∀ {L : Nat → Bool} {i : Nat}, i < ops.size → (∀ k o, ops[k]? = some o → L k = true → ∀ e, e ∈ edgesOf o → L e = true) → (∀ o, ops[i]? = some o → ∀ e, e ∈ edgesOf o → L e = true) →
      ∀ j, ((ancL (ops.toList.map edgesOf) []).getD i 0).testBit j = true → L j = true := by
    intro L i hi hcl hEi j hb
    refine (anc_closed hEs i (by simpa using hi) (fun k es _ hLk hes e he => ?_) (fun es hes e he => ?_) j hb).1
    · simp only [List.getElem?_map, Array.getElem?_toList, Option.map_eq_some_iff] at hes
      obtain ⟨o, ho, rfl⟩ := hes
      exact hcl k o ho hLk e he
    · simp only [List.getElem?_map, Array.getElem?_toList, Option.map_eq_some_iff] at hes
      obtain ⟨o, ho, rfl⟩ := hes
      exact hEi o ho e he
  have finish : ∀ (fuel : Nat) (listed : Array Bool) (a' : Act) (w' : World) (A' : Nat → Prop) (ρ' : Env), listed.size = ops.size → (∀ i, i < lo → Lg listed i = true) → (∀ i, lo + m ≤ i → i < ops.size → Lg listed i = false) → ops.size - (lo + m) ≤ fuel → (∀ i, i < N → Lof listed i = true) →
      Rel M A' ρ' (Fr (Lof listed)) ⟨n, tmD dst v (tmT 0) (Lof listed) N, hpD wr hpT (hpT 0) (Lof listed) N⟩ a' w' → Evo M w w' → Ext ρ ρ' → Grow A A' w → wpAny P .any ops Q fuel listed a' w' := by
    intro fuel listed a' w' A' ρ' hsz hbel habo hfu hall hr hev hext hg
    refine hnext fuel listed a' w' hsz (fun i hi => ?_) hfu ⟨⟨n, tmT m, hpT m⟩, base + 4 * m, A', ρ', ⟨rfl, rfl⟩, ?_, hev, hext, hg⟩
    · by_cases h1 : i < lo
      · rw [show listed.getD i false = true from hbel i h1]; simp; omega
      · by_cases h2 : i < lo + m
        · have := hall (i - lo) (by simp only [N]; omega)
          simp only [Lof] at this
          rw [show lo + (i - lo) = i by omega] at this
          rw [this]; simp [h2]
        · rw [show listed.getD i false = false from habo i (by omega) hi]; simp; omega
    have h1 : Rel M A' ρ' (Fr (Lof listed)) ⟨n, tmT m, hpT m⟩ a' w' := hr.forget rfl (fun t u hu => by
        rw [show find (⟨n, tmD dst v (tmT 0) (Lof listed) N, hpD wr hpT (hpT 0) (Lof listed) N⟩ : St).tmps t = find (tmT N) t from tm_text dst v (tmT 0) tmT N rfl htmT (Lof listed) t N (Nat.le_refl _) hall]; exact hu) (fun k b hb => by
        rw [show find (⟨n, tmD dst v (tmT 0) (Lof listed) N, hpD wr hpT (hpT 0) (Lof listed) N⟩ : St).heap k = find (hpT N) k from hp_text wr hpT (hpT 0) N rfl hnotwr (Lof listed) k N (Nat.le_refl _) hall]; exact hb)
    exact h1.sub (fun k hk => .inl hk)
  have main : ∀ (c fuel : Nat) (listed : Array Bool) (a' : Act) (w' : World) (A' : Nat → Prop) (ρ' : Env), listed.size = ops.size → (∀ i, i < lo → Lg listed i = true) → (∀ i, lo + m ≤ i → i < ops.size → Lg listed i = false) → cntF (Lof listed) N = c → c + (ops.size - (lo + m)) ≤ fuel →
      (∀ k o, ops[k]? = some o → Lg listed k = true → ∀ e, e ∈ edgesOf o → Lg listed e = true) →
      Rel M A' ρ' (Fr (Lof listed)) ⟨n, tmD dst v (tmT 0) (Lof listed) N, hpD wr hpT (hpT 0) (Lof listed) N⟩ a' w' → Evo M w w' → Ext ρ ρ' → Grow A A' w →
      wpAny P .any ops Q fuel listed a' w' := by
    intro c
    induction c with
    | zero =>
      intro fuel listed a' w' A' ρ' hsz hbel habo hcnt hfu hcl hr hev hext hg
      exact finish fuel listed a' w' A' ρ' hsz hbel habo (by omega) (cntF_zero hcnt) hr hev hext hg
    | succ c ih =>
      intro fuel listed a' w' A' ρ' hsz hbel habo hcnt hfu hcl hr hev hext hg
      obtain ⟨fuel, rfl⟩ : ∃ f, fuel = f + 1 := ⟨fuel - 1, by omega⟩
      have hex : ∃ i, i < N ∧ Lof listed i = false := by
        by_cases h : ∃ i, i < N ∧ Lof listed i = false
        · exact h
        · exfalso
          have : ∀ i, i < N → Lof listed i = true := fun i hi => by cases h' : Lof listed i with | true => rfl | false => exact absurd ⟨i, hi, h'⟩ h
          have h0 : ∀ k, k ≤ N → cntF (Lof listed) k = 0 := by
            intro k
            induction k with
            | zero => intro _; rfl
            | succ k ihk => intro hk; simp only [cntF, ihk (by omega), this k (by omega)]; rfl
          rw [h0 N (Nat.le_refl _)] at hcnt
          omega
      refine ⟨fun hnil => ?_, fun ig hi => ?_⟩
      · exfalso
        obtain ⟨i, hi, hL, hleast⟩ := exists_least hex
        obtain ⟨o, ho⟩ := hop i hi
        have : lo + i ∈ Region.ready .any ops listed := by
          rw [mem_ready]
          refine ⟨?_, o, ho, fun e he hb => ?_⟩
          · simp only [Lof, Array.getD_eq_getD_getElem?] at hL ⊢
            have hlt' : lo + i < listed.size := by have := (Array.getElem?_eq_some_iff.1 ho).1; omega
            simpa [hlt'] using hL
          · have hm : e.on ∈ edgesOf o := by simp only [edgesOf, List.mem_map, List.mem_filter]; exact ⟨e, ⟨by simpa using he, hb⟩, rfl⟩
            have hlt := hE (lo + i) o ho _ hm
            by_cases h1 : e.on < lo
            · exact hbel _ h1
            · have := hleast (e.on - lo) (by omega)
              simp only [Lof] at this
              rw [show lo + (e.on - lo) = e.on by omega] at this
              exact this
        rw [hnil] at this
        simp at this
      · rw [mem_ready] at hi
        obtain ⟨h0, o, hog, hedges⟩ := hi
        have higS : ig < ops.size := (Array.getElem?_eq_some_iff.1 hog).1
        have hLig : Lg listed ig = false := by
          simp only [Lg, Array.getD_eq_getD_getElem?] at h0 ⊢
          have hlt' : ig < listed.size := by omega
          simpa [hlt'] using h0
        have hEi : ∀ e, e ∈ edgesOf o → Lg listed e = true := by
          intro e he
          simp only [edgesOf, List.mem_map, List.mem_filter] at he
          obtain ⟨ed, ⟨h1, h2⟩, rfl⟩ := he
          exact hedges ed (by simpa using h1) h2
        have hge : lo ≤ ig := by
          rcases Nat.lt_or_ge ig lo with h | h
          · rw [hbel ig h] at hLig; simp at hLig
          · exact h
        have hlt : ig < lo + m := by
          rcases Nat.lt_or_ge ig (lo + m) with h | h
          · exact h
          · exfalso
            obtain ⟨i, hi, hL⟩ := hex
            have hb := hlater ig h higS i hi
            have := closed_anc higS hcl (fun o' ho' => by rw [hog] at ho'; simp only [Option.some.injEq] at ho'; subst ho'; exact hEi) _ hb
            simp only [Lof] at hL
            rw [show Lg listed (lo + i) = false from hL] at this
            simp at this
        obtain ⟨i, rfl⟩ : ∃ i, ig = lo + i := ⟨ig - lo, by omega⟩
        have hiN : i < N := by simp only [N]; omega
        have ho : ops[lo + i]? = some o := hog
        have hLi : Lof listed i = false := hLig
        obtain ⟨hst, htm1, f, hf, fd, fn, fr, fw⟩ := hstep i o hiN ho
        -- every other operation is ordered, or apart
        have order : ∀ j oj g, j ≠ i → j < N → ops[lo + j]? = some oj → fs[j]? = some g → (f.apart g = true ∨ g.apart f = true) ∨ (j < i ∧ Lof listed j = true) ∨ (i < j ∧ Lof listed j = false) := by
          intro j oj g hji hjN hoj hg'
          have hjS : lo + j < ops.size := (Array.getElem?_eq_some_iff.1 hoj).1
          rcases Nat.lt_or_gt_of_ne hji with hlt | hgt
          · rcases segOk_spec hok hlt hg' hf with hb | hb
            · exact .inr (.inl ⟨hlt, closed_anc higS hcl (fun o' ho' => by rw [ho] at ho'; simp only [Option.some.injEq] at ho'; subst ho'; exact hEi) (lo + j) hb⟩)
            · exact .inl (.inr hb)
          · rcases segOk_spec hok hgt hf hg' with hb | hb
            · refine .inr (.inr ⟨hgt, ?_⟩)
              cases hLj : Lof listed j with
              | false => rfl
              | true =>
                have := closed_anc hjS hcl (fun o' ho' => hcl (lo + j) o' ho' hLj) (lo + i) hb
                rw [hLig] at this
                simp at this
            · exact .inl (.inl hb)
        have foot : ∀ j, j < N → ∃ oj g, ops[lo + j]? = some oj ∧ fs[j]? = some g ∧ g.dst = dst j ∧ ∀ k, k ∈ wr j → k ∈ g.wr := by
          intro j hj
          obtain ⟨oj, hoj⟩ := hop j hj
          obtain ⟨_, _, g, g1, g2, _, _, g5⟩ := hstep j oj hj hoj
          exact ⟨oj, g, hoj, g1, by rw [g2, hdst j oj hoj], fun k hk => g5 k (by rw [hwr j oj hoj] at hk; exact hk)⟩
        have apart_spec : ∀ {f g : Foot}, (f.apart g = true ∨ g.apart f = true) → (∀ t, f.dst = some t → g.dst = some t → False) ∧ (∀ t, g.dst = some t → t ∈ f.nm → False) ∧ (∀ k, k ∈ g.wr → k ∈ f.rd → False) ∧ (∀ k, k ∈ g.wr → k ∈ f.wr → False) := by
          intro f g h
          rcases h with h | h <;> simp only [Foot.apart, Bool.and_eq_true] at h <;> obtain ⟨⟨⟨⟨⟨h1, h2⟩, h3⟩, h4⟩, h5⟩, h6⟩ := h
          · exact ⟨fun t a b => disj_spec (x := t) h3 (by simp [a]) (by simp [b]), fun t a b => disj_spec (x := t) h2 (by simp [a]) b, fun k a b => disj_spec h5 a b, fun k a b => disj_spec h6 b a⟩
          · exact ⟨fun t a b => disj_spec (x := t) h3 (by simp [b]) (by simp [a]), fun t a b => disj_spec (x := t) h1 (by simp [a]) b, fun k a b => disj_spec h4 a b, fun k a b => disj_spec h6 a b⟩
        -- what the operation looks at is as in the order of the text
        have agreeT : ∀ t, t ∈ names ops o → find (tmD dst v (tmT 0) (Lof listed) N) t = find (tmT i) t := by
          intro t ht
          rw [tm_agree dst v (tmT 0) (Lof listed) (fun j => decide (j < i)) t N ?_, tmD_stop dst v (tmT 0) i t N (Nat.le_of_lt hiN), tm_text dst v (tmT 0) tmT N rfl htmT _ t i (Nat.le_of_lt hiN) (fun j hj => by simpa using hj)]
          intro j hj hdj
          by_cases hji : j = i
          · subst hji; rw [hLi]; simp
          · obtain ⟨oj, g, hoj, hg', gd, gw⟩ := foot j hj
            rcases order j oj g hji hj hoj hg' with hap | ⟨h1, h2⟩ | ⟨h1, h2⟩
            · exact ((apart_spec hap).2.1 t (by rw [gd, hdj]) (fn t ht)).elim
            · rw [h2]; simp [h1]
            · rw [h2]; simp; omega
        have agreeH : ∀ k, (k ∈ f.rd ∨ k ∈ f.wr) → find (hpD wr hpT (hpT 0) (Lof listed) N) k = find (hpT i) k := by
          intro k hk
          rw [hp_agree wr hpT (hpT 0) (Lof listed) (fun j => decide (j < i)) k N ?_, hpD_stop wr hpT (hpT 0) i k N (Nat.le_of_lt hiN), hp_text wr hpT (hpT 0) N rfl hnotwr _ k i (Nat.le_of_lt hiN) (fun j hj => by simpa using hj)]
          intro j hj hdj
          by_cases hji : j = i
          · subst hji; rw [hLi]; simp
          · obtain ⟨oj, g, hoj, hg', gd, gw⟩ := foot j hj
            rcases order j oj g hji hj hoj hg' with hap | ⟨h1, h2⟩ | ⟨h1, h2⟩
            · rcases hk with hk | hk
              · exact ((apart_spec hap).2.2.1 k (gw k hdj) hk).elim
              · exact ((apart_spec hap).2.2.2 k (gw k hdj) hk).elim
            · rw [h2]; simp [h1]
            · rw [h2]; simp; omega
        have hfour : ∀ k, k ∈ four (base + 4 * i) → k ∈ f.wr := fun k hk => fw k (by simp only [wrs, List.mem_append]; exact .inl hk)
        obtain ⟨hp2', hst2, hal⟩ := hst.loc (tm2 := tmD dst v (tmT 0) (Lof listed) N) (hp2 := hpD wr hpT (hpT 0) (Lof listed) N) agreeT (fun k hk => agreeH k (.inl (fr k hk))) (fun k hk => agreeH k (.inr (hfour k hk)))
        rw [← hwr i o ho] at hal
        refine StepOk.sound ho hst2 hr (fun k h1 h2 => .inr ⟨i, hiN, hLi, h1, h2⟩) ?_
        intro a2 w2 A2 ρ2 r1 r2 r3 r4
        have hset : ∀ j, Lof (listed.setIfInBounds (lo + i) true) j = if j = i then true else Lof listed j := by
          intro j
          by_cases hji : j = i
          · subst hji
            have : lo + j < listed.size := by omega
            simp [Lof, Array.getD_eq_getD_getElem?, this]
          · simp only [Lof, hji, if_false]
            exact getD_set_ne false (fun e => hji (by omega))
        have hsetg : ∀ k, k ≠ lo + i → Lg (listed.setIfInBounds (lo + i) true) k = Lg listed k := fun k hk => getD_set_ne false (fun e => hk e.symm)
        have hL'i : Lof (listed.setIfInBounds (lo + i) true) i = true := by rw [hset]; simp
        have hL'ne : ∀ j, j ≠ i → Lof (listed.setIfInBounds (lo + i) true) j = Lof listed j := fun j hj => by rw [hset, if_neg hj]
        have later : ∀ j, i < j → j < N → (∀ oj g, ops[lo + j]? = some oj → fs[j]? = some g → (f.apart g = true ∨ g.apart f = true) → False) → Lof (listed.setIfInBounds (lo + i) true) j = false := by
          intro j h1 h2 h3
          obtain ⟨oj, g, hoj, hg', gd, gw⟩ := foot j h2
          rw [hL'ne j (by omega)]
          rcases order j oj g (by omega) h2 hoj hg' with hap | ⟨h4, _⟩ | ⟨_, h5⟩
          · exact (h3 oj g hoj hg' hap).elim
          · omega
          · exact h5
        refine ih fuel (listed.setIfInBounds (lo + i) true) a2 w2 A2 ρ2 (by simpa using hsz) (fun k hk => by rw [hsetg k (by omega)]; exact hbel k hk) (fun k hk hk' => by rw [hsetg k (by omega)]; exact habo k hk hk') ?_ (by omega) ?_ ?_ (hev.trans r2) (hext.trans r3) (hg.trans r4 hev.size)
        · have := cntF_set (L := Lof listed) (L' := Lof (listed.setIfInBounds (lo + i) true)) hLi hL'i hL'ne (k := N) hiN
          omega
        · intro k ok' hok' hLk e he
          by_cases hki : k = lo + i
          · subst hki
            rw [ho] at hok'
            simp only [Option.some.injEq] at hok'
            subst hok'
            exact getD_set_true (hEi e he)
          · rw [hsetg k hki] at hLk
            exact getD_set_true (hcl k ok' hok' hLk e he)
        · refine (Rel.forget (st' := ⟨n, tmD dst v (tmT 0) (Lof (listed.setIfInBounds (lo + i) true)) N, hpD wr hpT (hpT 0) (Lof (listed.setIfInBounds (lo + i) true)) N⟩) r1 rfl (fun t u hu => ?_) (fun k b hb => ?_)).sub (fun k hk => ?_)
          · simp only [find_putT]
            split
            · rename_i hd
              have hlast := tm_last dst v (tmT 0) (Lof (listed.setIfInBounds (lo + i) true)) t i (by rw [hdst i o ho]; exact hd) hL'i N hiN (fun j h1 h2 h3 => later j h1 h2 (fun oj g hoj hg' hap => by
                obtain ⟨_, g', _, hg2, gd, _⟩ := foot j h2
                rw [hg'] at hg2
                simp only [Option.some.injEq] at hg2
                subst hg2
                exact (apart_spec hap).1 t (by rw [fd]; exact hd) (by rw [gd]; exact h3)))
              rw [← hlast]; exact hu
            · rename_i hd
              rw [tm_agree dst v (tmT 0) (Lof listed) (Lof (listed.setIfInBounds (lo + i) true)) t N (fun j hj hdj => by
                by_cases hji : j = i
                · subst hji; rw [hdst j o ho] at hdj; exact absurd hdj hd
                · exact (hL'ne j hji).symm)]
              exact hu
          · by_cases hk : k ∈ wr i
            · have hkw : k ∈ f.wr := fw k (by rw [← hwr i o ho]; exact hk)
              have hlast := hp_last wr hpT (hpT 0) (Lof (listed.setIfInBounds (lo + i) true)) k i hk hL'i N hiN (fun j h1 h2 h3 => later j h1 h2 (fun oj g hoj hg' hap => by
                obtain ⟨_, g', _, hg2, _, gw⟩ := foot j h2
                rw [hg'] at hg2
                simp only [Option.some.injEq] at hg2
                subst hg2
                exact (apart_spec hap).2.2.2 k (gw k h3) hkw))
              rw [hal.1 k hk, ← hlast]; exact hb
            · rw [(hal.2 k hk).2, hp_agree wr hpT (hpT 0) (Lof listed) (Lof (listed.setIfInBounds (lo + i) true)) k N (fun j hj hdj => by
                by_cases hji : j = i
                · subst hji; exact absurd hdj hk
                · exact (hL'ne j hji).symm)]
              exact hb
          · refine ⟨?_, ?_⟩
            · rcases hk with hk | ⟨j, h1, h2, h3⟩
              · exact .inl hk
              · by_cases hji : j = i
                · subst hji; rw [hL'i] at h2; simp at h2
                · rw [hL'ne j hji] at h2; exact .inr ⟨j, h1, h2, h3⟩
            · rintro ⟨q1, q2⟩
              rcases hk with hk | ⟨j, h1, h2, h3, h4⟩
              · omega
              · by_cases hji : j = i
                · subst hji; rw [hL'i] at h2; simp at h2
                · omega
  intro fuel listed hsz hl hfu
  have hLf : ∀ i, i < N → Lof listed i = false := by
    intro i hi
    simp only [Lof]
    rw [hl (lo + i) (by simp only [N] at hi; omega)]
    simp
  have hcntm : ∀ k, k ≤ N → cntF (Lof listed) k = k := by
    intro k
    induction k with
    | zero => intro _; rfl
    | succ k ih => intro hk; simp only [cntF, ih (by omega), hLf k (by omega)]; simp
  refine main m fuel listed a w A ρ hsz (fun i hi => ?_) (fun i hi hi' => ?_) (hcntm N (Nat.le_refl _)) (by omega) (fun k o ho hLk e he => ?_) ?_ (Evo.refl _ _) (Ext.refl _) (Grow.refl _ _)
  · show listed.getD i false = true
    rw [hl i (by omega)]; simp [hi]
  · show listed.getD i false = false
    rw [hl i hi']; simp; omega
  · have hk : k < ops.size := (Array.getElem?_eq_some_iff.1 ho).1
    have h1 : k < lo := by
      have : listed.getD k false = true := hLk
      rw [hl k hk] at this
      simpa using this
    have h2 := hE k o ho e he
    show listed.getD e false = true
    rw [hl e (by omega)]; simp; omega
  · have eT : ∀ k, k ≤ N → tmD dst v (tmT 0) (Lof listed) k = tmT 0 := by
      intro k
      induction k with
      | zero => intro _; rfl
      | succ k ih => intro hk; simp only [tmD, hLf k (by omega), Bool.false_eq_true, if_false, ih (by omega)]
    have eH : ∀ k, k ≤ N → hpD wr hpT (hpT 0) (Lof listed) k = hpT 0 := by
      intro k
      induction k with
      | zero => intro _; rfl
      | succ k ih => intro hk; simp only [hpD, hLf k (by omega), Bool.false_eq_true, if_false, ih (by omega)]
    rw [eT N (Nat.le_refl _), eH N (Nat.le_refl _)]
    refine hrel.sub (fun k hk => ?_)
    simp only [From]
    rcases hk with hk | ⟨j, _, _, h3, _⟩ <;> omega

end Go.Abs
