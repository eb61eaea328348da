import Derived.Test.YtnkmmbgbdgonnaaGreatDoorCards
import Derived.Test.YtnkmmbgbdgonnaaGreatDoorTie
import Derived.Test.YtnkmmbgbdgonnaaGreatDoorAbsLaw
import Derived.Test.YtnkmmbgbdgonnaaGreatDoorAuF
import Derived.WalkKit
import Derived.ProofKit
import Derived.OpenShut
import Derived.Deep.DeepHandedRow
import Derived.Lib.LaidTab
import Derived.Stop.LaidErr
import Derived.Lay
import Derived.Lib.ItoaNum
/- From a contract of the law's function to the card: the tables that the row lists stand in the world. -/
namespace Go.Proofs.YtnkmmbgbdgonnaaGreatDoor
open Go.Abs Go.ChangeShapes Go.WideShapes Go.ChangeAt Go.RowKit
set_option maxRecDepth 100000

theorem Tryz.own : ownKnob Tryz.prog.godebug = none := by kernel_rfl
theorem Tryz.laidOut : laidOutB Tryz.prog = true := by kernel_rfl

/-- What a variable's reading gives: its block, whole. -/
theorem blk_of_var {P : Program} {W : World} {name : String} {g : Nat} {cs : Array Value} (hg : P.globalNamed name = some g) (h : W.var? P name = some cs) :
    g < W.heap.size ∧ ∃ t fr, W.heap[g]? = some (.cells cs t fr) := by
  have h' := h
  simp only [World.var?, hg, Option.bind_some] at h'
  split at h'
  · rename_i cs' t fr hb
    simp only [Option.some.injEq] at h'
    subst h'
    refine ⟨?_, t, fr, hb⟩
    rcases Nat.lt_or_ge g W.heap.size with hlt | hge
    · exact hlt
    · rw [Array.getElem?_eq_none hge] at hb
      simp at hb
  · simp at h'

theorem tab_entry {P : Program} {W : World} {name : String} {g : Nat} {k : IntKind} {zs : List Int} {vs : List Value} (hg : P.globalNamed name = some g) (h : Lib.TabIs P W name k zs) (hv : vs = zs.map fun z => Value.int k z) :
    g < W.heap.size ∧ (∃ t fr, W.heap[g]? = some (.cells vs.toArray t fr)) ∧ ∀ (i : Nat) (v : Value), vs[i]? = some v → W.cell? ⟨g, i, none⟩ = some v ∧ isCell v = true := by
  subst hv
  obtain ⟨h1, h2⟩ := blk_of_var hg h
  refine ⟨h1, h2, fun i v hi => ⟨?_, ?_⟩⟩
  · rw [World.var?_cell hg h i]
    simpa using hi
  · simp only [List.getElem?_map, Option.map_eq_some_iff] at hi
    obtain ⟨z, _, rfl⟩ := hi
    rfl

theorem glob_of {W : World} (hL : laidMetH Tryz.prog Rows.auditTextsRow.laid W) : Glob (fun b => W.heap.size ≤ b) (fun _ => False) W := by
  have h0 : laidMet Tryz.prog Rows.auditTextsRow.laid W := hL
  have hp : Lib.TabIs Tryz.prog W _ .u64 Lib.pow10Tab := Lib.tabIs_of_head (g := 1) (t := 218) (e := 60) (n := 20) (by kernel_rfl) (by kernel_rfl) (by kernel_rfl) (by kernel_rfl) (by kernel_rfl) (by kernel_rfl) h0.tail.tail
  have hw : Lib.TabIs Tryz.prog W _ .i64 [100000, 1073741824] := Lib.tabIs_of_head (g := 0) (t := 175) (e := 3) (n := 2) (by kernel_rfl) (by kernel_rfl) (by kernel_rfl) (by kernel_rfl) (by kernel_rfl) (by kernel_rfl) h0.tail.tail.tail
  intro g vs hg
  have e : (g = 0 ∧ vs = [100000, 1073741824].map fun z => Value.int .i64 z) ∨ (g = 1 ∧ vs = Lib.pow10Tab.map fun z => Value.int .u64 z) := by
    unfold tabs at hg
    simp only [tabAt] at hg
    split at hg
    · rename_i e
      simp only [Option.some.injEq] at hg
      exact .inl ⟨e.symm, hg.symm⟩
    · split at hg
      · rename_i e
        simp only [Option.some.injEq] at hg
        exact .inr ⟨e.symm, by rw [← hg]; rfl⟩
      · simp at hg
  rcases e with ⟨rfl, e⟩ | ⟨rfl, e⟩
  · obtain ⟨h1, h2, h3⟩ := tab_entry (g := 0) (by kernel_rfl) hw e
    exact ⟨h1, fun h => by omega, fun h => h, h2, h3⟩
  · obtain ⟨h1, h2, h3⟩ := tab_entry (g := 1) (by kernel_rfl) hp e
    exact ⟨h1, fun h => by omega, fun h => h, h2, h3⟩

def issue0 : Value := .agg #[.int .i64 0, .int .i64 0, .int .i64 0]

/-- A world for the witness: the tables hold what their initialisers lay. -/
noncomputable def laidWorld (os : Os) : World := World.laidAll Tryz.prog os Rows.auditTextsRow.laid
theorem laid_met (os : Os) : laidMet Tryz.prog Rows.auditTextsRow.laid ((laidWorld os).forCall (fun _ _ => 0) ⟨#[], #[issue0], []⟩).memory :=
  laidMet_laidAll #[issue0] (by kernel_rfl) (by kernel_rfl)
theorem reads (os : Os) {H : Type} (enc : TypeId × Value → H) : ∃ places, DataW.whole enc Tryz.prog ((laidWorld os).forCall (fun _ _ => 0) ⟨#[], #[issue0], []⟩).memory Tryz.f3.params.toList Rows.auditTextsSpec.vars false #[issue0].toList 8 = some ([.agg [.lit (.int .i64 0), .lit (.int .i64 0), .lit (.int .i64 0)]], [], places) :=
  ⟨[], by kernel_rfl⟩

theorem lifted (hFn : ∀ us, Typed Tryz.prog 12 Tryz.f3.params.toList us → Abs.Fn Tryz.prog 3 us [] (.w (.one (.t (.val (.bool true))))) []) (os : Os) (started : os.Started) (H : Type) (enc : TypeId × Value → H) (F : Stop.Interp) :
    ReturnsInHanded {} Tryz.checked os 3 .any ((OpenSpec.ofChange Rows.auditTextsSpec).preRow enc Tryz.prog Tryz.f3 Rows.auditTextsRow.domain false Rows.auditTextsRow.laid) (((OpenSpec.ofChange Rows.auditTextsSpec).at F).post enc Tryz.prog Tryz.f3 false true false false) := by
  obtain ⟨places, hx⟩ := reads os enc
  refine returnsInHanded_of_row (C := Tryz.checked) (s := OpenSpec.ofChange Rows.auditTextsSpec) Tryz.own started (by kernel_rfl) Tryz.func3
    (witness_row_at (enc := enc) (C := Tryz.checked) false (laidWorld os) #[issue0] (World.laidAll_os _ _ _) (by kernel_rfl) (by kernel_rfl) (by kernel_rfl)
      (OpenSpec.preRow_of_cond 8 hx (by kernel_rfl) (fun k hk => by cases hk) (by kernel_rfl) (laid_met os))) ?_
  intro W base args ds gs before hval hW _ _ _ hL _ _
  refine law_calls (P := Tryz.prog) (d := 11) (s := Rows.auditTextsSpec) Tryz.laidOut rfl (by kernel_rfl) Tryz.underlying4 ?_ ?_ ?_ hFn hval (glob_of hL) hW
  · intro ds hds
    rw [Tryz.params3] at hds
    match ds, hds with
    | [a], _ => exact ⟨rfl, rfl, rfl⟩
  · have : (Tryz.f3.params.toList.all fun t => depthOk Tryz.prog 12 t) = true := by kernel_rfl
    exact List.all_eq_true.1 this
  · have : (Tryz.f3.params.toList.all fun t => Tryz.prog.readableRec t && decide (t < Tryz.prog.types.size)) = true := by kernel_rfl
    intro t ht
    have := List.all_eq_true.1 this t ht
    simpa using this

theorem texts_named : Tryz.pinned.checked.prog.funcNamed Rows.auditTextsRow.func = some 3 := by kernel_rfl
theorem texts_inst : Tryz.f3.isInstance Tryz.pinned.checked.prog Rows.auditTextsRow.origin Rows.auditTextsRow.targs := of_decide_eq_true (by kernel_rfl)
theorem texts_wrap : Tryz.f3.isWrapper Tryz.pinned.checked.prog Rows.auditTextsRow.wrapper Rows.auditTextsRow.mainSum := by
  unfold Func.isWrapper; first | (rw [if_pos (by decide +kernel)]; kernel_rfl) | (rw [if_neg (by decide +kernel)]; exact ⟨rfl, rfl⟩)

theorem said_over (hFn : ∀ us, Typed Tryz.prog 12 Tryz.f3.params.toList us → Abs.Fn Tryz.prog 3 us [] (.w (.one (.t (.val (.bool true))))) []) : Rows.AuditTextsSaid :=
  OpenClaim.holds_of_cond 3 Tryz.f3 rfl rfl rfl rfl rfl rfl rfl ⟨rfl, rfl, rfl, rfl, rfl⟩ rfl rfl rfl rfl rfl texts_named Tryz.func3 cf_all texts_inst texts_wrap
    (fun os started H enc _ F => by rw [OpenClaim.pre_eq_preRow]; exact lifted hFn os started H enc F)

theorem plain (f : FuncId) (fn : Func) (hf : Tryz.pinned.checked.prog.funcNamed Rows.auditTextsRow.func = some f) (hfn : Tryz.pinned.checked.prog.funcs[f]? = some fn) :
    false = Tryz.pinned.checked.prog.looks [] ∧ ∀ (j : Nat) t, fn.params[j]? = some t → Tryz.pinned.checked.prog.wantsStandIn t = false := by
  obtain rfl : f = 3 := Option.some.inj (texts_named.symm.trans hf) |>.symm
  obtain rfl : fn = Tryz.f3 := (Option.some.inj (Tryz.func3.symm.trans hfn)).symm
  refine ⟨by kernel_rfl, fun j t ht => ?_⟩
  rw [Tryz.params3] at ht
  obtain rfl : t = 23 := by simpa using Array.mem_of_getElem? ht
  exact (show Tryz.prog.wantsStandIn 23 = false by kernel_rfl)

theorem card_over (hFn : ∀ us, Typed Tryz.prog 12 Tryz.f3.params.toList us → Abs.Fn Tryz.prog 3 us [] (.w (.one (.t (.val (.bool true))))) []) : Rows.AuditTextsCardSaid :=
  Claim7.holds_tied_plain_at .later [] _ _ _ _ (said_over hFn) (fun _ h => by cases h) (by kernel_rfl) (fun _ h => by cases h) auditTexts_row_tie rfl ⟨rfl, rfl⟩ (by kernel_rfl) rfl plain (by kernel_rfl)

end Go.Proofs.YtnkmmbgbdgonnaaGreatDoor
