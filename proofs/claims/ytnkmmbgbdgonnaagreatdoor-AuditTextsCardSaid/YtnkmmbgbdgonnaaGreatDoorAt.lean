import Derived.Test.YtnkmmbgbdgonnaaGreatDoorCodH
import Derived.Test.YtnkmmbgbdgonnaaGreatDoorAbsDet
import Derived.Test.YtnkmmbgbdgonnaaGreatDoorIt
/- The texts of issues: digits, Number and both Texts. -/
namespace Go.Abs.Cd
open Go Go.Proofs
set_option maxRecDepth 100000
-- garment/garmentlaw59.AuditTexts
def c3 : Rc := (.seq (.region (p 1 (.box (t 0)) :: p 2 (.mov (kb false)) :: [])) (.seq (.draw (p 3 (.load (some 3) (t 1)) :: p 4 (.call 4 [t 3]) :: p 5 (.load (some 3) (t 1)) :: p 6 (.call 5 [t 5]) :: p 7 (.bin .eql (t 4) (t 6)) :: p 8 (.mov (t 7)) :: ⟨some 9, some (8, true), .call 6 []⟩ :: p 10 (.pick (t 8) (t 9) (kb false)) :: p 2 (.mov (t 10)) :: []) ([] :: [0] :: [] :: [2, 1] :: [1, 3] :: [4, 3] :: [5, 5] :: [5, 6] :: [7, 6, 0, 1, 2, 3, 4, 5, 6, 7] :: [])) .ret))
theorem ck3 : resolveC Tryz.prog (Tryz.f3.body.getD .skip) = some c3 := by kernel_rfl
theorem bk3 : Tryz.f3.body = some (Tryz.f3.body.getD .skip) := rfl
-- garment/audit.Text
def c4 : Rc := (.seq (.region (p 1 (.box (t 0)) :: p 2 (.mov (.c (.w (.one (.t (.val (.string ⟨#[]⟩))))))) :: [])) (.seq (.region (p 3 (.mov (.c (.w (.one (.t (.val (.string ⟨#[]⟩))))))) :: [])) (.seq (.seq (.region (p 4 (.faddr 0 (t 1)) :: p 5 (.load none (t 4)) :: [])) (.block 0 (.seq (.region (p 7 (.bin .eql (t 5) (k 1)) :: p 6 (.mov (t 7)) :: [])) (.cond (t 6) (.region (p 3 (.mov (.c (.w (.one (.t (.val (.string ⟨#[101, 114, 114, 111, 114]⟩))))))) :: [])) (.seq (.region (p 9 (.bin .eql (t 5) (k 2)) :: p 8 (.mov (t 9)) :: [])) (.cond (t 8) (.region (p 3 (.mov (.c (.w (.one (.t (.val (.string ⟨#[112, 97, 116, 116, 101, 114, 110]⟩))))))) :: [])) (.seq (.region (p 11 (.bin .eql (t 5) (k 3)) :: p 10 (.mov (t 11)) :: [])) (.cond (t 10) (.region (p 3 (.mov (.c (.w (.one (.t (.val (.string ⟨#[103, 97, 114, 109, 101, 110, 116]⟩))))))) :: [])) (.seq (.region (p 13 (.bin .eql (t 5) (k 4)) :: p 12 (.mov (t 13)) :: [])) (.cond (t 12) (.region (p 3 (.mov (.c (.w (.one (.t (.val (.string ⟨#[115, 104, 97, 100, 101]⟩))))))) :: [])) (.seq (.region (p 15 (.bin .eql (t 5) (k 5)) :: p 14 (.mov (t 15)) :: [])) (.cond (t 14) (.region (p 3 (.mov (.c (.w (.one (.t (.val (.string ⟨#[109, 105, 115, 115, 105, 110, 103]⟩))))))) :: [])) (.seq (.region (p 17 (.bin .eql (t 5) (k 6)) :: p 16 (.mov (t 17)) :: [])) (.cond (t 16) (.region (p 3 (.mov (.c (.w (.one (.t (.val (.string ⟨#[119, 97, 103, 101]⟩))))))) :: [])) (.seq (.region (p 19 (.bin .eql (t 5) (k 7)) :: p 18 (.mov (t 19)) :: [])) (.cond (t 18) (.region (p 3 (.mov (.c (.w (.one (.t (.val (.string ⟨#[115, 99, 97, 110]⟩))))))) :: [])) (.seq (.region (p 2 (.mov (.c (.w (.one (.t (.val (.string ⟨#[]⟩))))))) :: [])) .ret))))))))))))))))) (.seq (.draw (p 20 (.mov (t 3)) :: p 21 (.bin .add (t 20) (.c (.w (.one (.t (.val (.string ⟨#[32]⟩))))))) :: p 22 (.faddr 1 (t 1)) :: p 23 (.load none (t 22)) :: p 24 (.call 7 [t 23]) :: p 25 (.bin .add (t 21) (t 24)) :: p 26 (.bin .add (t 25) (.c (.w (.one (.t (.val (.string ⟨#[32]⟩))))))) :: p 27 (.faddr 2 (t 1)) :: p 28 (.load none (t 27)) :: p 29 (.call 7 [t 28]) :: p 30 (.bin .add (t 26) (t 29)) :: p 2 (.mov (t 30)) :: []) ([] :: [0] :: [] :: [2] :: [3] :: [1, 4] :: [5] :: [] :: [7] :: [8, 4] :: [6, 9] :: [10, 9, 0, 1, 2, 3, 4, 5, 6, 7, 8, 9, 10] :: [])) .ret))))
theorem ck4 : resolveC Tryz.prog (Tryz.f4.body.getD .skip) = some c4 := by kernel_rfl
theorem bk4 : Tryz.f4.body = some (Tryz.f4.body.getD .skip) := rfl
-- garment/garmentref59.Text
def c5 : Rc := (.seq (.region (p 1 (.box (t 0)) :: p 2 (.mov (.c (.w (.one (.t (.val (.string ⟨#[]⟩))))))) :: [])) (.seq (.region (p 3 (.mov (.c (.w (.one (.t (.val (.string ⟨#[]⟩))))))) :: [])) (.seq (.seq (.region (p 4 (.faddr 0 (t 1)) :: p 5 (.load none (t 4)) :: [])) (.block 0 (.seq (.region (p 7 (.bin .eql (t 5) (k 1)) :: p 6 (.mov (t 7)) :: [])) (.cond (t 6) (.region (p 3 (.mov (.c (.w (.one (.t (.val (.string ⟨#[101, 114, 114, 111, 114]⟩))))))) :: [])) (.seq (.region (p 9 (.bin .eql (t 5) (k 2)) :: p 8 (.mov (t 9)) :: [])) (.cond (t 8) (.region (p 3 (.mov (.c (.w (.one (.t (.val (.string ⟨#[112, 97, 116, 116, 101, 114, 110]⟩))))))) :: [])) (.seq (.region (p 11 (.bin .eql (t 5) (k 3)) :: p 10 (.mov (t 11)) :: [])) (.cond (t 10) (.region (p 3 (.mov (.c (.w (.one (.t (.val (.string ⟨#[103, 97, 114, 109, 101, 110, 116]⟩))))))) :: [])) (.seq (.region (p 13 (.bin .eql (t 5) (k 4)) :: p 12 (.mov (t 13)) :: [])) (.cond (t 12) (.region (p 3 (.mov (.c (.w (.one (.t (.val (.string ⟨#[115, 104, 97, 100, 101]⟩))))))) :: [])) (.seq (.region (p 15 (.bin .eql (t 5) (k 5)) :: p 14 (.mov (t 15)) :: [])) (.cond (t 14) (.region (p 3 (.mov (.c (.w (.one (.t (.val (.string ⟨#[109, 105, 115, 115, 105, 110, 103]⟩))))))) :: [])) (.seq (.region (p 17 (.bin .eql (t 5) (k 6)) :: p 16 (.mov (t 17)) :: [])) (.cond (t 16) (.region (p 3 (.mov (.c (.w (.one (.t (.val (.string ⟨#[119, 97, 103, 101]⟩))))))) :: [])) (.seq (.region (p 19 (.bin .eql (t 5) (k 7)) :: p 18 (.mov (t 19)) :: [])) (.cond (t 18) (.region (p 3 (.mov (.c (.w (.one (.t (.val (.string ⟨#[115, 99, 97, 110]⟩))))))) :: [])) (.seq (.region (p 2 (.mov (.c (.w (.one (.t (.val (.string ⟨#[]⟩))))))) :: [])) .ret))))))))))))))))) (.seq (.draw (p 20 (.mov (t 3)) :: p 21 (.bin .add (t 20) (.c (.w (.one (.t (.val (.string ⟨#[32]⟩))))))) :: p 22 (.faddr 1 (t 1)) :: p 23 (.load none (t 22)) :: p 24 (.call 8 [t 23]) :: p 25 (.bin .add (t 21) (t 24)) :: p 26 (.bin .add (t 25) (.c (.w (.one (.t (.val (.string ⟨#[32]⟩))))))) :: p 27 (.faddr 2 (t 1)) :: p 28 (.load none (t 27)) :: p 29 (.call 8 [t 28]) :: p 30 (.bin .add (t 26) (t 29)) :: p 2 (.mov (t 30)) :: []) ([] :: [0] :: [] :: [2] :: [3] :: [1, 4] :: [5] :: [] :: [7] :: [8, 4] :: [6, 9] :: [10, 9, 0, 1, 2, 3, 4, 5, 6, 7, 8, 9, 10] :: [])) .ret))))
theorem ck5 : resolveC Tryz.prog (Tryz.f5.body.getD .skip) = some c5 := by kernel_rfl
theorem bk5 : Tryz.f5.body = some (Tryz.f5.body.getD .skip) := rfl
-- garment/garmentref59.Number
def c8 : Rc := (.seq (.region (p 2 (.mov (.c (.w (.one (.t (.val (.string ⟨#[]⟩))))))) :: [])) (.seq (.seq (.region (p 3 (.mov (t 0)) :: p 4 (.bin .lss (t 3) (k 0)) :: [])) (.cond (t 4) (.seq (.region (p 5 (.mov (t 0)) :: p 6 (.bin .add (t 5) (k 1)) :: p 7 (.neg (t 6)) :: p 8 (.conv .u64 (t 7)) :: p 9 (.bin .add (t 8) (.c (.w (.one (.t (.val (.int .u64 1))))))) :: p 10 (.call 14 [t 9]) :: p 11 (.bin .add (.c (.w (.one (.t (.val (.string ⟨#[45]⟩)))))) (t 10)) :: p 2 (.mov (t 11)) :: [])) .ret) .skip)) (.seq (.region (p 12 (.mov (t 0)) :: p 13 (.conv .u64 (t 12)) :: p 14 (.call 14 [t 13]) :: p 2 (.mov (t 14)) :: [])) .ret)))
theorem ck8 : resolveC Tryz.prog (Tryz.f8.body.getD .skip) = some c8 := by kernel_rfl
theorem bk8 : Tryz.f8.body = some (Tryz.f8.body.getD .skip) := rfl
-- garment/garmentref59.digits
def c14 : Rc := (.seq (.region (p 2 (.mov (.c (.w (.one (.t (.val (.string ⟨#[]⟩))))))) :: [])) (.seq (.region (p 3 (.mov (.c (.w (.one (.t (.val (.string ⟨#[]⟩))))))) :: [])) (.seq (.block 0 (.loop (.seq (.seq (.region (p 4 (.mov (t 3)) :: p 5 (.bin .eql (t 4) (.c (.w (.one (.t (.val (.string ⟨#[]⟩))))))) :: p 6 (.mov (t 5)) :: ⟨some 7, some (6, false), .mov (t 0)⟩ :: ⟨some 8, some (6, false), .bin .gtr (t 7) (.c (.w (.one (.t (.val (.int .u64 0))))))⟩ :: p 9 (.pick (t 6) (kb true) (t 8)) :: [])) (.cond (t 9) .skip (.exit 0))) (.block 1 (.seq (.region (p 10 (.mov (t 0)) :: p 11 (.bin .rem (t 10) (.c (.w (.one (.t (.val (.int .u64 10))))))) :: p 12 (.bin .add (.c (.w (.one (.t (.val (.int .u64 48)))))) (t 11)) :: p 13 (.conv .u8 (t 12)) :: p 14 (.bslice [.t (.val (.int .u8 0))] 1 [(0, t 13)]) :: p 15 (.bstr (t 14)) :: p 16 (.mov (t 3)) :: p 17 (.bin .add (t 15) (t 16)) :: p 3 (.mov (t 17)) :: [])) (.region (p 18 (.mov (t 0)) :: p 19 (.bin .quo (t 18) (.c (.w (.one (.t (.val (.int .u64 10))))))) :: p 0 (.mov (t 19)) :: []))))))) (.seq (.region (p 20 (.mov (t 3)) :: p 2 (.mov (t 20)) :: [])) .ret))))
theorem ck14 : resolveC Tryz.prog (Tryz.f14.body.getD .skip) = some c14 := by kernel_rfl
theorem bk14 : Tryz.f14.body = some (Tryz.f14.body.getD .skip) := rfl

abbrev sV (s : ByteArray) : V := .w (.one (.t (.val (.string s))))
abbrev bsL (l : List UInt8) : ByteArray := ⟨⟨l⟩⟩
abbrev oS (s : ByteArray) : W := .one (.t (.val (.string s)))
abbrev oI (n : Int) : W := .one (.t (.val (.int .i64 n)))
abbrev oU (n : Int) : W := .one (.t (.val (.int .u64 n)))

theorem goodS {P : Program} {rs : List ResultVar} {tm : TS} {hp : HS} {t : Nat} {s s' : ByteArray} (hr : rs = [.tmp t]) (h : find tm t = some (sV s)) (e : s = s') :
    ∃ us ts, resultsOf P hp tm rs = some us ∧ optL (frzWP hp) us = some ts ∧ ts = [oS s'] := by
  subst hr
  subst e
  exact ⟨[oS s], [oS s], by simp only [resultsOf, resultOf, h], rfl, rfl⟩

theorem dd_small {k : Nat} (h : k < 10) : Lib.decDigits k = [UInt8.ofNat (48 + k)] := by rw [Lib.decDigits]; simp [h]
theorem dd_big {k : Nat} (h : ¬ k < 10) : Lib.decDigits k = Lib.decDigits (k / 10) ++ [UInt8.ofNat (48 + k % 10)] := by rw [Lib.decDigits]; simp [h]

theorem dd_len : ∀ (e k : Nat), k < 10 ^ (e + 1) → (Lib.decDigits k).length ≤ e + 1
  | 0, k, h => by rw [dd_small (by simpa using h)]; simp
  | e + 1, k, h => by
    by_cases hk : k < 10
    · rw [dd_small hk]; simp
    · rw [dd_big hk]
      have := dd_len e (k / 10) (by rw [Nat.pow_succ] at h; omega)
      simp
      omega

/-- What is left to be written, and what is written. -/
def DInv (N k : Nat) (l : List UInt8) : Prop := (l = [] ∧ k = N) ∨ (l ≠ [] ∧ ((k = 0 ∧ l = Lib.decDigits N) ∨ (k ≠ 0 ∧ Lib.decDigits k ++ l = Lib.decDigits N)))

theorem DInv.step {N k : Nat} {l : List UInt8} (h : DInv N k l) (hk : l = [] ∨ k ≠ 0) : DInv N (k / 10) (UInt8.ofNat (48 + k % 10) :: l) := by
  have e : Lib.decDigits k ++ l = Lib.decDigits N := by
    rcases h with ⟨rfl, rfl⟩ | ⟨h1, ⟨rfl, _⟩ | ⟨_, h3⟩⟩
    · simp
    · rcases hk with hk | hk
      · exact absurd hk h1
      · exact absurd rfl hk
    · exact h3
  refine .inr ⟨by simp, ?_⟩
  by_cases h10 : k < 10
  · refine .inl ⟨by omega, ?_⟩
    rw [← e, dd_small h10, show k % 10 = k by omega]
    rfl
  · refine .inr ⟨by omega, ?_⟩
    rw [← e, dd_big h10]
    simp

theorem DInv.len {N k : Nat} {l : List UInt8} (h : DInv N k l) (hN : N < 18446744073709551616) : l.length ≤ 20 := by
  have := dd_len 19 N (by omega)
  rcases h with ⟨rfl, _⟩ | ⟨_, ⟨_, rfl⟩ | ⟨_, h⟩⟩
  · simp
  · exact this
  · rw [← h] at this
    simp at this
    omega

def dMeas (N k : Nat) (l : List UInt8) : Nat := if l = [] then N + 1 else k

def p14I (N : Nat) (m : Nat) (tm : TS) (hp : HS) (c : Nat) : Prop :=
  ∃ (k : Nat) (l : List UInt8), k ≤ N ∧ DInv N k l ∧ m = dMeas N k l ∧ tm = [(0, iV .u64 (k : Int)), (3, sV (bsL l))] ∧ hp = [] ∧ c = 8

theorem byte_eq (k : Nat) (hk : k < 18446744073709551616) : strOfNums [IntKind.u8.wrap (IntKind.u64.wrap (48 + (k : Int).tmod 10))] = bsL [UInt8.ofNat (48 + k % 10)] := by
  have e : (k : Int).tmod 10 = ((k % 10 : Nat) : Int) := by rw [Int.tmod_eq_emod_of_nonneg (by omega)]; omega
  rw [e]
  have hlt : k % 10 < 10 := Nat.mod_lt _ (by omega)
  generalize k % 10 = d at hlt
  have e1 : IntKind.u64.wrap (48 + (d : Int)) = 48 + (d : Int) := by simp [IntKind.wrap, IntKind.bits, IntKind.signed]; omega
  have e2 : IntKind.u8.wrap (48 + (d : Int)) = 48 + (d : Int) := by simp [IntKind.wrap, IntKind.bits, IntKind.signed]; omega
  rw [e1, e2]
  simp only [strOfNums, List.map_cons, List.map_nil]
  rw [show (48 + (d : Int)).toNat = 48 + d by omega]

theorem cat_eq (a b : List UInt8) : bsL a ++ bsL b = bsL (a ++ b) := by
  apply ByteArray.ext
  rw [ByteArray.data_append]
  apply Array.ext'
  simp

theorem quo_eq (k : Nat) (hk : k < 18446744073709551616) : IntKind.u64.wrap ((k : Int).tdiv 10) = ((k / 10 : Nat) : Int) := by
  have e : (k : Int).tdiv 10 = ((k / 10 : Nat) : Int) := by rw [Int.tdiv_eq_ediv_of_nonneg (by omega)]; omega
  rw [e]
  have : k / 10 ≤ k := Nat.div_le_self _ _
  generalize k / 10 = q at this
  simp [IntKind.wrap, IntKind.bits, IntKind.signed]
  omega

theorem digits14 (N : Nat) (hN : N < 18446744073709551616) : ∃ ts, Fn Tryz.prog 14 [oU (N : Int)] [] (resV ts) [] ∧ (resV ts).isT = true ∧ ts = [oS (bsL (Lib.decDigits N))] := by
  refine fn_good (n := 21) (rs := [.tmp 2]) Tryz.func14 bk14 ck14 rfl rfl (by simp) ?_
  conv => whnf
  refine Exists.intro (p14I N) ?_
  refine And.intro ?_ ?_
  · exact ⟨⟨[0, 3], [], 8⟩, rfl, N + 1, N, [], Nat.le_refl _, .inl ⟨rfl, rfl⟩, rfl, rfl, rfl, rfl⟩
  rintro m tm hq c ⟨k, l, hkN, hinv, rfl, rfl, rfl, rfl⟩
  have hk64 : k < 18446744073709551616 := by omega
  have hl := hinv.len hN
  have hsz : ∀ (x : List UInt8), (bsL x).size = x.length := fun x => rfl
  have step : (l = [] ∨ k ≠ 0) → ∃ m', m' < dMeas N k l ∧ p14I N m' [(0, iV .u64 (IntKind.u64.wrap ((k : Int).tdiv 10))), (3, sV (strOfNums [IntKind.u8.wrap (IntKind.u64.wrap (48 + (k : Int).tmod 10))] ++ bsL l))] [] 8 := by
    intro hc
    refine ⟨k / 10, ?_, k / 10, UInt8.ofNat (48 + k % 10) :: l, by omega, hinv.step hc, by simp [dMeas], ?_, rfl, rfl⟩
    · unfold dMeas
      split
      · omega
      · rename_i hne
        rcases hc with hc | hc
        · exact absurd hc hne
        · omega
    · rw [quo_eq k hk64, byte_eq k hk64, cat_eq]
      rfl
  have room : (strOfNums [IntKind.u8.wrap (IntKind.u64.wrap (48 + (k : Int).tmod 10))]).size + (bsL l).size ≤ 9223372036854775807 := by
    rw [byte_eq k hk64, hsz, hsz]
    simp only [List.length_cons, List.length_nil]
    omega
  have e0 : (⟨#[]⟩ : ByteArray).toList = [] := by rw [ByteArray.toList_eq]
  conv => whnf
  refine br_intro (fun h1 => ?_) (fun h1 => ?_)
  · have hl0 : l = [] := by
      rw [ByteArray.toList_eq, e0] at h1
      simpa using h1
    conv => whnf
    refine And.intro (by decide) ?_
    conv => whnf
    refine And.intro room ?_
    conv => whnf
    refine And.intro (by decide) ?_
    conv => whnf
    refine ⟨⟨[0, 3], [], 8⟩, rfl, ?_⟩
    exact step (.inl hl0)
  · have hl0 : l ≠ [] := by
      rw [ByteArray.toList_eq, e0] at h1
      intro e
      subst e
      simp at h1
    conv => whnf
    refine br_intro (fun h2 => ?_) (fun h2 => ?_)
    · have hk0 : k ≠ 0 := by
        have : (k : Int) > 0 := by simpa using h2
        omega
      conv => whnf
      refine And.intro (by decide) ?_
      conv => whnf
      refine And.intro room ?_
      conv => whnf
      refine And.intro (by decide) ?_
      conv => whnf
      refine ⟨⟨[0, 3], [], 8⟩, rfl, ?_⟩
      exact step (.inr hk0)
    · have hk0 : k = 0 := by
        have : ¬ (k : Int) > 0 := by simpa using h2
        omega
      conv => whnf
      refine goodS rfl rfl ?_
      rcases hinv with ⟨h, _⟩ | ⟨_, ⟨_, h⟩ | ⟨h, _⟩⟩
      · exact absurd h hl0
      · rw [h]
      · exact absurd hk0 h

theorem itoa_neg {n : Int} (h : n < 0) : Lib.itoa n = 45 :: Lib.decDigits n.natAbs := by simp [Lib.itoa, h]
theorem itoa_nonneg {n : Int} (h : ¬ n < 0) : Lib.itoa n = Lib.decDigits n.toNat := by simp [Lib.itoa, h]

def In64 (n : Int) : Prop := -9223372036854775808 ≤ n ∧ n ≤ 9223372036854775807

theorem itoa_len {n : Int} (h : In64 n) : (Lib.itoa n).length ≤ 21 := by
  obtain ⟨h0, h1⟩ := h
  by_cases hn : n < 0
  · rw [itoa_neg hn]
    have := dd_len 19 n.natAbs (by omega)
    simp
    omega
  · rw [itoa_nonneg hn]
    have := dd_len 19 n.toNat (by omega)
    omega

theorem neg_eq {n : Int} (h : In64 n) (hn : n < 0) : IntKind.u64.wrap (IntKind.u64.wrap (IntKind.i64.wrap (0 - IntKind.i64.wrap (n + 1))) + 1) = ((n.natAbs : Nat) : Int) := by
  obtain ⟨h0, h1⟩ := h
  rw [wrap_i64_in (n := n + 1) (by omega) (by omega), wrap_i64_in (n := 0 - (n + 1)) (by omega) (by omega)]
  simp [IntKind.wrap, IntKind.bits, IntKind.signed]
  omega

theorem pos_eq {n : Int} (h : In64 n) (hn : ¬ n < 0) : IntKind.u64.wrap n = ((n.toNat : Nat) : Int) := by
  obtain ⟨h0, h1⟩ := h
  simp [IntKind.wrap, IntKind.bits, IntKind.signed]
  omega

theorem number8 (n : Int) (h : In64 n) : ∃ ts, Fn Tryz.prog 8 [oI n] [] (resV ts) [] ∧ (resV ts).isT = true ∧ ts = [oS (bsL (Lib.itoa n))] := by
  have hsz : ∀ (x : List UInt8), (bsL x).size = x.length := fun x => rfl
  refine fn_good (n := 15) (rs := [.tmp 2]) Tryz.func8 bk8 ck8 rfl rfl (by simp) ?_
  conv => whnf
  refine br_intro (fun h1 => ?_) (fun h1 => ?_)
  · have hn : n < 0 := by simpa using h1
    obtain ⟨_, h14, t14, rfl⟩ := digits14 n.natAbs (by have := h.1; omega)
    conv => whnf
    rw [← neg_eq h hn] at h14
    refine ⟨_, _, callTo_tree t14 rfl h14, ?_⟩
    conv => whnf
    refine And.intro ?_ ?_
    · rw [hsz]
      have := dd_len 19 n.natAbs (by have := h.1; omega)
      show 1 + (Lib.decDigits n.natAbs).length ≤ _
      omega
    conv => whnf
    refine goodS rfl rfl ?_
    rw [itoa_neg hn]
    exact cat_eq [45] _
  · have hn : ¬ n < 0 := by simpa using h1
    obtain ⟨_, h14, t14, rfl⟩ := digits14 n.toNat (by have := h.2; omega)
    conv => whnf
    rw [← pos_eq h hn] at h14
    refine ⟨_, _, callTo_tree t14 rfl h14, ?_⟩
    conv => whnf
    refine goodS rfl rfl ?_
    rw [itoa_nonneg hn]

def wordL (k : Int) : Option (List UInt8) :=
  if k = 1 then some [101, 114, 114, 111, 114] else
  if k = 2 then some [112, 97, 116, 116, 101, 114, 110] else
  if k = 3 then some [103, 97, 114, 109, 101, 110, 116] else
  if k = 4 then some [115, 104, 97, 100, 101] else
  if k = 5 then some [109, 105, 115, 115, 105, 110, 103] else
  if k = 6 then some [119, 97, 103, 101] else
  if k = 7 then some [115, 99, 97, 110] else
  none

def textL (k a b : Int) : List UInt8 :=
  match wordL k with
  | some w => (((w ++ [32]) ++ Lib.itoa a) ++ [32]) ++ Lib.itoa b
  | none => []

theorem room1 {w x : ByteArray} {m n : Nat} (hw : w.size ≤ m) (hx : x.size ≤ n) (h : m + n ≤ 9223372036854775807) : w.size + x.size ≤ 9223372036854775807 := by omega
theorem cat_le {w x : ByteArray} {m n : Nat} (hw : w.size ≤ m) (hx : x.size ≤ n) : (w ++ x).size ≤ m + n := by rw [ByteArray.size_append]; omega
theorem s32 : (⟨#[32]⟩ : ByteArray).size ≤ 1 := by decide
theorem text_eq {k a b : Int} {w : List UInt8} (h : wordL k = some w) : (((bsL w ++ bsL [32]) ++ bsL (Lib.itoa a)) ++ bsL [32]) ++ bsL (Lib.itoa b) = bsL (textL k a b) := by
  rw [cat_eq, cat_eq, cat_eq, cat_eq, textL, h]

abbrev issue (k a b : Int) : W := .agg [.t (.val (.int .i64 k)), .t (.val (.int .i64 a)), .t (.val (.int .i64 b))]

theorem text5 (k a b : Int) (ha : In64 a) (hb : In64 b) : ∃ ts, Fn Tryz.prog 5 [issue k a b] [] (resV ts) [] ∧ (resV ts).isT = true ∧ ts = [oS (bsL (textL k a b))] := by
  have hA21 : (bsL (Lib.itoa a)).size ≤ 21 := itoa_len ha
  have hB21 : (bsL (Lib.itoa b)).size ≤ 21 := itoa_len hb
  obtain ⟨_, cA, _, rfl⟩ := number8 a ha
  obtain ⟨_, cB, _, rfl⟩ := number8 b hb
  refine fn_good (n := 31) (rs := [.tmp 2]) Tryz.func5 bk5 ck5 rfl rfl (by simp) ?_
  conv => whnf
  refine br_intro (fun h1 => ?_) (fun h1 => ?_)
  · have sW : (⟨#[101, 114, 114, 111, 114]⟩ : ByteArray).size ≤ 10 := by decide
    have hw : wordL k = some [101, 114, 114, 111, 114] := by simp at h1; subst h1; rfl
    conv => whnf
    refine And.intro (room1 sW s32 (by decide)) ?_
    conv => whnf
    refine ⟨_, _, callTo_tree (v := sV (bsL (Lib.itoa a))) rfl rfl cA, ?_⟩
    conv => whnf
    refine And.intro (room1 (cat_le sW s32) hA21 (by decide)) ?_
    conv => whnf
    refine And.intro (room1 (cat_le (cat_le sW s32) hA21) s32 (by decide)) ?_
    conv => whnf
    refine ⟨_, _, callTo_tree (v := sV (bsL (Lib.itoa b))) rfl rfl cB, ?_⟩
    conv => whnf
    refine And.intro (room1 (cat_le (cat_le (cat_le sW s32) hA21) s32) hB21 (by decide)) ?_
    conv => whnf
    refine And.intro (by kernel_rfl) ?_
    conv => whnf
    exact goodS rfl rfl (text_eq hw)
  · skip
    conv => whnf
    refine br_intro (fun h2 => ?_) (fun h2 => ?_)
    · have sW : (⟨#[112, 97, 116, 116, 101, 114, 110]⟩ : ByteArray).size ≤ 10 := by decide
      have hw : wordL k = some [112, 97, 116, 116, 101, 114, 110] := by simp at h2; subst h2; rfl
      conv => whnf
      refine And.intro (room1 sW s32 (by decide)) ?_
      conv => whnf
      refine ⟨_, _, callTo_tree (v := sV (bsL (Lib.itoa a))) rfl rfl cA, ?_⟩
      conv => whnf
      refine And.intro (room1 (cat_le sW s32) hA21 (by decide)) ?_
      conv => whnf
      refine And.intro (room1 (cat_le (cat_le sW s32) hA21) s32 (by decide)) ?_
      conv => whnf
      refine ⟨_, _, callTo_tree (v := sV (bsL (Lib.itoa b))) rfl rfl cB, ?_⟩
      conv => whnf
      refine And.intro (room1 (cat_le (cat_le (cat_le sW s32) hA21) s32) hB21 (by decide)) ?_
      conv => whnf
      refine And.intro (by kernel_rfl) ?_
      conv => whnf
      exact goodS rfl rfl (text_eq hw)
    · skip
      conv => whnf
      refine br_intro (fun h3 => ?_) (fun h3 => ?_)
      · have sW : (⟨#[103, 97, 114, 109, 101, 110, 116]⟩ : ByteArray).size ≤ 10 := by decide
        have hw : wordL k = some [103, 97, 114, 109, 101, 110, 116] := by simp at h3; subst h3; rfl
        conv => whnf
        refine And.intro (room1 sW s32 (by decide)) ?_
        conv => whnf
        refine ⟨_, _, callTo_tree (v := sV (bsL (Lib.itoa a))) rfl rfl cA, ?_⟩
        conv => whnf
        refine And.intro (room1 (cat_le sW s32) hA21 (by decide)) ?_
        conv => whnf
        refine And.intro (room1 (cat_le (cat_le sW s32) hA21) s32 (by decide)) ?_
        conv => whnf
        refine ⟨_, _, callTo_tree (v := sV (bsL (Lib.itoa b))) rfl rfl cB, ?_⟩
        conv => whnf
        refine And.intro (room1 (cat_le (cat_le (cat_le sW s32) hA21) s32) hB21 (by decide)) ?_
        conv => whnf
        refine And.intro (by kernel_rfl) ?_
        conv => whnf
        exact goodS rfl rfl (text_eq hw)
      · skip
        conv => whnf
        refine br_intro (fun h4 => ?_) (fun h4 => ?_)
        · have sW : (⟨#[115, 104, 97, 100, 101]⟩ : ByteArray).size ≤ 10 := by decide
          have hw : wordL k = some [115, 104, 97, 100, 101] := by simp at h4; subst h4; rfl
          conv => whnf
          refine And.intro (room1 sW s32 (by decide)) ?_
          conv => whnf
          refine ⟨_, _, callTo_tree (v := sV (bsL (Lib.itoa a))) rfl rfl cA, ?_⟩
          conv => whnf
          refine And.intro (room1 (cat_le sW s32) hA21 (by decide)) ?_
          conv => whnf
          refine And.intro (room1 (cat_le (cat_le sW s32) hA21) s32 (by decide)) ?_
          conv => whnf
          refine ⟨_, _, callTo_tree (v := sV (bsL (Lib.itoa b))) rfl rfl cB, ?_⟩
          conv => whnf
          refine And.intro (room1 (cat_le (cat_le (cat_le sW s32) hA21) s32) hB21 (by decide)) ?_
          conv => whnf
          refine And.intro (by kernel_rfl) ?_
          conv => whnf
          exact goodS rfl rfl (text_eq hw)
        · skip
          conv => whnf
          refine br_intro (fun h5 => ?_) (fun h5 => ?_)
          · have sW : (⟨#[109, 105, 115, 115, 105, 110, 103]⟩ : ByteArray).size ≤ 10 := by decide
            have hw : wordL k = some [109, 105, 115, 115, 105, 110, 103] := by simp at h5; subst h5; rfl
            conv => whnf
            refine And.intro (room1 sW s32 (by decide)) ?_
            conv => whnf
            refine ⟨_, _, callTo_tree (v := sV (bsL (Lib.itoa a))) rfl rfl cA, ?_⟩
            conv => whnf
            refine And.intro (room1 (cat_le sW s32) hA21 (by decide)) ?_
            conv => whnf
            refine And.intro (room1 (cat_le (cat_le sW s32) hA21) s32 (by decide)) ?_
            conv => whnf
            refine ⟨_, _, callTo_tree (v := sV (bsL (Lib.itoa b))) rfl rfl cB, ?_⟩
            conv => whnf
            refine And.intro (room1 (cat_le (cat_le (cat_le sW s32) hA21) s32) hB21 (by decide)) ?_
            conv => whnf
            refine And.intro (by kernel_rfl) ?_
            conv => whnf
            exact goodS rfl rfl (text_eq hw)
          · skip
            conv => whnf
            refine br_intro (fun h6 => ?_) (fun h6 => ?_)
            · have sW : (⟨#[119, 97, 103, 101]⟩ : ByteArray).size ≤ 10 := by decide
              have hw : wordL k = some [119, 97, 103, 101] := by simp at h6; subst h6; rfl
              conv => whnf
              refine And.intro (room1 sW s32 (by decide)) ?_
              conv => whnf
              refine ⟨_, _, callTo_tree (v := sV (bsL (Lib.itoa a))) rfl rfl cA, ?_⟩
              conv => whnf
              refine And.intro (room1 (cat_le sW s32) hA21 (by decide)) ?_
              conv => whnf
              refine And.intro (room1 (cat_le (cat_le sW s32) hA21) s32 (by decide)) ?_
              conv => whnf
              refine ⟨_, _, callTo_tree (v := sV (bsL (Lib.itoa b))) rfl rfl cB, ?_⟩
              conv => whnf
              refine And.intro (room1 (cat_le (cat_le (cat_le sW s32) hA21) s32) hB21 (by decide)) ?_
              conv => whnf
              refine And.intro (by kernel_rfl) ?_
              conv => whnf
              exact goodS rfl rfl (text_eq hw)
            · skip
              conv => whnf
              refine br_intro (fun h7 => ?_) (fun h7 => ?_)
              · have sW : (⟨#[115, 99, 97, 110]⟩ : ByteArray).size ≤ 10 := by decide
                have hw : wordL k = some [115, 99, 97, 110] := by simp at h7; subst h7; rfl
                conv => whnf
                refine And.intro (room1 sW s32 (by decide)) ?_
                conv => whnf
                refine ⟨_, _, callTo_tree (v := sV (bsL (Lib.itoa a))) rfl rfl cA, ?_⟩
                conv => whnf
                refine And.intro (room1 (cat_le sW s32) hA21 (by decide)) ?_
                conv => whnf
                refine And.intro (room1 (cat_le (cat_le sW s32) hA21) s32 (by decide)) ?_
                conv => whnf
                refine ⟨_, _, callTo_tree (v := sV (bsL (Lib.itoa b))) rfl rfl cB, ?_⟩
                conv => whnf
                refine And.intro (room1 (cat_le (cat_le (cat_le sW s32) hA21) s32) hB21 (by decide)) ?_
                conv => whnf
                refine And.intro (by kernel_rfl) ?_
                conv => whnf
                exact goodS rfl rfl (text_eq hw)
              · skip
                have hw : wordL k = none := by
                  simp at h1 h2 h3 h4 h5 h6 h7
                  simp [wordL, h1, h2, h3, h4, h5, h6, h7]
                conv => whnf
                exact goodS rfl rfl (by rw [textL, hw])

theorem text4 (k a b : Int) (ha : In64 a) (hb : In64 b) : ∃ ts, Fn Tryz.prog 4 [issue k a b] [] (resV ts) [] ∧ (resV ts).isT = true ∧ ts = [oS (bsL (textL k a b))] := by
  have hA21 : (bsL (Lib.itoa a)).size ≤ 21 := itoa_len ha
  have hB21 : (bsL (Lib.itoa b)).size ≤ 21 := itoa_len hb
  have cA := itoa_fn a ha.1 ha.2
  have cB := itoa_fn b hb.1 hb.2
  refine fn_good (n := 31) (rs := [.tmp 2]) Tryz.func4 bk4 ck4 rfl rfl (by simp) ?_
  conv => whnf
  refine br_intro (fun h1 => ?_) (fun h1 => ?_)
  · have sW : (⟨#[101, 114, 114, 111, 114]⟩ : ByteArray).size ≤ 10 := by decide
    have hw : wordL k = some [101, 114, 114, 111, 114] := by simp at h1; subst h1; rfl
    conv => whnf
    refine And.intro (room1 sW s32 (by decide)) ?_
    conv => whnf
    refine ⟨_, _, callTo_tree (v := sV (bsL (Lib.itoa a))) rfl rfl cA, ?_⟩
    conv => whnf
    refine And.intro (room1 (cat_le sW s32) hA21 (by decide)) ?_
    conv => whnf
    refine And.intro (room1 (cat_le (cat_le sW s32) hA21) s32 (by decide)) ?_
    conv => whnf
    refine ⟨_, _, callTo_tree (v := sV (bsL (Lib.itoa b))) rfl rfl cB, ?_⟩
    conv => whnf
    refine And.intro (room1 (cat_le (cat_le (cat_le sW s32) hA21) s32) hB21 (by decide)) ?_
    conv => whnf
    refine And.intro (by kernel_rfl) ?_
    conv => whnf
    exact goodS rfl rfl (text_eq hw)
  · skip
    conv => whnf
    refine br_intro (fun h2 => ?_) (fun h2 => ?_)
    · have sW : (⟨#[112, 97, 116, 116, 101, 114, 110]⟩ : ByteArray).size ≤ 10 := by decide
      have hw : wordL k = some [112, 97, 116, 116, 101, 114, 110] := by simp at h2; subst h2; rfl
      conv => whnf
      refine And.intro (room1 sW s32 (by decide)) ?_
      conv => whnf
      refine ⟨_, _, callTo_tree (v := sV (bsL (Lib.itoa a))) rfl rfl cA, ?_⟩
      conv => whnf
      refine And.intro (room1 (cat_le sW s32) hA21 (by decide)) ?_
      conv => whnf
      refine And.intro (room1 (cat_le (cat_le sW s32) hA21) s32 (by decide)) ?_
      conv => whnf
      refine ⟨_, _, callTo_tree (v := sV (bsL (Lib.itoa b))) rfl rfl cB, ?_⟩
      conv => whnf
      refine And.intro (room1 (cat_le (cat_le (cat_le sW s32) hA21) s32) hB21 (by decide)) ?_
      conv => whnf
      refine And.intro (by kernel_rfl) ?_
      conv => whnf
      exact goodS rfl rfl (text_eq hw)
    · skip
      conv => whnf
      refine br_intro (fun h3 => ?_) (fun h3 => ?_)
      · have sW : (⟨#[103, 97, 114, 109, 101, 110, 116]⟩ : ByteArray).size ≤ 10 := by decide
        have hw : wordL k = some [103, 97, 114, 109, 101, 110, 116] := by simp at h3; subst h3; rfl
        conv => whnf
        refine And.intro (room1 sW s32 (by decide)) ?_
        conv => whnf
        refine ⟨_, _, callTo_tree (v := sV (bsL (Lib.itoa a))) rfl rfl cA, ?_⟩
        conv => whnf
        refine And.intro (room1 (cat_le sW s32) hA21 (by decide)) ?_
        conv => whnf
        refine And.intro (room1 (cat_le (cat_le sW s32) hA21) s32 (by decide)) ?_
        conv => whnf
        refine ⟨_, _, callTo_tree (v := sV (bsL (Lib.itoa b))) rfl rfl cB, ?_⟩
        conv => whnf
        refine And.intro (room1 (cat_le (cat_le (cat_le sW s32) hA21) s32) hB21 (by decide)) ?_
        conv => whnf
        refine And.intro (by kernel_rfl) ?_
        conv => whnf
        exact goodS rfl rfl (text_eq hw)
      · skip
        conv => whnf
        refine br_intro (fun h4 => ?_) (fun h4 => ?_)
        · have sW : (⟨#[115, 104, 97, 100, 101]⟩ : ByteArray).size ≤ 10 := by decide
          have hw : wordL k = some [115, 104, 97, 100, 101] := by simp at h4; subst h4; rfl
          conv => whnf
          refine And.intro (room1 sW s32 (by decide)) ?_
          conv => whnf
          refine ⟨_, _, callTo_tree (v := sV (bsL (Lib.itoa a))) rfl rfl cA, ?_⟩
          conv => whnf
          refine And.intro (room1 (cat_le sW s32) hA21 (by decide)) ?_
          conv => whnf
          refine And.intro (room1 (cat_le (cat_le sW s32) hA21) s32 (by decide)) ?_
          conv => whnf
          refine ⟨_, _, callTo_tree (v := sV (bsL (Lib.itoa b))) rfl rfl cB, ?_⟩
          conv => whnf
          refine And.intro (room1 (cat_le (cat_le (cat_le sW s32) hA21) s32) hB21 (by decide)) ?_
          conv => whnf
          refine And.intro (by kernel_rfl) ?_
          conv => whnf
          exact goodS rfl rfl (text_eq hw)
        · skip
          conv => whnf
          refine br_intro (fun h5 => ?_) (fun h5 => ?_)
          · have sW : (⟨#[109, 105, 115, 115, 105, 110, 103]⟩ : ByteArray).size ≤ 10 := by decide
            have hw : wordL k = some [109, 105, 115, 115, 105, 110, 103] := by simp at h5; subst h5; rfl
            conv => whnf
            refine And.intro (room1 sW s32 (by decide)) ?_
            conv => whnf
            refine ⟨_, _, callTo_tree (v := sV (bsL (Lib.itoa a))) rfl rfl cA, ?_⟩
            conv => whnf
            refine And.intro (room1 (cat_le sW s32) hA21 (by decide)) ?_
            conv => whnf
            refine And.intro (room1 (cat_le (cat_le sW s32) hA21) s32 (by decide)) ?_
            conv => whnf
            refine ⟨_, _, callTo_tree (v := sV (bsL (Lib.itoa b))) rfl rfl cB, ?_⟩
            conv => whnf
            refine And.intro (room1 (cat_le (cat_le (cat_le sW s32) hA21) s32) hB21 (by decide)) ?_
            conv => whnf
            refine And.intro (by kernel_rfl) ?_
            conv => whnf
            exact goodS rfl rfl (text_eq hw)
          · skip
            conv => whnf
            refine br_intro (fun h6 => ?_) (fun h6 => ?_)
            · have sW : (⟨#[119, 97, 103, 101]⟩ : ByteArray).size ≤ 10 := by decide
              have hw : wordL k = some [119, 97, 103, 101] := by simp at h6; subst h6; rfl
              conv => whnf
              refine And.intro (room1 sW s32 (by decide)) ?_
              conv => whnf
              refine ⟨_, _, callTo_tree (v := sV (bsL (Lib.itoa a))) rfl rfl cA, ?_⟩
              conv => whnf
              refine And.intro (room1 (cat_le sW s32) hA21 (by decide)) ?_
              conv => whnf
              refine And.intro (room1 (cat_le (cat_le sW s32) hA21) s32 (by decide)) ?_
              conv => whnf
              refine ⟨_, _, callTo_tree (v := sV (bsL (Lib.itoa b))) rfl rfl cB, ?_⟩
              conv => whnf
              refine And.intro (room1 (cat_le (cat_le (cat_le sW s32) hA21) s32) hB21 (by decide)) ?_
              conv => whnf
              refine And.intro (by kernel_rfl) ?_
              conv => whnf
              exact goodS rfl rfl (text_eq hw)
            · skip
              conv => whnf
              refine br_intro (fun h7 => ?_) (fun h7 => ?_)
              · have sW : (⟨#[115, 99, 97, 110]⟩ : ByteArray).size ≤ 10 := by decide
                have hw : wordL k = some [115, 99, 97, 110] := by simp at h7; subst h7; rfl
                conv => whnf
                refine And.intro (room1 sW s32 (by decide)) ?_
                conv => whnf
                refine ⟨_, _, callTo_tree (v := sV (bsL (Lib.itoa a))) rfl rfl cA, ?_⟩
                conv => whnf
                refine And.intro (room1 (cat_le sW s32) hA21 (by decide)) ?_
                conv => whnf
                refine And.intro (room1 (cat_le (cat_le sW s32) hA21) s32 (by decide)) ?_
                conv => whnf
                refine ⟨_, _, callTo_tree (v := sV (bsL (Lib.itoa b))) rfl rfl cB, ?_⟩
                conv => whnf
                refine And.intro (room1 (cat_le (cat_le (cat_le sW s32) hA21) s32) hB21 (by decide)) ?_
                conv => whnf
                refine And.intro (by kernel_rfl) ?_
                conv => whnf
                exact goodS rfl rfl (text_eq hw)
              · skip
                have hw : wordL k = none := by
                  simp at h1 h2 h3 h4 h5 h6 h7
                  simp [wordL, h1, h2, h3, h4, h5, h6, h7]
                conv => whnf
                exact goodS rfl rfl (by rw [textL, hw])

end Go.Abs.Cd
