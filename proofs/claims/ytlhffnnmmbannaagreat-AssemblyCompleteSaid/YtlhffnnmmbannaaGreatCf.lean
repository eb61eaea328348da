import Derived.Test.YtlhffnnmmbannaaGreatCodH
import Derived.Test.YtlhffnnmmbannaaGreatAbsDet
import Derived.Test.YtlhffnnmmbannaaGreatAbsIn
import Derived.Test.YtlhffnnmmbannaaGreatAbsLaw
namespace Go.Abs.Cd
open Go Go.Proofs
set_option maxRecDepth 100000
-- garment/garmentlaw50.AssemblyComplete
def c5 : Rc := (.seq (.region (p 3 (.box (t 0)) :: p 6 (.mov (kb false)) :: [])) (.seq (.seq (.region (p 7 (.load (some 16) (t 3)) :: p 8 (.call 12 [t 7, kn]) :: p 9 (.not (t 8)) :: [])) (.cond (t 9) (.seq (.region (p 10 (.call 13 []) :: p 6 (.mov (t 10)) :: [])) .ret) .skip)) (.seq (.draw (p 11 (.faddr 0 (t 3)) :: p 12 (.load (some 7) (t 11)) :: p 13 (.faddr 7 (t 3)) :: p 14 (.load (some 7) (t 13)) :: p 15 (.faddr 15 (t 3)) :: p 16 (.load none (t 15)) :: p 17 (.mov (t 1)) :: p 18 (.mov (t 2)) :: p 19 (.call 19 [t 12, t 14, t 16, t 17, t 18]) :: p 20 (.faddr 0 (t 3)) :: p 21 (.load (some 7) (t 20)) :: p 22 (.faddr 7 (t 3)) :: p 23 (.load (some 7) (t 22)) :: p 24 (.faddr 15 (t 3)) :: p 25 (.load none (t 24)) :: p 26 (.mov (t 1)) :: p 27 (.mov (t 2)) :: p 28 (.call 20 [t 21, t 23, t 25, t 26, t 27]) :: p 29 (.binB .eql (t 19) (t 28)) :: p 30 (.mov (t 29)) :: ⟨some 31, some (30, true), .call 13 []⟩ :: p 32 (.pick (t 30) (t 31) (kb false)) :: p 6 (.mov (t 32)) :: []) ([] :: [0] :: [] :: [2] :: [] :: [4] :: [] :: [] :: [1, 3, 5, 6, 7] :: [] :: [9] :: [] :: [11] :: [] :: [13] :: [] :: [] :: [10, 12, 14, 15, 16, 8] :: [8, 17] :: [18, 17] :: [19, 19] :: [19, 20] :: [21, 20, 0, 1, 2, 3, 4, 5, 6, 7, 8, 9, 10, 11, 12, 13, 14, 15, 16, 17, 18, 19, 20, 21] :: [])) .ret)))
theorem ck5 : resolveC Tryz.prog (Tryz.f5.body.getD .skip) = some c5 := by kernel_rfl
theorem bk5 : Tryz.f5.body = some (Tryz.f5.body.getD .skip) := rfl
-- garment/garmentlaw50.few
def c12 : Rc := (.seq (.region (p 2 (.box (t 0)) :: p 4 (.mov (kb false)) :: [])) (.seq (.region (p 5 (.faddr 7 (t 2)) :: p 6 (.faddr 0 (t 5)) :: p 7 (.faddr 4 (t 6)) :: p 8 (.load none (t 7)) :: p 9 (.len (t 8)) :: p 10 (.bin .leq (t 9) (k 3)) :: p 11 (.mov (t 10)) :: ⟨some 12, some (11, true), .faddr 0 (t 2)⟩ :: ⟨some 13, some (11, true), .load (some 7) (t 12)⟩ :: ⟨some 14, some (11, true), .faddr 7 (t 2)⟩ :: ⟨some 15, some (11, true), .faddr 0 (t 14)⟩ :: ⟨some 16, some (11, true), .faddr 4 (t 15)⟩ :: ⟨some 17, some (11, true), .load none (t 16)⟩ :: ⟨some 18, some (11, true), .len (t 17)⟩ :: ⟨some 19, some (11, true), .call 25 [t 13, t 18]⟩ :: p 20 (.pick (t 11) (t 19) (kb false)) :: p 21 (.mov (t 20)) :: ⟨some 22, some (21, true), .faddr 7 (t 2)⟩ :: ⟨some 23, some (21, true), .faddr 0 (t 22)⟩ :: ⟨some 24, some (21, true), .faddr 5 (t 23)⟩ :: ⟨some 25, some (21, true), .load none (t 24)⟩ :: ⟨some 26, some (21, true), .len (t 25)⟩ :: ⟨some 27, some (21, true), .bin .leq (t 26) (k 8)⟩ :: p 28 (.pick (t 21) (t 27) (kb false)) :: p 29 (.mov (t 28)) :: ⟨some 30, some (29, true), .faddr 7 (t 2)⟩ :: ⟨some 31, some (29, true), .load (some 7) (t 30)⟩ :: ⟨some 32, some (29, true), .faddr 14 (t 2)⟩ :: ⟨some 33, some (29, true), .load none (t 32)⟩ :: ⟨some 34, some (29, true), .faddr 15 (t 2)⟩ :: ⟨some 35, some (29, true), .load none (t 34)⟩ :: ⟨some 36, some (29, true), .mov (t 1)⟩ :: ⟨some 37, some (29, true), .call 26 [t 31, t 33, t 35, t 36]⟩ :: p 38 (.pick (t 29) (t 37) (kb false)) :: p 39 (.mov (t 38)) :: ⟨some 40, some (39, true), .faddr 7 (t 2)⟩ :: ⟨some 41, some (39, true), .load (some 7) (t 40)⟩ :: ⟨some 42, some (39, true), .call 22 [t 41, kn, kn, kn]⟩ :: p 43 (.pick (t 39) (t 42) (kb false)) :: p 4 (.mov (t 43)) :: [])) .ret))
theorem ck12 : resolveC Tryz.prog (Tryz.f12.body.getD .skip) = some c12 := by kernel_rfl
theorem bk12 : Tryz.f12.body = some (Tryz.f12.body.getD .skip) := rfl
-- garment/garmentref33.Small
def c25 : Rc := (.seq (.region (p 2 (.box (t 0)) :: p 4 (.mov (kb false)) :: [])) (.seq (.seq (.region (p 10 (.faddr 3 (t 2)) :: p 11 (.load none (t 10)) :: p 12 (.len (t 11)) :: p 13 (.bin .gtr (t 12) (k 4)) :: p 14 (.mov (t 13)) :: ⟨some 15, some (14, false), .faddr 4 (t 2)⟩ :: ⟨some 16, some (14, false), .load none (t 15)⟩ :: ⟨some 17, some (14, false), .len (t 16)⟩ :: ⟨some 18, some (14, false), .bin .gtr (t 17) (k 4)⟩ :: p 19 (.pick (t 14) (kb true) (t 18)) :: p 20 (.mov (t 19)) :: ⟨some 21, some (20, false), .faddr 1 (t 2)⟩ :: ⟨some 22, some (20, false), .load none (t 21)⟩ :: ⟨some 23, some (20, false), .len (t 22)⟩ :: ⟨some 24, some (20, false), .bin .gtr (t 23) (k 4)⟩ :: p 25 (.pick (t 20) (kb true) (t 24)) :: p 26 (.mov (t 25)) :: ⟨some 27, some (26, false), .faddr 2 (t 2)⟩ :: ⟨some 28, some (26, false), .load none (t 27)⟩ :: ⟨some 29, some (26, false), .len (t 28)⟩ :: ⟨some 30, some (26, false), .bin .gtr (t 29) (k 4)⟩ :: p 31 (.pick (t 26) (kb true) (t 30)) :: p 32 (.mov (t 31)) :: ⟨some 33, some (32, false), .faddr 5 (t 2)⟩ :: ⟨some 34, some (32, false), .load none (t 33)⟩ :: ⟨some 35, some (32, false), .len (t 34)⟩ :: ⟨some 36, some (32, false), .bin .gtr (t 35) (k 6)⟩ :: p 37 (.pick (t 32) (kb true) (t 36)) :: p 38 (.mov (t 37)) :: ⟨some 39, some (38, false), .faddr 6 (t 2)⟩ :: ⟨some 40, some (38, false), .load none (t 39)⟩ :: ⟨some 41, some (38, false), .len (t 40)⟩ :: ⟨some 42, some (38, false), .bin .gtr (t 41) (k 8)⟩ :: p 43 (.pick (t 38) (kb true) (t 42)) :: p 44 (.mov (t 43)) :: ⟨some 45, some (44, false), .mov (t 1)⟩ :: ⟨some 46, some (44, false), .bin .lss (t 45) (k 0)⟩ :: p 47 (.pick (t 44) (kb true) (t 46)) :: p 48 (.mov (t 47)) :: ⟨some 49, some (48, false), .mov (t 1)⟩ :: ⟨some 50, some (48, false), .bin .gtr (t 49) (k 7)⟩ :: p 51 (.pick (t 48) (kb true) (t 50)) :: [])) (.cond (t 51) (.seq (.region (p 4 (.mov (kb false)) :: [])) .ret) .skip)) (.seq (.seq (.region (p 5 (.mov (k 0)) :: [])) (.block 0 (.loop (.seq (.seq (.region (p 52 (.mov (t 5)) :: p 53 (.faddr 3 (t 2)) :: p 54 (.load none (t 53)) :: p 55 (.len (t 54)) :: p 56 (.bin .lss (t 52) (t 55)) :: [])) (.cond (t 56) .skip (.exit 0))) (.seq (.block 1 (.seq (.region (p 6 (.mov (k 0)) :: [])) (.seq (.seq (.region (p 7 (.mov (k 0)) :: [])) (.block 2 (.loop (.seq (.seq (.region (p 59 (.mov (t 7)) :: p 60 (.faddr 3 (t 2)) :: p 61 (.load none (t 60)) :: p 62 (.mov (t 5)) :: p 63 (.iaddr 7 (t 61) (t 62)) :: p 64 (.faddr 1 (t 63)) :: p 65 (.load none (t 64)) :: p 66 (.len (t 65)) :: p 67 (.bin .lss (t 59) (t 66)) :: p 68 (.mov (t 67)) :: ⟨some 69, some (68, true), .mov (t 7)⟩ :: ⟨some 70, some (68, true), .bin .lss (t 69) (k 17)⟩ :: p 71 (.pick (t 68) (t 70) (kb false)) :: [])) (.cond (t 71) .skip (.exit 2))) (.seq (.block 3 (.region (p 74 (.mov (t 6)) :: p 75 (.faddr 3 (t 2)) :: p 76 (.load none (t 75)) :: p 77 (.mov (t 5)) :: p 78 (.iaddr 7 (t 76) (t 77)) :: p 79 (.faddr 1 (t 78)) :: p 80 (.load none (t 79)) :: p 81 (.mov (t 7)) :: p 82 (.iaddr 2 (t 80) (t 81)) :: p 83 (.faddr 1 (t 82)) :: p 84 (.load none (t 83)) :: p 85 (.len (t 84)) :: p 86 (.smin (t 85) (k 20)) :: p 87 (.bin .add (t 74) (t 86)) :: p 6 (.mov (t 87)) :: []))) (.region (p 72 (.mov (t 7)) :: p 73 (.bin .add (t 72) (k 1)) :: p 7 (.mov (t 73)) :: []))))))) (.seq (.region (p 88 (.mov (t 6)) :: p 89 (.bin .gtr (t 88) (k 24)) :: p 90 (.mov (t 89)) :: ⟨some 91, some (90, false), .faddr 3 (t 2)⟩ :: ⟨some 92, some (90, false), .load none (t 91)⟩ :: ⟨some 93, some (90, false), .mov (t 5)⟩ :: ⟨some 94, some (90, false), .iaddr 7 (t 92) (t 93)⟩ :: ⟨some 95, some (90, false), .faddr 1 (t 94)⟩ :: ⟨some 96, some (90, false), .load none (t 95)⟩ :: ⟨some 97, some (90, false), .len (t 96)⟩ :: ⟨some 98, some (90, false), .bin .gtr (t 97) (k 16)⟩ :: p 99 (.pick (t 90) (kb true) (t 98)) :: p 100 (.mov (t 99)) :: ⟨some 101, some (100, false), .faddr 3 (t 2)⟩ :: ⟨some 102, some (100, false), .load none (t 101)⟩ :: ⟨some 103, some (100, false), .mov (t 5)⟩ :: ⟨some 104, some (100, false), .iaddr 7 (t 102) (t 103)⟩ :: ⟨some 105, some (100, false), .faddr 3 (t 104)⟩ :: ⟨some 106, some (100, false), .load none (t 105)⟩ :: ⟨some 107, some (100, false), .len (t 106)⟩ :: ⟨some 108, some (100, false), .bin .gtr (t 107) (k 16)⟩ :: p 109 (.pick (t 100) (kb true) (t 108)) :: [])) (.cond (t 109) (.seq (.region (p 4 (.mov (kb false)) :: [])) .ret) .skip))))) (.region (p 57 (.mov (t 5)) :: p 58 (.bin .add (t 57) (k 1)) :: p 5 (.mov (t 58)) :: []))))))) (.seq (.region (p 8 (.mov (k 0)) :: [])) (.seq (.seq (.region (p 9 (.mov (k 0)) :: [])) (.block 4 (.loop (.seq (.seq (.region (p 110 (.mov (t 9)) :: p 111 (.faddr 4 (t 2)) :: p 112 (.load none (t 111)) :: p 113 (.len (t 112)) :: p 114 (.bin .lss (t 110) (t 113)) :: [])) (.cond (t 114) .skip (.exit 4))) (.seq (.block 5 (.region (p 117 (.mov (t 8)) :: p 118 (.faddr 4 (t 2)) :: p 119 (.load none (t 118)) :: p 120 (.mov (t 9)) :: p 121 (.iaddr 3 (t 119) (t 120)) :: p 122 (.faddr 1 (t 121)) :: p 123 (.load none (t 122)) :: p 124 (.smax (t 123) (k 0)) :: p 125 (.smin (t 124) (k 9)) :: p 126 (.bin .add (t 117) (t 125)) :: p 8 (.mov (t 126)) :: []))) (.region (p 115 (.mov (t 9)) :: p 116 (.bin .add (t 115) (k 1)) :: p 9 (.mov (t 116)) :: []))))))) (.seq (.region (p 127 (.mov (t 8)) :: p 128 (.mov (t 1)) :: p 129 (.bin .mul (t 127) (t 128)) :: p 130 (.bin .leq (t 129) (k 6)) :: p 4 (.mov (t 130)) :: [])) .ret))))))
theorem ck25 : resolveC Tryz.prog (Tryz.f25.body.getD .skip) = some c25 := by kernel_rfl
theorem bk25 : Tryz.f25.body = some (Tryz.f25.body.getD .skip) := rfl
-- garment/garmentref50.Few
def c26 : Rc := (.seq (.region (p 4 (.box (t 0)) :: p 8 (.mov (kb false)) :: [])) (.seq (.seq (.region (p 11 (.faddr 6 (t 4)) :: p 12 (.load none (t 11)) :: p 13 (.len (t 12)) :: p 14 (.bin .gtr (t 13) (k 8)) :: p 15 (.mov (t 14)) :: ⟨some 16, some (15, false), .mov (t 1)⟩ :: ⟨some 17, some (15, false), .len (t 16)⟩ :: ⟨some 18, some (15, false), .bin .gtr (t 17) (k 16)⟩ :: p 19 (.pick (t 15) (kb true) (t 18)) :: p 20 (.mov (t 19)) :: ⟨some 21, some (20, false), .mov (t 2)⟩ :: ⟨some 22, some (20, false), .len (t 21)⟩ :: ⟨some 23, some (20, false), .bin .gtr (t 22) (k 60)⟩ :: p 24 (.pick (t 20) (kb true) (t 23)) :: p 25 (.mov (t 24)) :: ⟨some 26, some (25, false), .mov (t 3)⟩ :: ⟨some 27, some (25, false), .len (t 26)⟩ :: ⟨some 28, some (25, false), .bin .gtr (t 27) (k 24)⟩ :: p 29 (.pick (t 25) (kb true) (t 28)) :: [])) (.cond (t 29) (.seq (.region (p 8 (.mov (kb false)) :: [])) .ret) .skip)) (.seq (.seq (.region (p 9 (.mov (k 0)) :: [])) (.block 0 (.loop (.seq (.seq (.region (p 30 (.mov (t 9)) :: p 31 (.mov (t 2)) :: p 32 (.len (t 31)) :: p 33 (.bin .lss (t 30) (t 32)) :: [])) (.cond (t 33) .skip (.exit 0))) (.seq (.block 1 (.seq (.region (p 36 (.mov (t 2)) :: p 37 (.mov (t 9)) :: p 38 (.iaddr 6 (t 36) (t 37)) :: p 39 (.faddr 4 (t 38)) :: p 40 (.load none (t 39)) :: p 41 (.len (t 40)) :: p 42 (.bin .gtr (t 41) (k 4)) :: [])) (.cond (t 42) (.seq (.region (p 8 (.mov (kb false)) :: [])) .ret) .skip))) (.region (p 34 (.mov (t 9)) :: p 35 (.bin .add (t 34) (k 1)) :: p 9 (.mov (t 35)) :: []))))))) (.seq (.seq (.region (p 10 (.mov (k 0)) :: [])) (.block 2 (.loop (.seq (.seq (.region (p 43 (.mov (t 10)) :: p 44 (.mov (t 3)) :: p 45 (.len (t 44)) :: p 46 (.bin .lss (t 43) (t 45)) :: [])) (.cond (t 46) .skip (.exit 2))) (.seq (.block 3 (.seq (.region (p 49 (.mov (t 3)) :: p 50 (.mov (t 10)) :: p 51 (.iaddr 5 (t 49) (t 50)) :: p 52 (.faddr 4 (t 51)) :: p 53 (.load none (t 52)) :: p 54 (.len (t 53)) :: p 55 (.bin .gtr (t 54) (k 8)) :: [])) (.cond (t 55) (.seq (.region (p 8 (.mov (kb false)) :: [])) .ret) .skip))) (.region (p 47 (.mov (t 10)) :: p 48 (.bin .add (t 47) (k 1)) :: p 10 (.mov (t 48)) :: []))))))) (.seq (.region (p 8 (.mov (kb true)) :: [])) .ret)))))
theorem ck26 : resolveC Tryz.prog (Tryz.f26.body.getD .skip) = some c26 := by kernel_rfl
theorem bk26 : Tryz.f26.body = some (Tryz.f26.body.getD .skip) := rfl
-- garment/garmentref38.Few
def c22 : Rc := (.seq (.region (p 4 (.box (t 0)) :: p 8 (.mov (kb false)) :: [])) (.seq (.seq (.region (p 12 (.mov (t 1)) :: p 13 (.len (t 12)) :: p 14 (.bin .gtr (t 13) (k 6)) :: p 15 (.mov (t 14)) :: ⟨some 16, some (15, false), .mov (t 2)⟩ :: ⟨some 17, some (15, false), .len (t 16)⟩ :: ⟨some 18, some (15, false), .bin .gtr (t 17) (k 6)⟩ :: p 19 (.pick (t 15) (kb true) (t 18)) :: p 20 (.mov (t 19)) :: ⟨some 21, some (20, false), .mov (t 3)⟩ :: ⟨some 22, some (20, false), .len (t 21)⟩ :: ⟨some 23, some (20, false), .bin .gtr (t 22) (k 8)⟩ :: p 24 (.pick (t 20) (kb true) (t 23)) :: p 25 (.mov (t 24)) :: ⟨some 26, some (25, false), .faddr 6 (t 4)⟩ :: ⟨some 27, some (25, false), .load none (t 26)⟩ :: ⟨some 28, some (25, false), .len (t 27)⟩ :: ⟨some 29, some (25, false), .bin .gtr (t 28) (k 41)⟩ :: p 30 (.pick (t 25) (kb true) (t 29)) :: p 31 (.mov (t 30)) :: ⟨some 32, some (31, false), .faddr 0 (t 4)⟩ :: ⟨some 33, some (31, false), .faddr 4 (t 32)⟩ :: ⟨some 34, some (31, false), .load none (t 33)⟩ :: ⟨some 35, some (31, false), .len (t 34)⟩ :: ⟨some 36, some (31, false), .bin .gtr (t 35) (k 7)⟩ :: p 37 (.pick (t 31) (kb true) (t 36)) :: p 38 (.mov (t 37)) :: ⟨some 39, some (38, false), .faddr 0 (t 4)⟩ :: ⟨some 40, some (38, false), .faddr 5 (t 39)⟩ :: ⟨some 41, some (38, false), .load none (t 40)⟩ :: ⟨some 42, some (38, false), .len (t 41)⟩ :: ⟨some 43, some (38, false), .bin .gtr (t 42) (k 8)⟩ :: p 44 (.pick (t 38) (kb true) (t 43)) :: [])) (.cond (t 44) (.seq (.region (p 8 (.mov (kb false)) :: [])) .ret) .skip)) (.seq (.seq (.region (p 9 (.mov (k 0)) :: [])) (.block 0 (.loop (.seq (.seq (.region (p 45 (.mov (t 9)) :: p 46 (.mov (t 1)) :: p 47 (.len (t 46)) :: p 48 (.bin .lss (t 45) (t 47)) :: [])) (.cond (t 48) .skip (.exit 0))) (.seq (.block 1 (.seq (.region (p 51 (.mov (t 1)) :: p 52 (.mov (t 9)) :: p 53 (.iaddr 1 (t 51) (t 52)) :: p 54 (.load none (t 53)) :: p 55 (.len (t 54)) :: p 56 (.bin .gtr (t 55) (k 12)) :: [])) (.cond (t 56) (.seq (.region (p 8 (.mov (kb false)) :: [])) .ret) .skip))) (.region (p 49 (.mov (t 9)) :: p 50 (.bin .add (t 49) (k 1)) :: p 9 (.mov (t 50)) :: []))))))) (.seq (.seq (.region (p 10 (.mov (k 0)) :: [])) (.block 2 (.loop (.seq (.seq (.region (p 57 (.mov (t 10)) :: p 58 (.mov (t 2)) :: p 59 (.len (t 58)) :: p 60 (.bin .lss (t 57) (t 59)) :: [])) (.cond (t 60) .skip (.exit 2))) (.seq (.block 3 (.seq (.region (p 63 (.mov (t 2)) :: p 64 (.mov (t 10)) :: p 65 (.iaddr 7 (t 63) (t 64)) :: p 66 (.faddr 6 (t 65)) :: p 67 (.load none (t 66)) :: p 68 (.len (t 67)) :: p 69 (.bin .gtr (t 68) (k 6)) :: p 70 (.mov (t 69)) :: ⟨some 71, some (70, false), .mov (t 2)⟩ :: ⟨some 72, some (70, false), .mov (t 10)⟩ :: ⟨some 73, some (70, false), .iaddr 7 (t 71) (t 72)⟩ :: ⟨some 74, some (70, false), .faddr 0 (t 73)⟩ :: ⟨some 75, some (70, false), .load none (t 74)⟩ :: ⟨some 76, some (70, false), .slen (t 75)⟩ :: ⟨some 77, some (70, false), .bin .gtr (t 76) (k 40)⟩ :: p 78 (.pick (t 70) (kb true) (t 77)) :: [])) (.cond (t 78) (.seq (.region (p 8 (.mov (kb false)) :: [])) .ret) .skip))) (.region (p 61 (.mov (t 10)) :: p 62 (.bin .add (t 61) (k 1)) :: p 10 (.mov (t 62)) :: []))))))) (.seq (.seq (.region (p 11 (.mov (k 0)) :: [])) (.block 4 (.loop (.seq (.seq (.region (p 79 (.mov (t 11)) :: p 80 (.faddr 6 (t 4)) :: p 81 (.load none (t 80)) :: p 82 (.len (t 81)) :: p 83 (.bin .lss (t 79) (t 82)) :: [])) (.cond (t 83) .skip (.exit 4))) (.seq (.block 5 (.seq (.region (p 86 (.faddr 6 (t 4)) :: p 87 (.load none (t 86)) :: p 88 (.mov (t 11)) :: p 89 (.iaddr 2 (t 87) (t 88)) :: p 90 (.faddr 1 (t 89)) :: p 91 (.load none (t 90)) :: p 92 (.len (t 91)) :: p 93 (.bin .gtr (t 92) (k 6)) :: [])) (.cond (t 93) (.seq (.region (p 8 (.mov (kb false)) :: [])) .ret) .skip))) (.region (p 84 (.mov (t 11)) :: p 85 (.bin .add (t 84) (k 1)) :: p 11 (.mov (t 85)) :: []))))))) (.seq (.region (p 8 (.mov (kb true)) :: [])) .ret))))))
theorem ck22 : resolveC Tryz.prog (Tryz.f22.body.getD .skip) = some c22 := by kernel_rfl
theorem bk22 : Tryz.f22.body = some (Tryz.f22.body.getD .skip) := rfl
-- garment/assembly.Complete
def c19 : Rc := (.seq (.region (p 5 (.box (t 0)) :: p 6 (.box (t 1)) :: p 10 (.mov (kb false)) :: [])) (.seq (.seq (.region (p 13 (.mov (t 3)) :: p 14 (.bin .lss (t 13) (k 0)) :: p 15 (.mov (t 14)) :: ⟨some 16, some (15, false), .mov (t 3)⟩ :: ⟨some 17, some (15, false), .faddr 0 (t 6)⟩ :: ⟨some 18, some (15, false), .faddr 4 (t 17)⟩ :: ⟨some 19, some (15, false), .load none (t 18)⟩ :: ⟨some 20, some (15, false), .len (t 19)⟩ :: ⟨some 21, some (15, false), .bin .geq (t 16) (t 20)⟩ :: p 22 (.pick (t 15) (kb true) (t 21)) :: p 23 (.mov (t 22)) :: ⟨some 24, some (23, false), .mov (t 4)⟩ :: ⟨some 25, some (23, false), .bin .lss (t 24) (k 0)⟩ :: p 26 (.pick (t 23) (kb true) (t 25)) :: p 27 (.mov (t 26)) :: ⟨some 28, some (27, false), .mov (t 4)⟩ :: ⟨some 29, some (27, false), .faddr 6 (t 6)⟩ :: ⟨some 30, some (27, false), .load none (t 29)⟩ :: ⟨some 31, some (27, false), .len (t 30)⟩ :: ⟨some 32, some (27, false), .bin .geq (t 28) (t 31)⟩ :: p 33 (.pick (t 27) (kb true) (t 32)) :: [])) (.cond (t 33) (.seq (.region (p 10 (.mov (kb false)) :: [])) .ret) .skip)) (.seq (.region (p 35 (.load (some 7) (t 6)) :: p 36 (.mov (t 2)) :: p 37 (.mov (t 3)) :: p 38 (.mov (t 4)) :: p 39 (.call 29 [t 35, t 36, t 37, t 38]) :: p 34 (.mov (t 39)) :: p 40 (.extract (t 34) 0) :: p 41 (.extract (t 34) 1) :: p 11 (.mov (t 40)) :: p 12 (.mov (t 41)) :: [])) (.seq (.region (p 42 (.mov (t 12)) :: p 10 (.mov (t 42)) :: [])) .ret))))
theorem ck19 : resolveC Tryz.prog (Tryz.f19.body.getD .skip) = some c19 := by kernel_rfl
theorem bk19 : Tryz.f19.body = some (Tryz.f19.body.getD .skip) := rfl
-- garment/assembly.pieces
def c29 : Rc := (.seq (.region (p 4 (.box (t 0)) :: p 8 (.mov kn) :: p 9 (.mov (kb false)) :: [])) (.seq (.draw (p 18 (.faddr 6 (t 4)) :: p 19 (.load none (t 18)) :: p 20 (.mov (t 3)) :: p 21 (.iaddr 2 (t 19) (t 20)) :: p 22 (.faddr 0 (t 21)) :: p 23 (.load none (t 22)) :: p 24 (.faddr 0 (t 4)) :: p 25 (.faddr 4 (t 24)) :: p 26 (.load none (t 25)) :: p 27 (.mov (t 2)) :: p 28 (.iaddr 1 (t 26) (t 27)) :: p 29 (.load none (t 28)) :: p 10 (.mov (t 23)) :: p 11 (.mov (t 29)) :: []) ([] :: [0] :: [] :: [1, 2] :: [3] :: [4] :: [] :: [6] :: [7] :: [] :: [8, 9] :: [10] :: [5, 0, 1, 2, 3, 4, 5] :: [11, 12, 0, 1, 2, 3, 4, 5, 6, 7, 8, 9, 10, 11, 12] :: [])) (.seq (.region (p 12 (.mov kn) :: [])) (.seq (.seq (.region (p 30 (.faddr 0 (t 4)) :: p 31 (.faddr 5 (t 30)) :: p 32 (.load none (t 31)) :: p 33 (.len (t 32)) :: p 34 (.mov (k 0)) :: [])) (.block 0 (.loop (.seq (.region (p 35 (.bin .lss (t 34) (t 33)) :: [])) (.seq (.cond (t 35) .skip (.exit 0)) (.seq (.block 1 (.seq (.region (p 36 (.mov (t 34)) :: p 37 (.iaddr 7 (t 32) (t 34)) :: p 38 (.load (some 7) (t 37)) :: p 14 (.alloc [.t (.val (.int .i64 0)), .t (.val (.int .i64 0)), .t (.val (.int .i64 0)), .t (.val (.bool false)), .t (.val (.int .i64 0)), .t (.val (.int .i64 0)), .t (.val (.int .i64 0))]) :: p 13 (.mov (t 36)) :: q (.store 7 (t 14) (t 38)) :: [])) (.seq (.seq (.region (p 39 (.faddr 0 (t 14)) :: p 40 (.load none (t 39)) :: p 41 (.mov (t 2)) :: p 42 (.bin .neq (t 40) (t 41)) :: [])) (.cond (t 42) (.exit 1) .skip)) (.seq (.region (p 15 (.mov (k (-1))) :: [])) (.seq (.seq (.region (p 43 (.mov (t 1)) :: p 44 (.len (t 43)) :: p 45 (.mov (k 0)) :: [])) (.block 2 (.loop (.seq (.region (p 46 (.bin .lss (t 45) (t 44)) :: [])) (.seq (.cond (t 46) .skip (.exit 2)) (.seq (.block 3 (.seq (.region (p 47 (.mov (t 45)) :: p 48 (.iaddr 6 (t 43) (t 45)) :: p 49 (.load (some 6) (t 48)) :: p 17 (.alloc [.t (.val (.int .i64 0)), .t (.val (.int .i64 0)), .t (.val (.int .i64 0)), .t (.val (.int .i64 0)), .t (.val (.slice none 0 0)), .t (.val (.bool false))]) :: p 16 (.mov (t 47)) :: q (.store 6 (t 17) (t 49)) :: [])) (.seq (.region (p 50 (.faddr 1 (t 17)) :: p 51 (.load none (t 50)) :: p 52 (.mov (t 13)) :: p 53 (.bin .eql (t 51) (t 52)) :: p 54 (.mov (t 53)) :: ⟨some 55, some (54, true), .faddr 0 (t 17)⟩ :: ⟨some 56, some (54, true), .load none (t 55)⟩ :: ⟨some 57, some (54, true), .mov (t 3)⟩ :: ⟨some 58, some (54, true), .bin .eql (t 56) (t 57)⟩ :: p 59 (.pick (t 54) (t 58) (kb false)) :: p 60 (.mov (t 59)) :: ⟨some 61, some (60, true), .faddr 5 (t 17)⟩ :: ⟨some 62, some (60, true), .load none (t 61)⟩ :: ⟨some 63, some (60, true), .not (t 62)⟩ :: p 64 (.pick (t 60) (t 63) (kb false)) :: p 65 (.mov (t 64)) :: ⟨some 66, some (65, true), .faddr 2 (t 17)⟩ :: ⟨some 67, some (65, true), .load none (t 66)⟩ :: ⟨some 68, some (65, true), .mov (t 10)⟩ :: ⟨some 69, some (65, true), .bin .eql (t 67) (t 68)⟩ :: p 70 (.pick (t 65) (t 69) (kb false)) :: p 71 (.mov (t 70)) :: ⟨some 72, some (71, true), .faddr 3 (t 17)⟩ :: ⟨some 73, some (71, true), .load none (t 72)⟩ :: ⟨some 74, some (71, true), .mov (t 11)⟩ :: ⟨some 75, some (71, true), .bin .eql (t 73) (t 74)⟩ :: p 76 (.pick (t 71) (t 75) (kb false)) :: [])) (.cond (t 76) (.seq (.region (p 77 (.mov (t 16)) :: p 15 (.mov (t 77)) :: [])) (.exit 2)) .skip)))) (.region (p 78 (.bin .add (t 45) (k 1)) :: p 45 (.mov (t 78)) :: [])))))))) (.seq (.seq (.region (p 79 (.mov (t 15)) :: p 80 (.bin .lss (t 79) (k 0)) :: [])) (.cond (t 80) (.seq (.region (p 8 (.mov kn) :: p 9 (.mov (kb false)) :: [])) .ret) .skip)) (.region (p 81 (.mov (t 12)) :: p 82 (.mov (t 15)) :: p 83 (.bslice [.t (.val (.int .i64 0))] 1 [(0, t 82)]) :: p 84 (.append 1 8 (t 81) (t 83)) :: p 12 (.mov (t 84)) :: [])))))))) (.region (p 85 (.bin .add (t 34) (k 1)) :: p 34 (.mov (t 85)) :: [])))))))) (.seq (.region (p 86 (.mov (t 12)) :: p 8 (.mov (t 86)) :: p 9 (.mov (kb true)) :: [])) .ret)))))
theorem ck29 : resolveC Tryz.prog (Tryz.f29.body.getD .skip) = some c29 := by kernel_rfl
theorem bk29 : Tryz.f29.body = some (Tryz.f29.body.getD .skip) := rfl
-- garment/garmentref50.Complete
def c20 : Rc := (.seq (.region (p 5 (.box (t 0)) :: p 6 (.box (t 1)) :: p 10 (.mov (kb false)) :: [])) (.seq (.seq (.region (p 13 (.mov (t 3)) :: p 14 (.bin .lss (t 13) (k 0)) :: p 15 (.mov (t 14)) :: ⟨some 16, some (15, false), .mov (t 3)⟩ :: ⟨some 17, some (15, false), .faddr 0 (t 6)⟩ :: ⟨some 18, some (15, false), .faddr 4 (t 17)⟩ :: ⟨some 19, some (15, false), .load none (t 18)⟩ :: ⟨some 20, some (15, false), .len (t 19)⟩ :: ⟨some 21, some (15, false), .bin .geq (t 16) (t 20)⟩ :: p 22 (.pick (t 15) (kb true) (t 21)) :: p 23 (.mov (t 22)) :: ⟨some 24, some (23, false), .mov (t 4)⟩ :: ⟨some 25, some (23, false), .bin .lss (t 24) (k 0)⟩ :: p 26 (.pick (t 23) (kb true) (t 25)) :: p 27 (.mov (t 26)) :: ⟨some 28, some (27, false), .mov (t 4)⟩ :: ⟨some 29, some (27, false), .faddr 6 (t 6)⟩ :: ⟨some 30, some (27, false), .load none (t 29)⟩ :: ⟨some 31, some (27, false), .len (t 30)⟩ :: ⟨some 32, some (27, false), .bin .geq (t 28) (t 31)⟩ :: p 33 (.pick (t 27) (kb true) (t 32)) :: [])) (.cond (t 33) (.seq (.region (p 10 (.mov (kb false)) :: [])) .ret) .skip)) (.seq (.region (p 35 (.load (some 7) (t 6)) :: p 36 (.mov (t 2)) :: p 37 (.mov (t 3)) :: p 38 (.mov (t 4)) :: p 39 (.call 31 [t 35, t 36, t 37, t 38]) :: p 34 (.mov (t 39)) :: p 40 (.extract (t 34) 0) :: p 41 (.extract (t 34) 1) :: p 11 (.mov (t 40)) :: p 12 (.mov (t 41)) :: [])) (.seq (.region (p 42 (.mov (t 12)) :: p 10 (.mov (t 42)) :: [])) .ret))))
theorem ck20 : resolveC Tryz.prog (Tryz.f20.body.getD .skip) = some c20 := by kernel_rfl
theorem bk20 : Tryz.f20.body = some (Tryz.f20.body.getD .skip) := rfl
-- garment/garmentref50.pieces
def c31 : Rc := (.seq (.region (p 4 (.box (t 0)) :: p 8 (.mov kn) :: p 9 (.mov (kb false)) :: [])) (.seq (.region (p 10 (.mov kn) :: [])) (.seq (.seq (.region (p 11 (.mov (k 0)) :: [])) (.block 0 (.loop (.seq (.seq (.region (p 13 (.mov (t 11)) :: p 14 (.faddr 0 (t 4)) :: p 15 (.faddr 5 (t 14)) :: p 16 (.load none (t 15)) :: p 17 (.len (t 16)) :: p 18 (.bin .lss (t 13) (t 17)) :: [])) (.cond (t 18) .skip (.exit 0))) (.seq (.block 1 (.seq (.seq (.region (p 21 (.faddr 0 (t 4)) :: p 22 (.faddr 5 (t 21)) :: p 23 (.load none (t 22)) :: p 24 (.mov (t 11)) :: p 25 (.iaddr 7 (t 23) (t 24)) :: p 26 (.faddr 0 (t 25)) :: p 27 (.load none (t 26)) :: p 28 (.mov (t 2)) :: p 29 (.bin .neq (t 27) (t 28)) :: [])) (.cond (t 29) (.exit 1) .skip)) (.seq (.region (p 30 (.load (some 7) (t 4)) :: p 31 (.mov (t 1)) :: p 32 (.mov (t 11)) :: p 33 (.mov (t 3)) :: p 34 (.call 45 [t 30, t 31, t 32, t 33]) :: p 12 (.mov (t 34)) :: [])) (.seq (.seq (.region (p 35 (.mov (t 12)) :: p 36 (.bin .lss (t 35) (k 0)) :: [])) (.cond (t 36) (.seq (.region (p 8 (.mov kn) :: p 9 (.mov (kb false)) :: [])) .ret) .skip)) (.region (p 37 (.mov (t 10)) :: p 38 (.mov (t 12)) :: p 39 (.bslice [.t (.val (.int .i64 0))] 1 [(0, t 38)]) :: p 40 (.append 1 8 (t 37) (t 39)) :: p 10 (.mov (t 40)) :: [])))))) (.region (p 19 (.mov (t 11)) :: p 20 (.bin .add (t 19) (k 1)) :: p 11 (.mov (t 20)) :: []))))))) (.seq (.region (p 41 (.mov (t 10)) :: p 8 (.mov (t 41)) :: p 9 (.mov (kb true)) :: [])) .ret))))
theorem ck31 : resolveC Tryz.prog (Tryz.f31.body.getD .skip) = some c31 := by kernel_rfl
theorem bk31 : Tryz.f31.body = some (Tryz.f31.body.getD .skip) := rfl
-- garment/garmentref50.piece
def c45 : Rc := (.seq (.region (p 4 (.box (t 0)) :: p 8 (.mov (k 0)) :: [])) (.seq (.seq (.region (p 9 (.mov (k 0)) :: [])) (.block 0 (.loop (.seq (.seq (.region (p 11 (.mov (t 9)) :: p 12 (.mov (t 1)) :: p 13 (.len (t 12)) :: p 14 (.bin .lss (t 11) (t 13)) :: [])) (.cond (t 14) .skip (.exit 0))) (.seq (.block 1 (.seq (.region (p 17 (.mov (t 1)) :: p 18 (.mov (t 9)) :: p 19 (.iaddr 6 (t 17) (t 18)) :: p 20 (.load (some 6) (t 19)) :: p 10 (.alloc [.t (.val (.int .i64 0)), .t (.val (.int .i64 0)), .t (.val (.int .i64 0)), .t (.val (.int .i64 0)), .t (.val (.slice none 0 0)), .t (.val (.bool false))]) :: q (.store 6 (t 10) (t 20)) :: [])) (.seq (.draw (p 21 (.faddr 1 (t 10)) :: p 22 (.load none (t 21)) :: p 23 (.mov (t 2)) :: p 24 (.bin .eql (t 22) (t 23)) :: p 25 (.mov (t 24)) :: ⟨some 26, some (25, true), .faddr 0 (t 10)⟩ :: ⟨some 27, some (25, true), .load none (t 26)⟩ :: ⟨some 28, some (25, true), .mov (t 3)⟩ :: ⟨some 29, some (25, true), .bin .eql (t 27) (t 28)⟩ :: p 30 (.pick (t 25) (t 29) (kb false)) :: p 31 (.mov (t 30)) :: ⟨some 32, some (31, true), .faddr 5 (t 10)⟩ :: ⟨some 33, some (31, true), .load none (t 32)⟩ :: ⟨some 34, some (31, true), .not (t 33)⟩ :: p 35 (.pick (t 31) (t 34) (kb false)) :: p 36 (.mov (t 35)) :: ⟨some 37, some (36, true), .faddr 2 (t 10)⟩ :: ⟨some 38, some (36, true), .load none (t 37)⟩ :: ⟨some 39, some (36, true), .faddr 6 (t 4)⟩ :: ⟨some 40, some (36, true), .load none (t 39)⟩ :: ⟨some 41, some (36, true), .mov (t 3)⟩ :: ⟨some 42, some (36, true), .iaddr 2 (t 40) (t 41)⟩ :: ⟨some 43, some (36, true), .faddr 0 (t 42)⟩ :: ⟨some 44, some (36, true), .load none (t 43)⟩ :: ⟨some 45, some (36, true), .bin .eql (t 38) (t 44)⟩ :: p 46 (.pick (t 36) (t 45) (kb false)) :: p 47 (.mov (t 46)) :: ⟨some 48, some (47, true), .faddr 3 (t 10)⟩ :: ⟨some 49, some (47, true), .load none (t 48)⟩ :: ⟨some 50, some (47, true), .faddr 0 (t 4)⟩ :: ⟨some 51, some (47, true), .faddr 4 (t 50)⟩ :: ⟨some 52, some (47, true), .load none (t 51)⟩ :: ⟨some 53, some (47, true), .faddr 0 (t 4)⟩ :: ⟨some 54, some (47, true), .faddr 5 (t 53)⟩ :: ⟨some 55, some (47, true), .load none (t 54)⟩ :: ⟨some 56, some (47, true), .mov (t 2)⟩ :: ⟨some 57, some (47, true), .iaddr 7 (t 55) (t 56)⟩ :: ⟨some 58, some (47, true), .faddr 0 (t 57)⟩ :: ⟨some 59, some (47, true), .load none (t 58)⟩ :: ⟨some 60, some (47, true), .iaddr 1 (t 52) (t 59)⟩ :: ⟨some 61, some (47, true), .load none (t 60)⟩ :: ⟨some 62, some (47, true), .bin .eql (t 49) (t 61)⟩ :: p 63 (.pick (t 47) (t 62) (kb false)) :: []) ([] :: [0] :: [] :: [1, 2] :: [3] :: [4] :: [5, 4] :: [4] :: [6, 7, 4] :: [4, 8] :: [9, 4] :: [10] :: [11, 10] :: [12, 10] :: [10, 13] :: [14, 10] :: [15] :: [16, 15] :: [15] :: [18, 15] :: [15] :: [19, 20, 15] :: [21, 15] :: [22, 15] :: [17, 23, 15] :: [15, 24] :: [25, 15] :: [26] :: [27, 26] :: [26] :: [29, 26] :: [30, 26] :: [26] :: [32, 26] :: [33, 26] :: [26] :: [34, 35, 26] :: [36, 26] :: [37, 26] :: [31, 38, 26] :: [39, 26] :: [28, 40, 26] :: [26, 41] :: [])) (.cond (t 63) (.seq (.region (p 64 (.mov (t 9)) :: p 8 (.mov (t 64)) :: [])) .ret) .skip)))) (.region (p 15 (.mov (t 9)) :: p 16 (.bin .add (t 15) (k 1)) :: p 9 (.mov (t 16)) :: []))))))) (.seq (.region (p 8 (.mov (k (-1))) :: [])) .ret)))
theorem ck45 : resolveC Tryz.prog (Tryz.f45.body.getD .skip) = some c45 := by kernel_rfl
theorem bk45 : Tryz.f45.body = some (Tryz.f45.body.getD .skip) := rfl

/-! Shapes of data. -/
inductive Sh where
  | int
  | bool
  | str
  | sl (cs : List Sh)

mutual
def IsT : Sh → T → Prop
  | .int, t => ∃ n, t = .val (.int .i64 n)
  | .bool, t => ∃ b, t = .val (.bool b)
  | .str, t => ∃ s, t = .val (.string s)
  | .sl cs, t => ∃ xs, t = .lst cs.length xs ∧ xs.length ≤ maxLen ∧ ∀ x, x ∈ xs → IsTs cs x
def IsTs : List Sh → List T → Prop
  | [], ts => ts = []
  | s :: r, ts => ∃ t q, ts = t :: q ∧ IsT s t ∧ IsTs r q
end

def shapeFs (f : TypeId → Option (List Sh)) : List Field → Option (List Sh)
  | [] => some []
  | x :: r => match f x.type, shapeFs f r with
    | some a, some b => some (a ++ b)
    | _, _ => none

def shapeOf (P : Program) : Nat → TypeId → Option (List Sh)
  | 0, _ => none
  | d + 1, t => match P.underlying t with
    | some .bool => some [.bool]
    | some (.int .i64) => some [.int]
    | some .string => some [.str]
    | some (.slice e) => match shapeOf P d e with
      | some cs => if P.cellsOf e = cs.length then some [.sl cs] else none
      | none => none
    | some (.struct fs) => shapeFs (shapeOf P d) fs.toList
    | _ => none

theorem IsTs.append : ∀ {a b : List Sh} {x y : List T}, IsTs a x → IsTs b y → IsTs (a ++ b) (x ++ y)
  | [], b, x, y, h, k => by simp only [IsTs] at h; subst h; exact k
  | s :: r, b, x, y, h, k => by
    obtain ⟨t, q, rfl, h1, h2⟩ := h
    exact ⟨t, q ++ y, rfl, h1, h2.append k⟩

theorem shape_ok {P : Program} : ∀ {d : Nat} {t : TypeId} {ts : List T} {shs : List Sh}, TT P d t ts → shapeOf P d t = some shs → IsTs shs ts
  | 0, t, ts, shs, h, _ => h.elim
  | d + 1, t, ts, shs, h, hs => by
    have fields : ∀ {fs : List Field} {ts : List T} {shs : List Sh}, TTf (TT P d) fs ts → shapeFs (shapeOf P d) fs = some shs → IsTs shs ts := by
      intro fs
      induction fs with
      | nil =>
        intro ts shs h hs
        simp only [shapeFs, Option.some.injEq] at hs
        subst hs
        simpa [IsTs, TTf] using h
      | cons f r ih =>
        intro ts shs h hs
        obtain ⟨a, b, rfl, h1, h2⟩ := h
        simp only [shapeFs] at hs
        split at hs
        · rename_i x y hx hy
          simp only [Option.some.injEq] at hs
          subst hs
          exact (shape_ok h1 hx).append (ih h2 hy)
        · simp at hs
    simp only [TT] at h
    simp only [shapeOf] at hs
    split at h
    · rename_i hu
      simp only [hu, Option.some.injEq] at hs
      subst hs
      obtain ⟨b, rfl⟩ := h
      exact ⟨_, _, rfl, ⟨b, rfl⟩, rfl⟩
    · rename_i k hu
      obtain ⟨n, rfl, _⟩ := h
      cases k <;> simp only [hu] at hs <;> simp at hs
      subst hs
      exact ⟨_, _, rfl, ⟨n, rfl⟩, rfl⟩
    · rename_i hu
      simp only [hu, Option.some.injEq] at hs
      subst hs
      obtain ⟨s, rfl, _⟩ := h
      exact ⟨_, _, rfl, ⟨s, rfl⟩, rfl⟩
    · rename_i e hu
      simp only [hu] at hs
      obtain ⟨xs, rfl, h1, h2⟩ := h
      split at hs
      · rename_i cs hcs
        split at hs
        · rename_i hlen
          simp only [Option.some.injEq] at hs
          subst hs
          exact ⟨_, _, rfl, ⟨xs, by rw [hlen], h1, fun x hx => shape_ok (h2 x hx) hcs⟩, rfl⟩
        · simp at hs
      · simp at hs
    · rename_i fs hu
      simp only [hu] at hs
      exact fields h hs
    · exact h.elim

/-- The int at a cell. -/
abbrev tI (n : Int) : T := .val (.int .i64 n)
abbrev tB (b : Bool) : T := .val (.bool b)
abbrev oT (t : T) : W := .one (.t t)

def GoodB (ts : List W) : Prop := ∃ b, ts = [oT (tB b)]

theorem goodB {P : Program} {rs : List ResultVar} {tm : TS} {hp : HS} {b : Bool} {t : Nat} (hr : rs = [.tmp t]) (h : find tm t = some (bV b)) : ∃ us ts, resultsOf P hp tm rs = some us ∧ optL (frzWP hp) us = some ts ∧ GoodB ts := by
  subst hr
  exact ⟨[oT (tB b)], [oT (tB b)], by simp only [resultsOf, resultOf, h], rfl, b, rfl⟩

theorem wrap_succ {n m : Nat} (h : n < m) (hm : m ≤ maxLen) : IntKind.i64.wrap ((n : Int) + 1) = ((n + 1 : Nat) : Int) := by
  simp only [maxLen] at hm
  rw [wrap_i64_in (by omega) (by omega)]; rfl

theorem lt_of_dec {k n : Nat} (h : decide ((k : Int) < (n : Int)) = true) : k < n := by simpa using h
theorem ge_of_dec {k n : Nat} (h : decide ((k : Int) < (n : Int)) = false) : n ≤ k := by simp at h; omega
end Go.Abs.Cd
