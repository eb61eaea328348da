import Derived.Test.YtlhffnnmmbannaaGreatCod1
import Derived.Test.YtlhffnnmmbannaaGreatCod2
import Derived.Test.YtlhffnnmmbannaaGreatCod3
import Derived.Test.YtlhffnnmmbannaaGreatCod4
namespace Go.Abs.Cd
open Go Go.Proofs
set_option maxRecDepth 100000
def fnsL : List (Nat × FnR) := [(343, fr343), (82, fr82), (204, fr204), (262, fr262), (308, fr308), (309, fr309), (264, fr264), (205, fr205), (364, fr364), (337, fr337), (296, fr296), (294, fr294), (345, fr345), (170, fr170), (385, fr385), (341, fr341), (265, fr265), (227, fr227), (116, fr116), (368, fr368), (307, fr307), (111, fr111), (371, fr371), (254, fr254), (203, fr203), (168, fr168), (155, fr155), (154, fr154), (108, fr108), (306, fr306), (178, fr178), (72, fr72), (386, fr386), (340, fr340), (333, fr333), (305, fr305), (304, fr304), (292, fr292), (269, fr269), (256, fr256), (216, fr216), (212, fr212), (180, fr180), (174, fr174), (169, fr169), (387, fr387), (153, fr153), (107, fr107), (384, fr384), (369, fr369), (344, fr344), (302, fr302), (301, fr301), (261, fr261), (220, fr220), (217, fr217), (206, fr206), (175, fr175), (156, fr156), (29, fr29), (390, fr390), (370, fr370), (366, fr366), (365, fr365), (335, fr335), (334, fr334), (332, fr332), (295, fr295), (293, fr293), (291, fr291), (255, fr255), (225, fr225), (224, fr224), (181, fr181), (173, fr173), (121, fr121), (68, fr68), (55, fr55), (28, fr28), (395, fr395), (388, fr388), (257, fr257), (213, fr213), (179, fr179), (125, fr125), (109, fr109), (74, fr74), (48, fr48), (33, fr33), (32, fr32), (336, fr336), (266, fr266), (260, fr260), (253, fr253), (252, fr252), (226, fr226), (223, fr223), (221, fr221), (218, fr218), (215, fr215), (198, fr198), (176, fr176), (172, fr172), (171, fr171), (167, fr167), (150, fr150), (149, fr149), (148, fr148), (129, fr129), (128, fr128), (123, fr123), (122, fr122), (119, fr119), (110, fr110), (106, fr106), (104, fr104), (73, fr73), (71, fr71), (57, fr57), (41, fr41), (40, fr40), (39, fr39), (19, fr19), (17, fr17), (14, fr14), (367, fr367), (342, fr342), (331, fr331), (297, fr297), (263, fr263), (251, fr251), (202, fr202), (200, fr200), (199, fr199), (182, fr182), (177, fr177), (152, fr152), (127, fr127), (126, fr126), (124, fr124), (105, fr105), (103, fr103), (91, fr91), (90, fr90), (88, fr88), (87, fr87), (70, fr70), (69, fr69), (67, fr67), (56, fr56), (54, fr54), (47, fr47), (38, fr38), (27, fr27), (16, fr16), (13, fr13)]
abbrev fns : Nat → Option FnR := find fnsL
theorem fns_ok : FnsOk Tryz.prog fns := fnsOk_of (show AllOk Tryz.prog fnsL from ⟨fk343, fk82, fk204, fk262, fk308, fk309, fk264, fk205, fk364, fk337, fk296, fk294, fk345, fk170, fk385, fk341, fk265, fk227, fk116, fk368, fk307, fk111, fk371, fk254, fk203, fk168, fk155, fk154, fk108, fk306, fk178, fk72, fk386, fk340, fk333, fk305, fk304, fk292, fk269, fk256, fk216, fk212, fk180, fk174, fk169, fk387, fk153, fk107, fk384, fk369, fk344, fk302, fk301, fk261, fk220, fk217, fk206, fk175, fk156, fk29, fk390, fk370, fk366, fk365, fk335, fk334, fk332, fk295, fk293, fk291, fk255, fk225, fk224, fk181, fk173, fk121, fk68, fk55, fk28, fk395, fk388, fk257, fk213, fk179, fk125, fk109, fk74, fk48, fk33, fk32, fk336, fk266, fk260, fk253, fk252, fk226, fk223, fk221, fk218, fk215, fk198, fk176, fk172, fk171, fk167, fk150, fk149, fk148, fk129, fk128, fk123, fk122, fk119, fk110, fk106, fk104, fk73, fk71, fk57, fk41, fk40, fk39, fk19, fk17, fk14, fk367, fk342, fk331, fk297, fk263, fk251, fk202, fk200, fk199, fk182, fk177, fk152, fk127, fk126, fk124, fk105, fk103, fk91, fk90, fk88, fk87, fk70, fk69, fk67, fk56, fk54, fk47, fk38, fk27, fk16, fk13, trivial⟩)
def l0 : List (Nat × List W × V) := []
theorem k0 : TabOk Tryz.prog (tabOf l0) := tab_nil
-- cmp.Compare[int]
def a1 : List W := [.one (.t (i 0)), .one (.t (i 0))]
def v1 : V := .w (.one (.t (i 0)))
theorem r1 : Fn Tryz.prog 82 a1 [] v1 [] ∧ v1.isT = true := fn_of_E (fuel := 10000) (d := 60) fns_ok k0 (show fns 82 = some fr82 from rfl) (by kernel_rfl)
def l1 : List (Nat × List W × V) := (82, a1, v1) :: l0
theorem k1 : TabOk Tryz.prog (tabOf l1) := tab_cons k0 r1
-- garment/integer.signed
def a2 : List W := [.one (.t (bo false)), .one (.t (.lst 1 []))]
def v2 : V := .w (.agg [.t (bo false), .t (.lst 1 [])])
theorem r2 : Fn Tryz.prog 308 a2 [] v2 [] ∧ v2.isT = true := fn_of_E (fuel := 10000) (d := 60) fns_ok k1 (show fns 308 = some fr308 from rfl) (by kernel_rfl)
def l2 : List (Nat × List W × V) := (308, a2, v2) :: l1
theorem k2 : TabOk Tryz.prog (tabOf l2) := tab_cons k1 r2
-- garment/ratio.Cmp
def a3 : List W := [.agg [.t (bo false), .t (nl), .t (nl)], .agg [.t (bo false), .t (nl), .t (nl)]]
def v3 : V := .w (.one (.t (i 0)))
theorem r3 : Fn Tryz.prog 220 a3 [] v3 [] ∧ v3.isT = true := fn_of_E (fuel := 10000) (d := 60) fns_ok k2 (show fns 220 = some fr220 from rfl) (by kernel_rfl)
def l3 : List (Nat × List W × V) := (220, a3, v3) :: l2
theorem k3 : TabOk Tryz.prog (tabOf l3) := tab_cons k2 r3
-- cmp.Compare[int]
def a4 : List W := [.one (.t (i 100)), .one (.t (i 0))]
def v4 : V := .w (.one (.t (i 1)))
theorem r4 : Fn Tryz.prog 82 a4 [] v4 [] ∧ v4.isT = true := fn_of_E (fuel := 10000) (d := 60) fns_ok k3 (show fns 82 = some fr82 from rfl) (by kernel_rfl)
def l4 : List (Nat × List W × V) := (82, a4, v4) :: l3
theorem k4 : TabOk Tryz.prog (tabOf l4) := tab_cons k3 r4
-- garment/polygon.Check
def a5 : List W := [.one (.t (.lst 2 [[i 0, i 0], [i 10, i 0], [i 10, i 10], [i 0, i 10]]))]
def v5 : V := .w (.one (.t (i 0)))
theorem r5 : Fn Tryz.prog 72 a5 [] v5 [] ∧ v5.isT = true := fn_of_E (fuel := 10000) (d := 60) fns_ok k4 (show fns 72 = some fr72 from rfl) (by kernel_rfl)
def l5 : List (Nat × List W × V) := (72, a5, v5) :: l4
theorem k5 : TabOk Tryz.prog (tabOf l5) := tab_cons k4 r5
-- garment/outline.Check
def a6 : List W := [.one (.t (.lst 2 [[.val (.string ⟨#[108, 111, 119]⟩), .lst 2 [[i 0, i 0], [i 10, i 0]]], [.val (.string ⟨#[114, 105, 103, 104, 116]⟩), .lst 2 [[i 10, i 0], [i 10, i 10]]], [.val (.string ⟨#[104, 105, 103, 104]⟩), .lst 2 [[i 10, i 10], [i 0, i 10]]], [.val (.string ⟨#[108, 101, 102, 116]⟩), .lst 2 [[i 0, i 10], [i 0, i 0]]]]))]
def v6 : V := .w (.one (.t (i 0)))
theorem r6 : Fn Tryz.prog 179 a6 [] v6 [] ∧ v6.isT = true := fn_of_E (fuel := 10000) (d := 60) fns_ok k5 (show fns 179 = some fr179 from rfl) (by kernel_rfl)
def l6 : List (Nat × List W × V) := (179, a6, v6) :: l5
theorem k6 : TabOk Tryz.prog (tabOf l6) := tab_cons k5 r6
-- garment/grade.Graded
def a7 : List W := [.agg [.t (.val (.string ⟨#[102, 114, 111, 110, 116]⟩)), .t (.lst 2 [[.val (.string ⟨#[108, 111, 119]⟩), .lst 2 [[i 0, i 0], [i 10, i 0]]], [.val (.string ⟨#[114, 105, 103, 104, 116]⟩), .lst 2 [[i 10, i 0], [i 10, i 10]]], [.val (.string ⟨#[104, 105, 103, 104]⟩), .lst 2 [[i 10, i 10], [i 0, i 10]]], [.val (.string ⟨#[108, 101, 102, 116]⟩), .lst 2 [[i 0, i 10], [i 0, i 0]]]]), .t (i 1), .t (nl), .t (.lst 2 [[i 0, i 0], [i 1, i 0], [i 1, i 0], [i 0, i 0]]), .t (.lst 1 [[i 0], [i 0], [i 0], [i 0]]), .t (bo false)], .one (.t (i 0))]
def v7 : V := .tup [.one (.t (.lst 2 [[.val (.string ⟨#[108, 111, 119]⟩), .lst 2 [[i 0, i 0], [i 10, i 0]]], [.val (.string ⟨#[114, 105, 103, 104, 116]⟩), .lst 2 [[i 10, i 0], [i 10, i 10]]], [.val (.string ⟨#[104, 105, 103, 104]⟩), .lst 2 [[i 10, i 10], [i 0, i 10]]], [.val (.string ⟨#[108, 101, 102, 116]⟩), .lst 2 [[i 0, i 10], [i 0, i 0]]]])), .one (.t (i 0))]
theorem r7 : Fn Tryz.prog 125 a7 [] v7 [] ∧ v7.isT = true := fn_of_E (fuel := 10000) (d := 60) fns_ok k6 (show fns 125 = some fr125 from rfl) (by kernel_rfl)
def l7 : List (Nat × List W × V) := (125, a7, v7) :: l6
theorem k7 : TabOk Tryz.prog (tabOf l7) := tab_cons k6 r7
-- garment/style.Check
def a8 : List W := [.agg [.t (.val (.string ⟨#[115, 104, 105, 114, 116]⟩)), .t (.lst 1 [[.val (.string ⟨#[83]⟩)], [.val (.string ⟨#[77]⟩)]]), .t (.lst 1 [[i 0], [i 2]]), .t (.lst 7 [[.val (.string ⟨#[102, 114, 111, 110, 116]⟩), .lst 2 [[.val (.string ⟨#[108, 111, 119]⟩), .lst 2 [[i 0, i 0], [i 10, i 0]]], [.val (.string ⟨#[114, 105, 103, 104, 116]⟩), .lst 2 [[i 10, i 0], [i 10, i 10]]], [.val (.string ⟨#[104, 105, 103, 104]⟩), .lst 2 [[i 10, i 10], [i 0, i 10]]], [.val (.string ⟨#[108, 101, 102, 116]⟩), .lst 2 [[i 0, i 10], [i 0, i 0]]]], i 1, nl, .lst 2 [[i 0, i 0], [i 1, i 0], [i 1, i 0], [i 0, i 0]], .lst 1 [[i 0], [i 0], [i 0], [i 0]], bo false]]), .t (.lst 3 [[i 0, i 2, bo true]]), .t (nl), .t (.lst 5 [[.val (.string ⟨#[106, 111, 105, 110]⟩), i 0, i 100, nl, .lst 1 [[i 0]]]])]]
def v8 : V := .w (.one (.t (i 0)))
theorem r8 : Fn Tryz.prog 55 a8 [] v8 [] ∧ v8.isT = true := fn_of_E (fuel := 10000) (d := 60) fns_ok k7 (show fns 55 = some fr55 from rfl) (by kernel_rfl)
def l8 : List (Nat × List W × V) := (55, a8, v8) :: l7
theorem k8 : TabOk Tryz.prog (tabOf l8) := tab_cons k7 r8
-- garment/operation.Check
def a9 : List W := [.agg [.t (.val (.string ⟨#[115, 104, 105, 114, 116]⟩)), .t (.lst 1 [[.val (.string ⟨#[83]⟩)], [.val (.string ⟨#[77]⟩)]]), .t (.lst 1 [[i 0], [i 2]]), .t (.lst 7 [[.val (.string ⟨#[102, 114, 111, 110, 116]⟩), .lst 2 [[.val (.string ⟨#[108, 111, 119]⟩), .lst 2 [[i 0, i 0], [i 10, i 0]]], [.val (.string ⟨#[114, 105, 103, 104, 116]⟩), .lst 2 [[i 10, i 0], [i 10, i 10]]], [.val (.string ⟨#[104, 105, 103, 104]⟩), .lst 2 [[i 10, i 10], [i 0, i 10]]], [.val (.string ⟨#[108, 101, 102, 116]⟩), .lst 2 [[i 0, i 10], [i 0, i 0]]]], i 1, nl, .lst 2 [[i 0, i 0], [i 1, i 0], [i 1, i 0], [i 0, i 0]], .lst 1 [[i 0], [i 0], [i 0], [i 0]], bo false]]), .t (.lst 3 [[i 0, i 2, bo true]]), .t (nl), .t (.lst 5 [[.val (.string ⟨#[106, 111, 105, 110]⟩), i 0, i 100, nl, .lst 1 [[i 0]]]])]]
def v9 : V := .w (.one (.t (i 0)))
theorem r9 : Fn Tryz.prog 39 a9 [] v9 [] ∧ v9.isT = true := fn_of_E (fuel := 10000) (d := 60) fns_ok k8 (show fns 39 = some fr39 from rfl) (by kernel_rfl)
def l9 : List (Nat × List W × V) := (39, a9, v9) :: l8
theorem k9 : TabOk Tryz.prog (tabOf l9) := tab_cons k8 r9
-- garment/polygon.area
def a10 : List W := [.one (.t (.lst 2 [[i 0, i 0], [i 10, i 0], [i 10, i 10], [i 0, i 10]]))]
def v10 : V := .w (.one (.t (i 200)))
theorem r10 : Fn Tryz.prog 213 a10 [] v10 [] ∧ v10.isT = true := fn_of_E (fuel := 10000) (d := 60) fns_ok k9 (show fns 213 = some fr213 from rfl) (by kernel_rfl)
def l10 : List (Nat × List W × V) := (213, a10, v10) :: l9
theorem k10 : TabOk Tryz.prog (tabOf l10) := tab_cons k9 r10
-- garment/natural.DivMod
def a11 : List W := [.one (.t (.lst 1 [[u 1]])), .one (.t (.lst 1 [[u 1]]))]
def v11 : V := .tup [.one (.t (.lst 1 [[u 1]])), .one (.t (.lst 1 [])), .one (.t (bo true))]
theorem r11 : Fn Tryz.prog 385 a11 [] v11 [] ∧ v11.isT = true := fn_of_E (fuel := 10000) (d := 60) fns_ok k10 (show fns 385 = some fr385 from rfl) (by kernel_rfl)
def l11 : List (Nat × List W × V) := (385, a11, v11) :: l10
theorem k11 : TabOk Tryz.prog (tabOf l11) := tab_cons k10 r11
-- garment/ratio.reduce
def a12 : List W := [.agg [.t (bo false), .t (.lst 1 [])], .one (.t (.lst 1 [[u 1]]))]
def v12 : V := .w (.agg [.t (bo false), .t (.lst 1 []), .t (.lst 1 [[u 1]])])
theorem r12 : Fn Tryz.prog 364 a12 [] v12 [] ∧ v12.isT = true := fn_of_E (fuel := 10000) (d := 60) fns_ok k11 (show fns 364 = some fr364 from rfl) (by kernel_rfl)
def l12 : List (Nat × List W × V) := (364, a12, v12) :: l11
theorem k12 : TabOk Tryz.prog (tabOf l12) := tab_cons k11 r12
-- garment/ratio.Of
def a13 : List W := [.one (.t (i 0)), .one (.t (i 1))]
def v13 : V := .tup [.agg [.t (bo false), .t (.lst 1 []), .t (.lst 1 [[u 1]])], .one (.t (bo true))]
theorem r13 : Fn Tryz.prog 340 a13 [] v13 [] ∧ v13.isT = true := fn_of_E (fuel := 10000) (d := 60) fns_ok k12 (show fns 340 = some fr340 from rfl) (by kernel_rfl)
def l13 : List (Nat × List W × V) := (340, a13, v13) :: l12
theorem k13 : TabOk Tryz.prog (tabOf l13) := tab_cons k12 r13
-- garment/natural.DivMod
def a14 : List W := [.one (.t (.lst 1 [[u 10]])), .one (.t (.lst 1 [[u 1]]))]
def v14 : V := .tup [.one (.t (.lst 1 [[u 10]])), .one (.t (.lst 1 [])), .one (.t (bo true))]
theorem r14 : Fn Tryz.prog 385 a14 [] v14 [] ∧ v14.isT = true := fn_of_E (fuel := 10000) (d := 60) fns_ok k13 (show fns 385 = some fr385 from rfl) (by kernel_rfl)
def l14 : List (Nat × List W × V) := (385, a14, v14) :: l13
theorem k14 : TabOk Tryz.prog (tabOf l14) := tab_cons k13 r14
-- garment/ratio.reduce
def a15 : List W := [.agg [.t (bo false), .t (.lst 1 [[u 10]])], .one (.t (.lst 1 [[u 1]]))]
def v15 : V := .w (.agg [.t (bo false), .t (.lst 1 [[u 10]]), .t (.lst 1 [[u 1]])])
theorem r15 : Fn Tryz.prog 364 a15 [] v15 [] ∧ v15.isT = true := fn_of_E (fuel := 10000) (d := 60) fns_ok k14 (show fns 364 = some fr364 from rfl) (by kernel_rfl)
def l15 : List (Nat × List W × V) := (364, a15, v15) :: l14
theorem k15 : TabOk Tryz.prog (tabOf l15) := tab_cons k14 r15
-- garment/ratio.Of
def a16 : List W := [.one (.t (i 10)), .one (.t (i 1))]
def v16 : V := .tup [.agg [.t (bo false), .t (.lst 1 [[u 10]]), .t (.lst 1 [[u 1]])], .one (.t (bo true))]
theorem r16 : Fn Tryz.prog 340 a16 [] v16 [] ∧ v16.isT = true := fn_of_E (fuel := 10000) (d := 60) fns_ok k15 (show fns 340 = some fr340 from rfl) (by kernel_rfl)
def l16 : List (Nat × List W × V) := (340, a16, v16) :: l15
theorem k16 : TabOk Tryz.prog (tabOf l16) := tab_cons k15 r16
-- garment/allowance.exact
def a17 : List W := [.agg [.t (i 0), .t (i 10)]]
def v17 : V := .w (.agg [.t (bo false), .t (.lst 1 []), .t (.lst 1 [[u 1]]), .t (bo false), .t (.lst 1 [[u 10]]), .t (.lst 1 [[u 1]])])
theorem r17 : Fn Tryz.prog 294 a17 [] v17 [] ∧ v17.isT = true := fn_of_E (fuel := 10000) (d := 60) fns_ok k16 (show fns 294 = some fr294 from rfl) (by kernel_rfl)
def l17 : List (Nat × List W × V) := (294, a17, v17) :: l16
theorem k17 : TabOk Tryz.prog (tabOf l17) := tab_cons k16 r17
-- garment/allowance.exact
def a18 : List W := [.agg [.t (i 0), .t (i 0)]]
def v18 : V := .w (.agg [.t (bo false), .t (.lst 1 []), .t (.lst 1 [[u 1]]), .t (bo false), .t (.lst 1 []), .t (.lst 1 [[u 1]])])
theorem r18 : Fn Tryz.prog 294 a18 [] v18 [] ∧ v18.isT = true := fn_of_E (fuel := 10000) (d := 60) fns_ok k17 (show fns 294 = some fr294 from rfl) (by kernel_rfl)
def l18 : List (Nat × List W × V) := (294, a18, v18) :: l17
theorem k18 : TabOk Tryz.prog (tabOf l18) := tab_cons k17 r18
-- garment/allowance.exact
def a19 : List W := [.agg [.t (i 10), .t (i 0)]]
def v19 : V := .w (.agg [.t (bo false), .t (.lst 1 [[u 10]]), .t (.lst 1 [[u 1]]), .t (bo false), .t (.lst 1 []), .t (.lst 1 [[u 1]])])
theorem r19 : Fn Tryz.prog 294 a19 [] v19 [] ∧ v19.isT = true := fn_of_E (fuel := 10000) (d := 60) fns_ok k18 (show fns 294 = some fr294 from rfl) (by kernel_rfl)
def l19 : List (Nat × List W × V) := (294, a19, v19) :: l18
theorem k19 : TabOk Tryz.prog (tabOf l19) := tab_cons k18 r19
-- garment/ratio.zero
def a20 : List W := [.one (.t (.lst 1 [[u 1]]))]
def v20 : V := .w (.one (.t (bo false)))
theorem r20 : Fn Tryz.prog 304 a20 [] v20 [] ∧ v20.isT = true := fn_of_E (fuel := 10000) (d := 60) fns_ok k19 (show fns 304 = some fr304 from rfl) (by kernel_rfl)
def l20 : List (Nat × List W × V) := (304, a20, v20) :: l19
theorem k20 : TabOk Tryz.prog (tabOf l20) := tab_cons k19 r20
-- garment/ratio.value
def a21 : List W := [.agg [.t (bo false), .t (.lst 1 []), .t (.lst 1 [[u 1]])]]
def v21 : V := .w (.agg [.t (bo false), .t (.lst 1 []), .t (.lst 1 [[u 1]])])
theorem r21 : Fn Tryz.prog 262 a21 [] v21 [] ∧ v21.isT = true := fn_of_E (fuel := 10000) (d := 60) fns_ok k20 (show fns 262 = some fr262 from rfl) (by kernel_rfl)
def l21 : List (Nat × List W × V) := (262, a21, v21) :: l20
theorem k21 : TabOk Tryz.prog (tabOf l21) := tab_cons k20 r21
-- garment/ratio.value
def a22 : List W := [.agg [.t (bo false), .t (.lst 1 [[u 10]]), .t (.lst 1 [[u 1]])]]
def v22 : V := .w (.agg [.t (bo false), .t (.lst 1 [[u 10]]), .t (.lst 1 [[u 1]])])
theorem r22 : Fn Tryz.prog 262 a22 [] v22 [] ∧ v22.isT = true := fn_of_E (fuel := 10000) (d := 60) fns_ok k21 (show fns 262 = some fr262 from rfl) (by kernel_rfl)
def l22 : List (Nat × List W × V) := (262, a22, v22) :: l21
theorem k22 : TabOk Tryz.prog (tabOf l22) := tab_cons k21 r22
-- garment/integer.Mul
def a23 : List W := [.agg [.t (bo false), .t (.lst 1 [[u 10]])], .agg [.t (bo false), .t (.lst 1 [[u 1]])]]
def v23 : V := .w (.agg [.t (bo false), .t (.lst 1 [[u 10]])])
theorem r23 : Fn Tryz.prog 264 a23 [] v23 [] ∧ v23.isT = true := fn_of_E (fuel := 10000) (d := 60) fns_ok k22 (show fns 264 = some fr264 from rfl) (by kernel_rfl)
def l23 : List (Nat × List W × V) := (264, a23, v23) :: l22
theorem k23 : TabOk Tryz.prog (tabOf l23) := tab_cons k22 r23
-- garment/integer.Mul
def a24 : List W := [.agg [.t (bo false), .t (.lst 1 [])], .agg [.t (bo false), .t (.lst 1 [[u 1]])]]
def v24 : V := .w (.agg [.t (bo false), .t (.lst 1 [])])
theorem r24 : Fn Tryz.prog 264 a24 [] v24 [] ∧ v24.isT = true := fn_of_E (fuel := 10000) (d := 60) fns_ok k23 (show fns 264 = some fr264 from rfl) (by kernel_rfl)
def l24 : List (Nat × List W × V) := (264, a24, v24) :: l23
theorem k24 : TabOk Tryz.prog (tabOf l24) := tab_cons k23 r24
-- garment/natural.Mul
def a25 : List W := [.one (.t (.lst 1 [[u 1]])), .one (.t (.lst 1 [[u 1]]))]
def v25 : V := .w (.one (.t (.lst 1 [[u 1]])))
theorem r25 : Fn Tryz.prog 309 a25 [] v25 [] ∧ v25.isT = true := fn_of_E (fuel := 10000) (d := 60) fns_ok k24 (show fns 309 = some fr309 from rfl) (by kernel_rfl)
def l25 : List (Nat × List W × V) := (309, a25, v25) :: l24
theorem k25 : TabOk Tryz.prog (tabOf l25) := tab_cons k24 r25
-- garment/ratio.Add
def a26 : List W := [.agg [.t (bo false), .t (.lst 1 [[u 10]]), .t (.lst 1 [[u 1]])], .agg [.t (bo false), .t (.lst 1 []), .t (.lst 1 [[u 1]])]]
def v26 : V := .w (.agg [.t (bo false), .t (.lst 1 [[u 10]]), .t (.lst 1 [[u 1]])])
theorem r26 : Fn Tryz.prog 368 a26 [] v26 [] ∧ v26.isT = true := fn_of_E (fuel := 10000) (d := 60) fns_ok k25 (show fns 368 = some fr368 from rfl) (by kernel_rfl)
def l26 : List (Nat × List W × V) := (368, a26, v26) :: l25
theorem k26 : TabOk Tryz.prog (tabOf l26) := tab_cons k25 r26
-- garment/ratio.Add
def a27 : List W := [.agg [.t (bo false), .t (.lst 1 []), .t (.lst 1 [[u 1]])], .agg [.t (bo false), .t (.lst 1 []), .t (.lst 1 [[u 1]])]]
def v27 : V := .w (.agg [.t (bo false), .t (.lst 1 []), .t (.lst 1 [[u 1]])])
theorem r27 : Fn Tryz.prog 368 a27 [] v27 [] ∧ v27.isT = true := fn_of_E (fuel := 10000) (d := 60) fns_ok k26 (show fns 368 = some fr368 from rfl) (by kernel_rfl)
def l27 : List (Nat × List W × V) := (368, a27, v27) :: l26
theorem k27 : TabOk Tryz.prog (tabOf l27) := tab_cons k26 r27
-- garment/ratio.Sub
def a28 : List W := [.agg [.t (bo false), .t (.lst 1 []), .t (.lst 1 [[u 1]])], .agg [.t (bo false), .t (.lst 1 []), .t (.lst 1 [[u 1]])]]
def v28 : V := .w (.agg [.t (bo false), .t (.lst 1 []), .t (.lst 1 [[u 1]])])
theorem r28 : Fn Tryz.prog 337 a28 [] v28 [] ∧ v28.isT = true := fn_of_E (fuel := 10000) (d := 60) fns_ok k27 (show fns 337 = some fr337 from rfl) (by kernel_rfl)
def l28 : List (Nat × List W × V) := (337, a28, v28) :: l27
theorem k28 : TabOk Tryz.prog (tabOf l28) := tab_cons k27 r28
-- garment/point.Sub
def a29 : List W := [.agg [.t (bo false), .t (.lst 1 [[u 10]]), .t (.lst 1 [[u 1]]), .t (bo false), .t (.lst 1 []), .t (.lst 1 [[u 1]])], .agg [.t (bo false), .t (.lst 1 []), .t (.lst 1 [[u 1]]), .t (bo false), .t (.lst 1 []), .t (.lst 1 [[u 1]])]]
def v29 : V := .w (.agg [.t (bo false), .t (.lst 1 [[u 10]]), .t (.lst 1 [[u 1]]), .t (bo false), .t (.lst 1 []), .t (.lst 1 [[u 1]])])
theorem r29 : Fn Tryz.prog 296 a29 [] v29 [] ∧ v29.isT = true := fn_of_E (fuel := 10000) (d := 60) fns_ok k28 (show fns 296 = some fr296 from rfl) (by kernel_rfl)
def l29 : List (Nat × List W × V) := (296, a29, v29) :: l28
theorem k29 : TabOk Tryz.prog (tabOf l29) := tab_cons k28 r29
-- garment/ratio.reduce
def a30 : List W := [.agg [.t (bo true), .t (.lst 1 [[u 10]])], .one (.t (.lst 1 [[u 1]]))]
def v30 : V := .w (.agg [.t (bo true), .t (.lst 1 [[u 10]]), .t (.lst 1 [[u 1]])])
theorem r30 : Fn Tryz.prog 364 a30 [] v30 [] ∧ v30.isT = true := fn_of_E (fuel := 10000) (d := 60) fns_ok k29 (show fns 364 = some fr364 from rfl) (by kernel_rfl)
def l30 : List (Nat × List W × V) := (364, a30, v30) :: l29
theorem k30 : TabOk Tryz.prog (tabOf l30) := tab_cons k29 r30
-- garment/ratio.value
def a31 : List W := [.agg [.t (bo true), .t (.lst 1 [[u 10]]), .t (.lst 1 [[u 1]])]]
def v31 : V := .w (.agg [.t (bo true), .t (.lst 1 [[u 10]]), .t (.lst 1 [[u 1]])])
theorem r31 : Fn Tryz.prog 262 a31 [] v31 [] ∧ v31.isT = true := fn_of_E (fuel := 10000) (d := 60) fns_ok k30 (show fns 262 = some fr262 from rfl) (by kernel_rfl)
def l31 : List (Nat × List W × V) := (262, a31, v31) :: l30
theorem k31 : TabOk Tryz.prog (tabOf l31) := tab_cons k30 r31
-- garment/integer.Mul
def a32 : List W := [.agg [.t (bo true), .t (.lst 1 [[u 10]])], .agg [.t (bo false), .t (.lst 1 [[u 1]])]]
def v32 : V := .w (.agg [.t (bo true), .t (.lst 1 [[u 10]])])
theorem r32 : Fn Tryz.prog 264 a32 [] v32 [] ∧ v32.isT = true := fn_of_E (fuel := 10000) (d := 60) fns_ok k31 (show fns 264 = some fr264 from rfl) (by kernel_rfl)
def l32 : List (Nat × List W × V) := (264, a32, v32) :: l31
theorem k32 : TabOk Tryz.prog (tabOf l32) := tab_cons k31 r32
-- garment/ratio.Sub
def a33 : List W := [.agg [.t (bo false), .t (.lst 1 []), .t (.lst 1 [[u 1]])], .agg [.t (bo false), .t (.lst 1 [[u 10]]), .t (.lst 1 [[u 1]])]]
def v33 : V := .w (.agg [.t (bo true), .t (.lst 1 [[u 10]]), .t (.lst 1 [[u 1]])])
theorem r33 : Fn Tryz.prog 337 a33 [] v33 [] ∧ v33.isT = true := fn_of_E (fuel := 10000) (d := 60) fns_ok k32 (show fns 337 = some fr337 from rfl) (by kernel_rfl)
def l33 : List (Nat × List W × V) := (337, a33, v33) :: l32
theorem k33 : TabOk Tryz.prog (tabOf l33) := tab_cons k32 r33
-- garment/point.Sub
def a34 : List W := [.agg [.t (bo false), .t (.lst 1 []), .t (.lst 1 [[u 1]]), .t (bo false), .t (.lst 1 []), .t (.lst 1 [[u 1]])], .agg [.t (bo false), .t (.lst 1 []), .t (.lst 1 [[u 1]]), .t (bo false), .t (.lst 1 [[u 10]]), .t (.lst 1 [[u 1]])]]
def v34 : V := .w (.agg [.t (bo false), .t (.lst 1 []), .t (.lst 1 [[u 1]]), .t (bo true), .t (.lst 1 [[u 10]]), .t (.lst 1 [[u 1]])])
theorem r34 : Fn Tryz.prog 296 a34 [] v34 [] ∧ v34.isT = true := fn_of_E (fuel := 10000) (d := 60) fns_ok k33 (show fns 296 = some fr296 from rfl) (by kernel_rfl)
def l34 : List (Nat × List W × V) := (296, a34, v34) :: l33
theorem k34 : TabOk Tryz.prog (tabOf l34) := tab_cons k33 r34
-- garment/ratio.Mul
def a35 : List W := [.agg [.t (bo false), .t (.lst 1 []), .t (.lst 1 [[u 1]])], .agg [.t (bo false), .t (.lst 1 []), .t (.lst 1 [[u 1]])]]
def v35 : V := .w (.agg [.t (bo false), .t (.lst 1 []), .t (.lst 1 [[u 1]])])
theorem r35 : Fn Tryz.prog 341 a35 [] v35 [] ∧ v35.isT = true := fn_of_E (fuel := 10000) (d := 60) fns_ok k34 (show fns 341 = some fr341 from rfl) (by kernel_rfl)
def l35 : List (Nat × List W × V) := (341, a35, v35) :: l34
theorem k35 : TabOk Tryz.prog (tabOf l35) := tab_cons k34 r35
-- garment/natural.Mul
def a36 : List W := [.one (.t (.lst 1 [[u 10]])), .one (.t (.lst 1 [[u 10]]))]
def v36 : V := .w (.one (.t (.lst 1 [[u 100]])))
theorem r36 : Fn Tryz.prog 309 a36 [] v36 [] ∧ v36.isT = true := fn_of_E (fuel := 10000) (d := 60) fns_ok k35 (show fns 309 = some fr309 from rfl) (by kernel_rfl)
def l36 : List (Nat × List W × V) := (309, a36, v36) :: l35
theorem k36 : TabOk Tryz.prog (tabOf l36) := tab_cons k35 r36
-- garment/natural.DivMod
def a37 : List W := [.one (.t (.lst 1 [[u 100]])), .one (.t (.lst 1 [[u 1]]))]
def v37 : V := .tup [.one (.t (.lst 1 [[u 100]])), .one (.t (.lst 1 [])), .one (.t (bo true))]
theorem r37 : Fn Tryz.prog 385 a37 [] v37 [] ∧ v37.isT = true := fn_of_E (fuel := 10000) (d := 60) fns_ok k36 (show fns 385 = some fr385 from rfl) (by kernel_rfl)
def l37 : List (Nat × List W × V) := (385, a37, v37) :: l36
theorem k37 : TabOk Tryz.prog (tabOf l37) := tab_cons k36 r37
-- garment/ratio.reduce
def a38 : List W := [.agg [.t (bo true), .t (.lst 1 [[u 100]])], .one (.t (.lst 1 [[u 1]]))]
def v38 : V := .w (.agg [.t (bo true), .t (.lst 1 [[u 100]]), .t (.lst 1 [[u 1]])])
theorem r38 : Fn Tryz.prog 364 a38 [] v38 [] ∧ v38.isT = true := fn_of_E (fuel := 10000) (d := 60) fns_ok k37 (show fns 364 = some fr364 from rfl) (by kernel_rfl)
def l38 : List (Nat × List W × V) := (364, a38, v38) :: l37
theorem k38 : TabOk Tryz.prog (tabOf l38) := tab_cons k37 r38
-- garment/integer.signed
def a39 : List W := [.one (.t (bo false)), .one (.t (.lst 1 [[u 100]]))]
def v39 : V := .w (.agg [.t (bo false), .t (.lst 1 [[u 100]])])
theorem r39 : Fn Tryz.prog 308 a39 [] v39 [] ∧ v39.isT = true := fn_of_E (fuel := 10000) (d := 60) fns_ok k38 (show fns 308 = some fr308 from rfl) (by kernel_rfl)
def l39 : List (Nat × List W × V) := (308, a39, v39) :: l38
theorem k39 : TabOk Tryz.prog (tabOf l39) := tab_cons k38 r39
-- garment/ratio.reduce
def a40 : List W := [.agg [.t (bo false), .t (.lst 1 [[u 100]])], .one (.t (.lst 1 [[u 1]]))]
def v40 : V := .w (.agg [.t (bo false), .t (.lst 1 [[u 100]]), .t (.lst 1 [[u 1]])])
theorem r40 : Fn Tryz.prog 364 a40 [] v40 [] ∧ v40.isT = true := fn_of_E (fuel := 10000) (d := 60) fns_ok k39 (show fns 364 = some fr364 from rfl) (by kernel_rfl)
def l40 : List (Nat × List W × V) := (364, a40, v40) :: l39
theorem k40 : TabOk Tryz.prog (tabOf l40) := tab_cons k39 r40
-- garment/ratio.Sub
def a41 : List W := [.agg [.t (bo false), .t (.lst 1 []), .t (.lst 1 [[u 1]])], .agg [.t (bo true), .t (.lst 1 [[u 100]]), .t (.lst 1 [[u 1]])]]
def v41 : V := .w (.agg [.t (bo false), .t (.lst 1 [[u 100]]), .t (.lst 1 [[u 1]])])
theorem r41 : Fn Tryz.prog 337 a41 [] v41 [] ∧ v41.isT = true := fn_of_E (fuel := 10000) (d := 60) fns_ok k40 (show fns 337 = some fr337 from rfl) (by kernel_rfl)
def l41 : List (Nat × List W × V) := (337, a41, v41) :: l40
theorem k41 : TabOk Tryz.prog (tabOf l41) := tab_cons k40 r41
-- garment/natural.DivMod
def a42 : List W := [.one (.t (.lst 1 [[u 100]])), .one (.t (.lst 1 [[u 100]]))]
def v42 : V := .tup [.one (.t (.lst 1 [[u 1]])), .one (.t (.lst 1 [])), .one (.t (bo true))]
theorem r42 : Fn Tryz.prog 385 a42 [] v42 [] ∧ v42.isT = true := fn_of_E (fuel := 10000) (d := 60) fns_ok k41 (show fns 385 = some fr385 from rfl) (by kernel_rfl)
def l42 : List (Nat × List W × V) := (385, a42, v42) :: l41
theorem k42 : TabOk Tryz.prog (tabOf l42) := tab_cons k41 r42
-- garment/ratio.Div
def a43 : List W := [.agg [.t (bo false), .t (.lst 1 [[u 100]]), .t (.lst 1 [[u 1]])], .agg [.t (bo false), .t (.lst 1 [[u 100]]), .t (.lst 1 [[u 1]])]]
def v43 : V := .tup [.agg [.t (bo false), .t (.lst 1 [[u 1]]), .t (.lst 1 [[u 1]])], .one (.t (bo true))]
theorem r43 : Fn Tryz.prog 332 a43 [] v43 [] ∧ v43.isT = true := fn_of_E (fuel := 10000) (d := 60) fns_ok k42 (show fns 332 = some fr332 from rfl) (by kernel_rfl)
def l43 : List (Nat × List W × V) := (332, a43, v43) :: l42
theorem k43 : TabOk Tryz.prog (tabOf l43) := tab_cons k42 r43
-- garment/ratio.Add
def a44 : List W := [.agg [.t (bo false), .t (.lst 1 [[u 10]]), .t (.lst 1 [[u 1]])], .agg [.t (bo true), .t (.lst 1 [[u 10]]), .t (.lst 1 [[u 1]])]]
def v44 : V := .w (.agg [.t (bo false), .t (.lst 1 []), .t (.lst 1 [[u 1]])])
theorem r44 : Fn Tryz.prog 368 a44 [] v44 [] ∧ v44.isT = true := fn_of_E (fuel := 10000) (d := 60) fns_ok k43 (show fns 368 = some fr368 from rfl) (by kernel_rfl)
def l44 : List (Nat × List W × V) := (368, a44, v44) :: l43
theorem k44 : TabOk Tryz.prog (tabOf l44) := tab_cons k43 r44
-- garment/point.coordinate
def a45 : List W := [.agg [.t (bo false), .t (.lst 1 []), .t (.lst 1 [[u 1]])]]
def v45 : V := .tup [.one (.t (i 0)), .one (.t (bo true))]
theorem r45 : Fn Tryz.prog 336 a45 [] v45 [] ∧ v45.isT = true := fn_of_E (fuel := 10000) (d := 60) fns_ok k44 (show fns 336 = some fr336 from rfl) (by kernel_rfl)
def l45 : List (Nat × List W × V) := (336, a45, v45) :: l44
theorem k45 : TabOk Tryz.prog (tabOf l45) := tab_cons k44 r45
-- garment/point.Grid
def a46 : List W := [.agg [.t (bo false), .t (.lst 1 []), .t (.lst 1 [[u 1]]), .t (bo false), .t (.lst 1 []), .t (.lst 1 [[u 1]])]]
def v46 : V := .tup [.agg [.t (i 0), .t (i 0)], .one (.t (i 0))]
theorem r46 : Fn Tryz.prog 295 a46 [] v46 [] ∧ v46.isT = true := fn_of_E (fuel := 10000) (d := 60) fns_ok k45 (show fns 295 = some fr295 from rfl) (by kernel_rfl)
def l46 : List (Nat × List W × V) := (295, a46, v46) :: l45
theorem k46 : TabOk Tryz.prog (tabOf l46) := tab_cons k45 r46
-- garment/allowance.exact
def a47 : List W := [.agg [.t (i 10), .t (i 10)]]
def v47 : V := .w (.agg [.t (bo false), .t (.lst 1 [[u 10]]), .t (.lst 1 [[u 1]]), .t (bo false), .t (.lst 1 [[u 10]]), .t (.lst 1 [[u 1]])])
theorem r47 : Fn Tryz.prog 294 a47 [] v47 [] ∧ v47.isT = true := fn_of_E (fuel := 10000) (d := 60) fns_ok k46 (show fns 294 = some fr294 from rfl) (by kernel_rfl)
def l47 : List (Nat × List W × V) := (294, a47, v47) :: l46
theorem k47 : TabOk Tryz.prog (tabOf l47) := tab_cons k46 r47
-- garment/ratio.Sub
def a48 : List W := [.agg [.t (bo false), .t (.lst 1 [[u 10]]), .t (.lst 1 [[u 1]])], .agg [.t (bo false), .t (.lst 1 [[u 10]]), .t (.lst 1 [[u 1]])]]
def v48 : V := .w (.agg [.t (bo false), .t (.lst 1 []), .t (.lst 1 [[u 1]])])
theorem r48 : Fn Tryz.prog 337 a48 [] v48 [] ∧ v48.isT = true := fn_of_E (fuel := 10000) (d := 60) fns_ok k47 (show fns 337 = some fr337 from rfl) (by kernel_rfl)
def l48 : List (Nat × List W × V) := (337, a48, v48) :: l47
theorem k48 : TabOk Tryz.prog (tabOf l48) := tab_cons k47 r48
-- garment/point.Sub
def a49 : List W := [.agg [.t (bo false), .t (.lst 1 [[u 10]]), .t (.lst 1 [[u 1]]), .t (bo false), .t (.lst 1 [[u 10]]), .t (.lst 1 [[u 1]])], .agg [.t (bo false), .t (.lst 1 [[u 10]]), .t (.lst 1 [[u 1]]), .t (bo false), .t (.lst 1 []), .t (.lst 1 [[u 1]])]]
def v49 : V := .w (.agg [.t (bo false), .t (.lst 1 []), .t (.lst 1 [[u 1]]), .t (bo false), .t (.lst 1 [[u 10]]), .t (.lst 1 [[u 1]])])
theorem r49 : Fn Tryz.prog 296 a49 [] v49 [] ∧ v49.isT = true := fn_of_E (fuel := 10000) (d := 60) fns_ok k48 (show fns 296 = some fr296 from rfl) (by kernel_rfl)
def l49 : List (Nat × List W × V) := (296, a49, v49) :: l48
theorem k49 : TabOk Tryz.prog (tabOf l49) := tab_cons k48 r49
-- garment/ratio.Sub
def a50 : List W := [.agg [.t (bo false), .t (.lst 1 [[u 100]]), .t (.lst 1 [[u 1]])], .agg [.t (bo false), .t (.lst 1 []), .t (.lst 1 [[u 1]])]]
def v50 : V := .w (.agg [.t (bo false), .t (.lst 1 [[u 100]]), .t (.lst 1 [[u 1]])])
theorem r50 : Fn Tryz.prog 337 a50 [] v50 [] ∧ v50.isT = true := fn_of_E (fuel := 10000) (d := 60) fns_ok k49 (show fns 337 = some fr337 from rfl) (by kernel_rfl)
def l50 : List (Nat × List W × V) := (337, a50, v50) :: l49
theorem k50 : TabOk Tryz.prog (tabOf l50) := tab_cons k49 r50
-- garment/point.Sub
def a51 : List W := [.agg [.t (bo false), .t (.lst 1 []), .t (.lst 1 [[u 1]]), .t (bo false), .t (.lst 1 [[u 10]]), .t (.lst 1 [[u 1]])], .agg [.t (bo false), .t (.lst 1 [[u 10]]), .t (.lst 1 [[u 1]]), .t (bo false), .t (.lst 1 [[u 10]]), .t (.lst 1 [[u 1]])]]
def v51 : V := .w (.agg [.t (bo true), .t (.lst 1 [[u 10]]), .t (.lst 1 [[u 1]]), .t (bo false), .t (.lst 1 []), .t (.lst 1 [[u 1]])])
theorem r51 : Fn Tryz.prog 296 a51 [] v51 [] ∧ v51.isT = true := fn_of_E (fuel := 10000) (d := 60) fns_ok k50 (show fns 296 = some fr296 from rfl) (by kernel_rfl)
def l51 : List (Nat × List W × V) := (296, a51, v51) :: l50
theorem k51 : TabOk Tryz.prog (tabOf l51) := tab_cons k50 r51
-- garment/style.Cut
def a52 : List W := [.agg [.t (.val (.string ⟨#[115, 104, 105, 114, 116]⟩)), .t (.lst 1 [[.val (.string ⟨#[83]⟩)], [.val (.string ⟨#[77]⟩)]]), .t (.lst 1 [[i 0], [i 2]]), .t (.lst 7 [[.val (.string ⟨#[102, 114, 111, 110, 116]⟩), .lst 2 [[.val (.string ⟨#[108, 111, 119]⟩), .lst 2 [[i 0, i 0], [i 10, i 0]]], [.val (.string ⟨#[114, 105, 103, 104, 116]⟩), .lst 2 [[i 10, i 0], [i 10, i 10]]], [.val (.string ⟨#[104, 105, 103, 104]⟩), .lst 2 [[i 10, i 10], [i 0, i 10]]], [.val (.string ⟨#[108, 101, 102, 116]⟩), .lst 2 [[i 0, i 10], [i 0, i 0]]]], i 1, nl, .lst 2 [[i 0, i 0], [i 1, i 0], [i 1, i 0], [i 0, i 0]], .lst 1 [[i 0], [i 0], [i 0], [i 0]], bo false]]), .t (.lst 3 [[i 0, i 2, bo true]]), .t (nl), .t (.lst 5 [[.val (.string ⟨#[106, 111, 105, 110]⟩), i 0, i 100, nl, .lst 1 [[i 0]]]])], .one (.t (i 0)), .one (.t (i 0))]
def v52 : V := .tup [.one (.t (.lst 2 [[i 0, i 0], [i 10, i 0], [i 10, i 10], [i 0, i 10]])), .one (.t (i 0))]
theorem r52 : Fn Tryz.prog 148 a52 [] v52 [] ∧ v52.isT = true := fn_of_E (fuel := 10000) (d := 60) fns_ok k51 (show fns 148 = some fr148 from rfl) (by kernel_rfl)
def l52 : List (Nat × List W × V) := (148, a52, v52) :: l51
theorem k52 : TabOk Tryz.prog (tabOf l52) := tab_cons k51 r52
-- garment/place.Poly
def a53 : List W := [.one (.t (.lst 5 [[.lst 2 [[i 0, i 0], [i 10, i 0], [i 10, i 10], [i 0, i 10]], i 1, bo false, i 0, i 0], [.lst 2 [[i 0, i 10], [i (-10), i 10], [i (-10), i 0], [i 0, i 0]], i 1, bo false, i 0, i 0]])), .agg [.t (i 0), .t (bo false), .t (i 0), .t (i 0), .t (i 0)]]
def v53 : V := .tup [.one (.t (.lst 2 [[i 0, i 0], [i 10, i 0], [i 10, i 10], [i 0, i 10]])), .one (.t (i 0))]
theorem r53 : Fn Tryz.prog 48 a53 [] v53 [] ∧ v53.isT = true := fn_of_E (fuel := 10000) (d := 60) fns_ok k52 (show fns 48 = some fr48 from rfl) (by kernel_rfl)
def l53 : List (Nat × List W × V) := (48, a53, v53) :: l52
theorem k53 : TabOk Tryz.prog (tabOf l53) := tab_cons k52 r53
-- garment/polygon.Check
def a54 : List W := [.one (.t (.lst 2 [[i 20, i 10], [i 10, i 10], [i 10, i 0], [i 20, i 0]]))]
def v54 : V := .w (.one (.t (i 0)))
theorem r54 : Fn Tryz.prog 72 a54 [] v54 [] ∧ v54.isT = true := fn_of_E (fuel := 10000) (d := 60) fns_ok k53 (show fns 72 = some fr72 from rfl) (by kernel_rfl)
def l54 : List (Nat × List W × V) := (72, a54, v54) :: l53
theorem k54 : TabOk Tryz.prog (tabOf l54) := tab_cons k53 r54
-- garment/marker.Check
def a55 : List W := [.agg [.t (.val (.string ⟨#[115, 104, 105, 114, 116]⟩)), .t (.lst 1 [[.val (.string ⟨#[83]⟩)], [.val (.string ⟨#[77]⟩)]]), .t (.lst 1 [[i 0], [i 2]]), .t (.lst 7 [[.val (.string ⟨#[102, 114, 111, 110, 116]⟩), .lst 2 [[.val (.string ⟨#[108, 111, 119]⟩), .lst 2 [[i 0, i 0], [i 10, i 0]]], [.val (.string ⟨#[114, 105, 103, 104, 116]⟩), .lst 2 [[i 10, i 0], [i 10, i 10]]], [.val (.string ⟨#[104, 105, 103, 104]⟩), .lst 2 [[i 10, i 10], [i 0, i 10]]], [.val (.string ⟨#[108, 101, 102, 116]⟩), .lst 2 [[i 0, i 10], [i 0, i 0]]]], i 1, nl, .lst 2 [[i 0, i 0], [i 1, i 0], [i 1, i 0], [i 0, i 0]], .lst 1 [[i 0], [i 0], [i 0], [i 0]], bo false]]), .t (.lst 3 [[i 0, i 2, bo true]]), .t (nl), .t (.lst 5 [[.val (.string ⟨#[106, 111, 105, 110]⟩), i 0, i 100, nl, .lst 1 [[i 0]]]])], .agg [.t (i 20), .t (i 10), .t (i 0), .t (i 0), .t (.lst 1 [[i 0]]), .t (.lst 7 [[i 0, i 0, i 0, bo false, i 0, i 0, i 0], [i 0, i 0, i 1, bo true, i 0, i 20, i 0]])]]
def v55 : V := .w (.one (.t (i 0)))
theorem r55 : Fn Tryz.prog 40 a55 [] v55 [] ∧ v55.isT = true := fn_of_E (fuel := 10000) (d := 60) fns_ok k54 (show fns 40 = some fr40 from rfl) (by kernel_rfl)
def l55 : List (Nat × List W × V) := (40, a55, v55) :: l54
theorem k55 : TabOk Tryz.prog (tabOf l55) := tab_cons k54 r55
-- garment/assembly.check
def a56 : List W := [.agg [.t (.val (.string ⟨#[115, 104, 105, 114, 116]⟩)), .t (.lst 1 [[.val (.string ⟨#[83]⟩)], [.val (.string ⟨#[77]⟩)]]), .t (.lst 1 [[i 0], [i 2]]), .t (.lst 7 [[.val (.string ⟨#[102, 114, 111, 110, 116]⟩), .lst 2 [[.val (.string ⟨#[108, 111, 119]⟩), .lst 2 [[i 0, i 0], [i 10, i 0]]], [.val (.string ⟨#[114, 105, 103, 104, 116]⟩), .lst 2 [[i 10, i 0], [i 10, i 10]]], [.val (.string ⟨#[104, 105, 103, 104]⟩), .lst 2 [[i 10, i 10], [i 0, i 10]]], [.val (.string ⟨#[108, 101, 102, 116]⟩), .lst 2 [[i 0, i 10], [i 0, i 0]]]], i 1, nl, .lst 2 [[i 0, i 0], [i 1, i 0], [i 1, i 0], [i 0, i 0]], .lst 1 [[i 0], [i 0], [i 0], [i 0]], bo false]]), .t (.lst 3 [[i 0, i 2, bo true]]), .t (nl), .t (.lst 5 [[.val (.string ⟨#[106, 111, 105, 110]⟩), i 0, i 100, nl, .lst 1 [[i 0]]]])], .agg [.t (i 20), .t (i 10), .t (i 0), .t (i 0), .t (.lst 1 [[i 0]]), .t (.lst 7 [[i 0, i 0, i 0, bo false, i 0, i 0, i 0], [i 0, i 0, i 1, bo true, i 0, i 20, i 0]]), .t (.lst 2 [[i 0, .lst 4 [[i 0, i 0, i 20, i 0]]], [i 1, .lst 4 [[i 1, i 0, i 20, i 0]]]])], .one (.t (.lst 6 [[i 1, i 0, i 0, i 0, i 0, i 1], [i 2, i 0, i 0, i 1, i 1, i 2]])), .one (.t (.lst 6 [[i 0, i 0, i 0, i 0, .lst 1 [[i 0]], bo false], [i 0, i 1, i 0, i 0, .lst 1 [[i 0]], bo false], [i 1, i 0, i 1, i 0, .lst 1 [[i 1]], bo false], [i 1, i 1, i 1, i 0, .lst 1 [[i 1]], bo false]]))]
def v56 : V := .w (.one (.t (i 0)))
theorem r56 : Fn Tryz.prog 28 a56 [] v56 [] ∧ v56.isT = true := fn_of_E (fuel := 10000) (d := 60) fns_ok k55 (show fns 28 = some fr28 from rfl) (by kernel_rfl)
def l56 : List (Nat × List W × V) := (28, a56, v56) :: l55
theorem k56 : TabOk Tryz.prog (tabOf l56) := tab_cons k55 r56
-- garment/garmentlaw50.awake
def a57 : List W := []
def v57 : V := .w (.one (.t (bo true)))
theorem r57 : Fn Tryz.prog 13 a57 [] v57 [] ∧ v57.isT = true := fn_of_E (fuel := 10000) (d := 60) fns_ok k56 (show fns 13 = some fr13 from rfl) (by kernel_rfl)
def l57 : List (Nat × List W × V) := (13, a57, v57) :: l56
theorem k57 : TabOk Tryz.prog (tabOf l57) := tab_cons k56 r57
#print axioms r57
end Go.Abs.Cd
