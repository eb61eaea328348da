import Derived.Test.YtnkmmbgbdgonnaaGreatDoorIt
import Derived.Test.YtnkmmbgbdgonnaaGreatDoorCod1
import Derived.Test.YtnkmmbgbdgonnaaGreatDoorCod2
import Derived.Test.YtnkmmbgbdgonnaaGreatDoorCod3
import Derived.Test.YtnkmmbgbdgonnaaGreatDoorCod4
import Derived.Test.YtnkmmbgbdgonnaaGreatDoorCod5
import Derived.Test.YtnkmmbgbdgonnaaGreatDoorCod6
namespace Go.Abs.Cd
open Go Go.Proofs
set_option maxRecDepth 100000
def fnsL : List (Nat × FnR) := [(289, fr289), (27, fr27), (233, fr233), (255, fr255), (285, fr285), (267, fr267), (257, fr257), (214, fr214), (216, fr216), (268, fr268), (250, fr250), (234, fr234), (291, fr291), (298, fr298), (269, fr269), (258, fr258), (210, fr210), (275, fr275), (167, fr167), (306, fr306), (284, fr284), (50, fr50), (202, fr202), (160, fr160), (246, fr246), (212, fr212), (188, fr188), (187, fr187), (169, fr169), (162, fr162), (146, fr146), (283, fr283), (232, fr232), (243, fr243), (105, fr105), (294, fr294), (266, fr266), (149, fr149), (293, fr293), (282, fr282), (272, fr272), (200, fr200), (155, fr155), (290, fr290), (276, fr276), (186, fr186), (145, fr145), (297, fr297), (280, fr280), (279, fr279), (254, fr254), (247, fr247), (245, fr245), (242, fr242), (239, fr239), (235, fr235), (221, fr221), (215, fr215), (213, fr213), (211, fr211), (208, fr208), (207, fr207), (206, fr206), (201, fr201), (189, fr189), (177, fr177), (168, fr168), (163, fr163), (65, fr65), (300, fr300), (271, fr271), (270, fr270), (224, fr224), (121, fr121), (305, fr305), (292, fr292), (248, fr248), (170, fr170), (165, fr165), (161, fr161), (119, fr119), (117, fr117), (56, fr56), (295, fr295), (59, fr59), (35, fr35), (31, fr31), (10, fr10), (217, fr217), (209, fr209), (205, fr205), (171, fr171), (166, fr166), (159, fr159), (147, fr147), (118, fr118), (101, fr101), (66, fr66), (43, fr43), (37, fr37), (36, fr36), (134, fr134), (122, fr122), (107, fr107), (49, fr49), (46, fr46), (45, fr45), (34, fr34), (33, fr33), (32, fr32), (16, fr16), (264, fr264), (259, fr259), (249, fr249), (244, fr244), (241, fr241), (228, fr228), (227, fr227), (225, fr225), (222, fr222), (204, fr204), (203, fr203), (199, fr199), (183, fr183), (182, fr182), (181, fr181), (179, fr179), (178, fr178), (164, fr164), (157, fr157), (156, fr156), (148, fr148), (144, fr144), (142, fr142), (140, fr140), (139, fr139), (136, fr136), (135, fr135), (123, fr123), (113, fr113), (112, fr112), (110, fr110), (106, fr106), (104, fr104), (95, fr95), (90, fr90), (81, fr81), (80, fr80), (75, fr75), (74, fr74), (72, fr72), (67, fr67), (63, fr63), (61, fr61), (58, fr58), (48, fr48), (47, fr47), (44, fr44), (42, fr42), (40, fr40), (39, fr39), (38, fr38), (28, fr28), (24, fr24), (23, fr23), (22, fr22), (21, fr21), (20, fr20), (19, fr19), (18, fr18), (17, fr17), (12, fr12), (11, fr11), (4, fr4), (274, fr274), (273, fr273), (256, fr256), (231, fr231), (229, fr229), (198, fr198), (190, fr190), (185, fr185), (180, fr180), (154, fr154), (153, fr153), (152, fr152), (151, fr151), (150, fr150), (143, fr143), (141, fr141), (138, fr138), (137, fr137), (126, fr126), (116, fr116), (115, fr115), (109, fr109), (108, fr108), (103, fr103), (102, fr102), (100, fr100), (99, fr99), (98, fr98), (96, fr96), (79, fr79), (78, fr78), (77, fr77), (73, fr73), (71, fr71), (70, fr70), (69, fr69), (68, fr68), (64, fr64), (62, fr62), (60, fr60), (57, fr57), (55, fr55), (30, fr30), (15, fr15), (9, fr9), (7, fr7), (6, fr6)]
abbrev fns : Nat → Option FnR := find fnsL
theorem fns_ok : FnsOk Tryz.prog fns := fnsOk_of (show AllOk Tryz.prog fnsL from ⟨fk289, fk27, fk233, fk255, fk285, fk267, fk257, fk214, fk216, fk268, fk250, fk234, fk291, fk298, fk269, fk258, fk210, fk275, fk167, fk306, fk284, fk50, fk202, fk160, fk246, fk212, fk188, fk187, fk169, fk162, fk146, fk283, fk232, fk243, fk105, fk294, fk266, fk149, fk293, fk282, fk272, fk200, fk155, fk290, fk276, fk186, fk145, fk297, fk280, fk279, fk254, fk247, fk245, fk242, fk239, fk235, fk221, fk215, fk213, fk211, fk208, fk207, fk206, fk201, fk189, fk177, fk168, fk163, fk65, fk300, fk271, fk270, fk224, fk121, fk305, fk292, fk248, fk170, fk165, fk161, fk119, fk117, fk56, fk295, fk59, fk35, fk31, fk10, fk217, fk209, fk205, fk171, fk166, fk159, fk147, fk118, fk101, fk66, fk43, fk37, fk36, fk134, fk122, fk107, fk49, fk46, fk45, fk34, fk33, fk32, fk16, fk264, fk259, fk249, fk244, fk241, fk228, fk227, fk225, fk222, fk204, fk203, fk199, fk183, fk182, fk181, fk179, fk178, fk164, fk157, fk156, fk148, fk144, fk142, fk140, fk139, fk136, fk135, fk123, fk113, fk112, fk110, fk106, fk104, fk95, fk90, fk81, fk80, fk75, fk74, fk72, fk67, fk63, fk61, fk58, fk48, fk47, fk44, fk42, fk40, fk39, fk38, fk28, fk24, fk23, fk22, fk21, fk20, fk19, fk18, fk17, fk12, fk11, fk4, fk274, fk273, fk256, fk231, fk229, fk198, fk190, fk185, fk180, fk154, fk153, fk152, fk151, fk150, fk143, fk141, fk138, fk137, fk126, fk116, fk115, fk109, fk108, fk103, fk102, fk100, fk99, fk98, fk96, fk79, fk78, fk77, fk73, fk71, fk70, fk69, fk68, fk64, fk62, fk60, fk57, fk55, fk30, fk15, fk9, fk7, fk6, trivial⟩)
def l0 : List (Nat × List W × V) := []
theorem k0 : TabOk Tryz.prog (tabOf l0) := tab_nil
-- cmp.Compare[int]
def a1 : List W := [.one (.t (i 0)), .one (.t (i 0))]
def v1 : V := .w (.one (.t (i 0)))
theorem r1 : Fn Tryz.prog 27 a1 [] v1 [] ∧ v1.isT = true := fn_of_E (fuel := 10000) (d := 60) fns_ok k0 (show fns 27 = some fr27 from rfl) (by kernel_rfl)
def l1 : List (Nat × List W × V) := (27, a1, v1) :: l0
theorem k1 : TabOk Tryz.prog (tabOf l1) := tab_cons k0 r1
-- garment/integer.signed
def a2 : List W := [.one (.t (bo false)), .one (.t (.lst 1 []))]
def v2 : V := .w (.agg [.t (bo false), .t (.lst 1 [])])
theorem r2 : Fn Tryz.prog 285 a2 [] v2 [] ∧ v2.isT = true := fn_of_E (fuel := 10000) (d := 60) fns_ok k1 (show fns 285 = some fr285 from rfl) (by kernel_rfl)
def l2 : List (Nat × List W × V) := (285, a2, v2) :: l1
theorem k2 : TabOk Tryz.prog (tabOf l2) := tab_cons k1 r2
-- garment/ratio.Cmp
def a3 : List W := [.agg [.t (bo false), .t (nl), .t (nl)], .agg [.t (bo false), .t (nl), .t (nl)]]
def v3 : V := .w (.one (.t (i 0)))
theorem r3 : Fn Tryz.prog 224 a3 [] v3 [] ∧ v3.isT = true := fn_of_E (fuel := 10000) (d := 60) fns_ok k2 (show fns 224 = some fr224 from rfl) (by kernel_rfl)
def l3 : List (Nat × List W × V) := (224, a3, v3) :: l2
theorem k3 : TabOk Tryz.prog (tabOf l3) := tab_cons k2 r3
-- garment/outline.isName
def a4 : List W := [.one (.t (.val (.string ⟨#[114, 105, 103, 104, 116]⟩)))]
def v4 : V := .w (.one (.t (bo true)))
theorem r4 : Fn Tryz.prog 207 a4 [] v4 [] ∧ v4.isT = true := fn_of_E (fuel := 10000) (d := 60) fns_ok k3 (show fns 207 = some fr207 from rfl) (by kernel_rfl)
def l4 : List (Nat × List W × V) := (207, a4, v4) :: l3
theorem k4 : TabOk Tryz.prog (tabOf l4) := tab_cons k3 r4
-- garment/outline.isName
def a5 : List W := [.one (.t (.val (.string ⟨#[104, 105, 103, 104]⟩)))]
def v5 : V := .w (.one (.t (bo true)))
theorem r5 : Fn Tryz.prog 207 a5 [] v5 [] ∧ v5.isT = true := fn_of_E (fuel := 10000) (d := 60) fns_ok k4 (show fns 207 = some fr207 from rfl) (by kernel_rfl)
def l5 : List (Nat × List W × V) := (207, a5, v5) :: l4
theorem k5 : TabOk Tryz.prog (tabOf l5) := tab_cons k4 r5
-- garment/outline.isName
def a6 : List W := [.one (.t (.val (.string ⟨#[108, 101, 102, 116]⟩)))]
def v6 : V := .w (.one (.t (bo true)))
theorem r6 : Fn Tryz.prog 207 a6 [] v6 [] ∧ v6.isT = true := fn_of_E (fuel := 10000) (d := 60) fns_ok k5 (show fns 207 = some fr207 from rfl) (by kernel_rfl)
def l6 : List (Nat × List W × V) := (207, a6, v6) :: l5
theorem k6 : TabOk Tryz.prog (tabOf l6) := tab_cons k5 r6
-- cmp.Compare[int]
def a7 : List W := [.one (.t (i 100)), .one (.t (i 0))]
def v7 : V := .w (.one (.t (i 1)))
theorem r7 : Fn Tryz.prog 27 a7 [] v7 [] ∧ v7.isT = true := fn_of_E (fuel := 10000) (d := 60) fns_ok k6 (show fns 27 = some fr27 from rfl) (by kernel_rfl)
def l7 : List (Nat × List W × V) := (27, a7, v7) :: l6
theorem k7 : TabOk Tryz.prog (tabOf l7) := tab_cons k6 r7
-- garment/polygon.Check
def a8 : List W := [.one (.t (.lst 2 [[i 0, i 0], [i 10, i 0], [i 10, i 10], [i 0, i 10]]))]
def v8 : V := .w (.one (.t (i 0)))
theorem r8 : Fn Tryz.prog 105 a8 [] v8 [] ∧ v8.isT = true := fn_of_E (fuel := 10000) (d := 60) fns_ok k7 (show fns 105 = some fr105 from rfl) (by kernel_rfl)
def l8 : List (Nat × List W × V) := (105, a8, v8) :: l7
theorem k8 : TabOk Tryz.prog (tabOf l8) := tab_cons k7 r8
-- garment/outline.Check
def a9 : List W := [.one (.t (.lst 2 [[.val (.string ⟨#[108, 111, 119]⟩), .lst 2 [[i 0, i 0], [i 10, i 0]]], [.val (.string ⟨#[114, 105, 103, 104, 116]⟩), .lst 2 [[i 10, i 0], [i 10, i 10]]], [.val (.string ⟨#[104, 105, 103, 104]⟩), .lst 2 [[i 10, i 10], [i 0, i 10]]], [.val (.string ⟨#[108, 101, 102, 116]⟩), .lst 2 [[i 0, i 10], [i 0, i 0]]]]))]
def v9 : V := .w (.one (.t (i 0)))
theorem r9 : Fn Tryz.prog 161 a9 [] v9 [] ∧ v9.isT = true := fn_of_E (fuel := 10000) (d := 60) fns_ok k8 (show fns 161 = some fr161 from rfl) (by kernel_rfl)
def l9 : List (Nat × List W × V) := (161, a9, v9) :: l8
theorem k9 : TabOk Tryz.prog (tabOf l9) := tab_cons k8 r9
-- garment/grade.rounded
def a10 : List W := [.one (.t (i 0)), .one (.t (i 1))]
def v10 : V := .w (.one (.t (i 0)))
theorem r10 : Fn Tryz.prog 210 a10 [] v10 [] ∧ v10.isT = true := fn_of_E (fuel := 10000) (d := 60) fns_ok k9 (show fns 210 = some fr210 from rfl) (by kernel_rfl)
def l10 : List (Nat × List W × V) := (210, a10, v10) :: l9
theorem k10 : TabOk Tryz.prog (tabOf l10) := tab_cons k9 r10
-- garment/grade.Graded
def a11 : List W := [.agg [.t (.val (.string ⟨#[102, 114, 111, 110, 116]⟩)), .t (.lst 2 [[.val (.string ⟨#[108, 111, 119]⟩), .lst 2 [[i 0, i 0], [i 10, i 0]]], [.val (.string ⟨#[114, 105, 103, 104, 116]⟩), .lst 2 [[i 10, i 0], [i 10, i 10]]], [.val (.string ⟨#[104, 105, 103, 104]⟩), .lst 2 [[i 10, i 10], [i 0, i 10]]], [.val (.string ⟨#[108, 101, 102, 116]⟩), .lst 2 [[i 0, i 10], [i 0, i 0]]]]), .t (i 1), .t (nl), .t (.lst 2 [[i 0, i 0], [i 1, i 0], [i 1, i 0], [i 0, i 0]]), .t (.lst 1 [[i 0], [i 0], [i 0], [i 0]]), .t (bo false)], .one (.t (i 0))]
def v11 : V := .tup [.one (.t (.lst 2 [[.val (.string ⟨#[108, 111, 119]⟩), .lst 2 [[i 0, i 0], [i 10, i 0]]], [.val (.string ⟨#[114, 105, 103, 104, 116]⟩), .lst 2 [[i 10, i 0], [i 10, i 10]]], [.val (.string ⟨#[104, 105, 103, 104]⟩), .lst 2 [[i 10, i 10], [i 0, i 10]]], [.val (.string ⟨#[108, 101, 102, 116]⟩), .lst 2 [[i 0, i 10], [i 0, i 0]]]])), .one (.t (i 0))]
theorem r11 : Fn Tryz.prog 121 a11 [] v11 [] ∧ v11.isT = true := fn_of_E (fuel := 10000) (d := 60) fns_ok k10 (show fns 121 = some fr121 from rfl) (by kernel_rfl)
def l11 : List (Nat × List W × V) := (121, a11, v11) :: l10
theorem k11 : TabOk Tryz.prog (tabOf l11) := tab_cons k10 r11
-- garment/style.Check
def a12 : List W := [.agg [.t (.val (.string ⟨#[115, 104, 105, 114, 116]⟩)), .t (.lst 1 [[.val (.string ⟨#[83]⟩)], [.val (.string ⟨#[77]⟩)]]), .t (.lst 1 [[i 0], [i 2]]), .t (.lst 7 [[.val (.string ⟨#[102, 114, 111, 110, 116]⟩), .lst 2 [[.val (.string ⟨#[108, 111, 119]⟩), .lst 2 [[i 0, i 0], [i 10, i 0]]], [.val (.string ⟨#[114, 105, 103, 104, 116]⟩), .lst 2 [[i 10, i 0], [i 10, i 10]]], [.val (.string ⟨#[104, 105, 103, 104]⟩), .lst 2 [[i 10, i 10], [i 0, i 10]]], [.val (.string ⟨#[108, 101, 102, 116]⟩), .lst 2 [[i 0, i 10], [i 0, i 0]]]], i 1, nl, .lst 2 [[i 0, i 0], [i 1, i 0], [i 1, i 0], [i 0, i 0]], .lst 1 [[i 0], [i 0], [i 0], [i 0]], bo false]]), .t (.lst 3 [[i 0, i 2, bo true]]), .t (nl), .t (.lst 5 [[.val (.string ⟨#[106, 111, 105, 110]⟩), i 0, i 100, nl, .lst 1 [[i 0]]]])]]
def v12 : V := .w (.one (.t (i 0)))
theorem r12 : Fn Tryz.prog 56 a12 [] v12 [] ∧ v12.isT = true := fn_of_E (fuel := 10000) (d := 60) fns_ok k11 (show fns 56 = some fr56 from rfl) (by kernel_rfl)
def l12 : List (Nat × List W × V) := (56, a12, v12) :: l11
theorem k12 : TabOk Tryz.prog (tabOf l12) := tab_cons k11 r12
-- garment/operation.Check
def a13 : List W := [.agg [.t (.val (.string ⟨#[115, 104, 105, 114, 116]⟩)), .t (.lst 1 [[.val (.string ⟨#[83]⟩)], [.val (.string ⟨#[77]⟩)]]), .t (.lst 1 [[i 0], [i 2]]), .t (.lst 7 [[.val (.string ⟨#[102, 114, 111, 110, 116]⟩), .lst 2 [[.val (.string ⟨#[108, 111, 119]⟩), .lst 2 [[i 0, i 0], [i 10, i 0]]], [.val (.string ⟨#[114, 105, 103, 104, 116]⟩), .lst 2 [[i 10, i 0], [i 10, i 10]]], [.val (.string ⟨#[104, 105, 103, 104]⟩), .lst 2 [[i 10, i 10], [i 0, i 10]]], [.val (.string ⟨#[108, 101, 102, 116]⟩), .lst 2 [[i 0, i 10], [i 0, i 0]]]], i 1, nl, .lst 2 [[i 0, i 0], [i 1, i 0], [i 1, i 0], [i 0, i 0]], .lst 1 [[i 0], [i 0], [i 0], [i 0]], bo false]]), .t (.lst 3 [[i 0, i 2, bo true]]), .t (nl), .t (.lst 5 [[.val (.string ⟨#[106, 111, 105, 110]⟩), i 0, i 100, nl, .lst 1 [[i 0]]]])]]
def v13 : V := .w (.one (.t (i 0)))
theorem r13 : Fn Tryz.prog 31 a13 [] v13 [] ∧ v13.isT = true := fn_of_E (fuel := 10000) (d := 60) fns_ok k12 (show fns 31 = some fr31 from rfl) (by kernel_rfl)
def l13 : List (Nat × List W × V) := (31, a13, v13) :: l12
theorem k13 : TabOk Tryz.prog (tabOf l13) := tab_cons k12 r13
-- garment/polygon.Area2
def a14 : List W := [.one (.t (.lst 2 [[i 0, i 0], [i 10, i 0], [i 10, i 10], [i 0, i 10]]))]
def v14 : V := .w (.one (.t (i 200)))
theorem r14 : Fn Tryz.prog 171 a14 [] v14 [] ∧ v14.isT = true := fn_of_E (fuel := 10000) (d := 60) fns_ok k13 (show fns 171 = some fr171 from rfl) (by kernel_rfl)
def l14 : List (Nat × List W × V) := (171, a14, v14) :: l13
theorem k14 : TabOk Tryz.prog (tabOf l14) := tab_cons k13 r14
-- cmp.Compare[int]
def a15 : List W := [.one (.t (i 200)), .one (.t (i 0))]
def v15 : V := .w (.one (.t (i 1)))
theorem r15 : Fn Tryz.prog 27 a15 [] v15 [] ∧ v15.isT = true := fn_of_E (fuel := 10000) (d := 60) fns_ok k14 (show fns 27 = some fr27 from rfl) (by kernel_rfl)
def l15 : List (Nat × List W × V) := (27, a15, v15) :: l14
theorem k15 : TabOk Tryz.prog (tabOf l15) := tab_cons k14 r15
-- garment/natural.Of
def a16 : List W := [.one (.t (.val (.int .u64 0)))]
def v16 : V := .w (.one (.t (.lst 1 [])))
theorem r16 : Fn Tryz.prog 282 a16 [] v16 [] ∧ v16.isT = true := fn_of_E (fuel := 10000) (d := 60) fns_ok k15 (show fns 282 = some fr282 from rfl) (by kernel_rfl)
def l16 : List (Nat × List W × V) := (282, a16, v16) :: l15
theorem k16 : TabOk Tryz.prog (tabOf l16) := tab_cons k15 r16
-- cmp.Compare[int]
def a17 : List W := [.one (.t (i 1)), .one (.t (i 1))]
def v17 : V := .w (.one (.t (i 0)))
theorem r17 : Fn Tryz.prog 27 a17 [] v17 [] ∧ v17.isT = true := fn_of_E (fuel := 10000) (d := 60) fns_ok k16 (show fns 27 = some fr27 from rfl) (by kernel_rfl)
def l17 : List (Nat × List W × V) := (27, a17, v17) :: l16
theorem k17 : TabOk Tryz.prog (tabOf l17) := tab_cons k16 r17
-- garment/natural.DivMod
def a18 : List W := [.one (.t (.lst 1 [[u 1]])), .one (.t (.lst 1 [[u 1]]))]
def v18 : V := .tup [.one (.t (.lst 1 [[u 1]])), .one (.t (.lst 1 [])), .one (.t (bo true))]
theorem r18 : Fn Tryz.prog 291 a18 [] v18 [] ∧ v18.isT = true := fn_of_E (fuel := 10000) (d := 60) fns_ok k17 (show fns 291 = some fr291 from rfl) (by kernel_rfl)
def l18 : List (Nat × List W × V) := (291, a18, v18) :: l17
theorem k18 : TabOk Tryz.prog (tabOf l18) := tab_cons k17 r18
-- garment/ratio.reduce
def a19 : List W := [.agg [.t (bo false), .t (.lst 1 [])], .one (.t (.lst 1 [[u 1]]))]
def v19 : V := .w (.agg [.t (bo false), .t (.lst 1 []), .t (.lst 1 [[u 1]])])
theorem r19 : Fn Tryz.prog 268 a19 [] v19 [] ∧ v19.isT = true := fn_of_E (fuel := 10000) (d := 60) fns_ok k18 (show fns 268 = some fr268 from rfl) (by kernel_rfl)
def l19 : List (Nat × List W × V) := (268, a19, v19) :: l18
theorem k19 : TabOk Tryz.prog (tabOf l19) := tab_cons k18 r19
-- garment/ratio.Of
def a20 : List W := [.one (.t (i 0)), .one (.t (i 1))]
def v20 : V := .tup [.agg [.t (bo false), .t (.lst 1 []), .t (.lst 1 [[u 1]])], .one (.t (bo true))]
theorem r20 : Fn Tryz.prog 272 a20 [] v20 [] ∧ v20.isT = true := fn_of_E (fuel := 10000) (d := 60) fns_ok k19 (show fns 272 = some fr272 from rfl) (by kernel_rfl)
def l20 : List (Nat × List W × V) := (272, a20, v20) :: l19
theorem k20 : TabOk Tryz.prog (tabOf l20) := tab_cons k19 r20
-- garment/natural.DivMod
def a21 : List W := [.one (.t (.lst 1 [[u 10]])), .one (.t (.lst 1 [[u 1]]))]
def v21 : V := .tup [.one (.t (.lst 1 [[u 10]])), .one (.t (.lst 1 [])), .one (.t (bo true))]
theorem r21 : Fn Tryz.prog 291 a21 [] v21 [] ∧ v21.isT = true := fn_of_E (fuel := 10000) (d := 60) fns_ok k20 (show fns 291 = some fr291 from rfl) (by kernel_rfl)
def l21 : List (Nat × List W × V) := (291, a21, v21) :: l20
theorem k21 : TabOk Tryz.prog (tabOf l21) := tab_cons k20 r21
-- garment/ratio.reduce
def a22 : List W := [.agg [.t (bo false), .t (.lst 1 [[u 10]])], .one (.t (.lst 1 [[u 1]]))]
def v22 : V := .w (.agg [.t (bo false), .t (.lst 1 [[u 10]]), .t (.lst 1 [[u 1]])])
theorem r22 : Fn Tryz.prog 268 a22 [] v22 [] ∧ v22.isT = true := fn_of_E (fuel := 10000) (d := 60) fns_ok k21 (show fns 268 = some fr268 from rfl) (by kernel_rfl)
def l22 : List (Nat × List W × V) := (268, a22, v22) :: l21
theorem k22 : TabOk Tryz.prog (tabOf l22) := tab_cons k21 r22
-- garment/ratio.Of
def a23 : List W := [.one (.t (i 10)), .one (.t (i 1))]
def v23 : V := .tup [.agg [.t (bo false), .t (.lst 1 [[u 10]]), .t (.lst 1 [[u 1]])], .one (.t (bo true))]
theorem r23 : Fn Tryz.prog 272 a23 [] v23 [] ∧ v23.isT = true := fn_of_E (fuel := 10000) (d := 60) fns_ok k22 (show fns 272 = some fr272 from rfl) (by kernel_rfl)
def l23 : List (Nat × List W × V) := (272, a23, v23) :: l22
theorem k23 : TabOk Tryz.prog (tabOf l23) := tab_cons k22 r23
-- garment/allowance.exact
def a24 : List W := [.agg [.t (i 0), .t (i 10)]]
def v24 : V := .w (.agg [.t (bo false), .t (.lst 1 []), .t (.lst 1 [[u 1]]), .t (bo false), .t (.lst 1 [[u 10]]), .t (.lst 1 [[u 1]])])
theorem r24 : Fn Tryz.prog 214 a24 [] v24 [] ∧ v24.isT = true := fn_of_E (fuel := 10000) (d := 60) fns_ok k23 (show fns 214 = some fr214 from rfl) (by kernel_rfl)
def l24 : List (Nat × List W × V) := (214, a24, v24) :: l23
theorem k24 : TabOk Tryz.prog (tabOf l24) := tab_cons k23 r24
-- garment/allowance.exact
def a25 : List W := [.agg [.t (i 0), .t (i 0)]]
def v25 : V := .w (.agg [.t (bo false), .t (.lst 1 []), .t (.lst 1 [[u 1]]), .t (bo false), .t (.lst 1 []), .t (.lst 1 [[u 1]])])
theorem r25 : Fn Tryz.prog 214 a25 [] v25 [] ∧ v25.isT = true := fn_of_E (fuel := 10000) (d := 60) fns_ok k24 (show fns 214 = some fr214 from rfl) (by kernel_rfl)
def l25 : List (Nat × List W × V) := (214, a25, v25) :: l24
theorem k25 : TabOk Tryz.prog (tabOf l25) := tab_cons k24 r25
-- garment/allowance.exact
def a26 : List W := [.agg [.t (i 10), .t (i 0)]]
def v26 : V := .w (.agg [.t (bo false), .t (.lst 1 [[u 10]]), .t (.lst 1 [[u 1]]), .t (bo false), .t (.lst 1 []), .t (.lst 1 [[u 1]])])
theorem r26 : Fn Tryz.prog 214 a26 [] v26 [] ∧ v26.isT = true := fn_of_E (fuel := 10000) (d := 60) fns_ok k25 (show fns 214 = some fr214 from rfl) (by kernel_rfl)
def l26 : List (Nat × List W × V) := (214, a26, v26) :: l25
theorem k26 : TabOk Tryz.prog (tabOf l26) := tab_cons k25 r26
-- garment/ratio.zero
def a27 : List W := [.one (.t (.lst 1 [[u 1]]))]
def v27 : V := .w (.one (.t (bo false)))
theorem r27 : Fn Tryz.prog 266 a27 [] v27 [] ∧ v27.isT = true := fn_of_E (fuel := 10000) (d := 60) fns_ok k26 (show fns 266 = some fr266 from rfl) (by kernel_rfl)
def l27 : List (Nat × List W × V) := (266, a27, v27) :: l26
theorem k27 : TabOk Tryz.prog (tabOf l27) := tab_cons k26 r27
-- garment/ratio.value
def a28 : List W := [.agg [.t (bo false), .t (.lst 1 []), .t (.lst 1 [[u 1]])]]
def v28 : V := .w (.agg [.t (bo false), .t (.lst 1 []), .t (.lst 1 [[u 1]])])
theorem r28 : Fn Tryz.prog 255 a28 [] v28 [] ∧ v28.isT = true := fn_of_E (fuel := 10000) (d := 60) fns_ok k27 (show fns 255 = some fr255 from rfl) (by kernel_rfl)
def l28 : List (Nat × List W × V) := (255, a28, v28) :: l27
theorem k28 : TabOk Tryz.prog (tabOf l28) := tab_cons k27 r28
-- garment/ratio.Neg
def a29 : List W := [.agg [.t (bo false), .t (.lst 1 []), .t (.lst 1 [[u 1]])]]
def v29 : V := .w (.agg [.t (bo false), .t (.lst 1 []), .t (.lst 1 [[u 1]])])
theorem r29 : Fn Tryz.prog 276 a29 [] v29 [] ∧ v29.isT = true := fn_of_E (fuel := 10000) (d := 60) fns_ok k28 (show fns 276 = some fr276 from rfl) (by kernel_rfl)
def l29 : List (Nat × List W × V) := (276, a29, v29) :: l28
theorem k29 : TabOk Tryz.prog (tabOf l29) := tab_cons k28 r29
-- garment/ratio.value
def a30 : List W := [.agg [.t (bo false), .t (.lst 1 [[u 10]]), .t (.lst 1 [[u 1]])]]
def v30 : V := .w (.agg [.t (bo false), .t (.lst 1 [[u 10]]), .t (.lst 1 [[u 1]])])
theorem r30 : Fn Tryz.prog 255 a30 [] v30 [] ∧ v30.isT = true := fn_of_E (fuel := 10000) (d := 60) fns_ok k29 (show fns 255 = some fr255 from rfl) (by kernel_rfl)
def l30 : List (Nat × List W × V) := (255, a30, v30) :: l29
theorem k30 : TabOk Tryz.prog (tabOf l30) := tab_cons k29 r30
-- garment/integer.Mul
def a31 : List W := [.agg [.t (bo false), .t (.lst 1 [[u 10]])], .agg [.t (bo false), .t (.lst 1 [[u 1]])]]
def v31 : V := .w (.agg [.t (bo false), .t (.lst 1 [[u 10]])])
theorem r31 : Fn Tryz.prog 257 a31 [] v31 [] ∧ v31.isT = true := fn_of_E (fuel := 10000) (d := 60) fns_ok k30 (show fns 257 = some fr257 from rfl) (by kernel_rfl)
def l31 : List (Nat × List W × V) := (257, a31, v31) :: l30
theorem k31 : TabOk Tryz.prog (tabOf l31) := tab_cons k30 r31
-- garment/integer.Mul
def a32 : List W := [.agg [.t (bo false), .t (.lst 1 [])], .agg [.t (bo false), .t (.lst 1 [[u 1]])]]
def v32 : V := .w (.agg [.t (bo false), .t (.lst 1 [])])
theorem r32 : Fn Tryz.prog 257 a32 [] v32 [] ∧ v32.isT = true := fn_of_E (fuel := 10000) (d := 60) fns_ok k31 (show fns 257 = some fr257 from rfl) (by kernel_rfl)
def l32 : List (Nat × List W × V) := (257, a32, v32) :: l31
theorem k32 : TabOk Tryz.prog (tabOf l32) := tab_cons k31 r32
-- garment/natural.Mul
def a33 : List W := [.one (.t (.lst 1 [[u 1]])), .one (.t (.lst 1 [[u 1]]))]
def v33 : V := .w (.one (.t (.lst 1 [[u 1]])))
theorem r33 : Fn Tryz.prog 267 a33 [] v33 [] ∧ v33.isT = true := fn_of_E (fuel := 10000) (d := 60) fns_ok k32 (show fns 267 = some fr267 from rfl) (by kernel_rfl)
def l33 : List (Nat × List W × V) := (267, a33, v33) :: l32
theorem k33 : TabOk Tryz.prog (tabOf l33) := tab_cons k32 r33
-- garment/ratio.Add
def a34 : List W := [.agg [.t (bo false), .t (.lst 1 [[u 10]]), .t (.lst 1 [[u 1]])], .agg [.t (bo false), .t (.lst 1 []), .t (.lst 1 [[u 1]])]]
def v34 : V := .w (.agg [.t (bo false), .t (.lst 1 [[u 10]]), .t (.lst 1 [[u 1]])])
theorem r34 : Fn Tryz.prog 275 a34 [] v34 [] ∧ v34.isT = true := fn_of_E (fuel := 10000) (d := 60) fns_ok k33 (show fns 275 = some fr275 from rfl) (by kernel_rfl)
def l34 : List (Nat × List W × V) := (275, a34, v34) :: l33
theorem k34 : TabOk Tryz.prog (tabOf l34) := tab_cons k33 r34
-- garment/ratio.Add
def a35 : List W := [.agg [.t (bo false), .t (.lst 1 []), .t (.lst 1 [[u 1]])], .agg [.t (bo false), .t (.lst 1 []), .t (.lst 1 [[u 1]])]]
def v35 : V := .w (.agg [.t (bo false), .t (.lst 1 []), .t (.lst 1 [[u 1]])])
theorem r35 : Fn Tryz.prog 275 a35 [] v35 [] ∧ v35.isT = true := fn_of_E (fuel := 10000) (d := 60) fns_ok k34 (show fns 275 = some fr275 from rfl) (by kernel_rfl)
def l35 : List (Nat × List W × V) := (275, a35, v35) :: l34
theorem k35 : TabOk Tryz.prog (tabOf l35) := tab_cons k34 r35
-- garment/ratio.Sub
def a36 : List W := [.agg [.t (bo false), .t (.lst 1 []), .t (.lst 1 [[u 1]])], .agg [.t (bo false), .t (.lst 1 []), .t (.lst 1 [[u 1]])]]
def v36 : V := .w (.agg [.t (bo false), .t (.lst 1 []), .t (.lst 1 [[u 1]])])
theorem r36 : Fn Tryz.prog 250 a36 [] v36 [] ∧ v36.isT = true := fn_of_E (fuel := 10000) (d := 60) fns_ok k35 (show fns 250 = some fr250 from rfl) (by kernel_rfl)
def l36 : List (Nat × List W × V) := (250, a36, v36) :: l35
theorem k36 : TabOk Tryz.prog (tabOf l36) := tab_cons k35 r36
-- garment/point.Sub
def a37 : List W := [.agg [.t (bo false), .t (.lst 1 [[u 10]]), .t (.lst 1 [[u 1]]), .t (bo false), .t (.lst 1 []), .t (.lst 1 [[u 1]])], .agg [.t (bo false), .t (.lst 1 []), .t (.lst 1 [[u 1]]), .t (bo false), .t (.lst 1 []), .t (.lst 1 [[u 1]])]]
def v37 : V := .w (.agg [.t (bo false), .t (.lst 1 [[u 10]]), .t (.lst 1 [[u 1]]), .t (bo false), .t (.lst 1 []), .t (.lst 1 [[u 1]])])
theorem r37 : Fn Tryz.prog 216 a37 [] v37 [] ∧ v37.isT = true := fn_of_E (fuel := 10000) (d := 60) fns_ok k36 (show fns 216 = some fr216 from rfl) (by kernel_rfl)
def l37 : List (Nat × List W × V) := (216, a37, v37) :: l36
theorem k37 : TabOk Tryz.prog (tabOf l37) := tab_cons k36 r37
-- garment/ratio.reduce
def a38 : List W := [.agg [.t (bo true), .t (.lst 1 [[u 10]])], .one (.t (.lst 1 [[u 1]]))]
def v38 : V := .w (.agg [.t (bo true), .t (.lst 1 [[u 10]]), .t (.lst 1 [[u 1]])])
theorem r38 : Fn Tryz.prog 268 a38 [] v38 [] ∧ v38.isT = true := fn_of_E (fuel := 10000) (d := 60) fns_ok k37 (show fns 268 = some fr268 from rfl) (by kernel_rfl)
def l38 : List (Nat × List W × V) := (268, a38, v38) :: l37
theorem k38 : TabOk Tryz.prog (tabOf l38) := tab_cons k37 r38
-- garment/ratio.value
def a39 : List W := [.agg [.t (bo true), .t (.lst 1 [[u 10]]), .t (.lst 1 [[u 1]])]]
def v39 : V := .w (.agg [.t (bo true), .t (.lst 1 [[u 10]]), .t (.lst 1 [[u 1]])])
theorem r39 : Fn Tryz.prog 255 a39 [] v39 [] ∧ v39.isT = true := fn_of_E (fuel := 10000) (d := 60) fns_ok k38 (show fns 255 = some fr255 from rfl) (by kernel_rfl)
def l39 : List (Nat × List W × V) := (255, a39, v39) :: l38
theorem k39 : TabOk Tryz.prog (tabOf l39) := tab_cons k38 r39
-- garment/integer.Mul
def a40 : List W := [.agg [.t (bo true), .t (.lst 1 [[u 10]])], .agg [.t (bo false), .t (.lst 1 [[u 1]])]]
def v40 : V := .w (.agg [.t (bo true), .t (.lst 1 [[u 10]])])
theorem r40 : Fn Tryz.prog 257 a40 [] v40 [] ∧ v40.isT = true := fn_of_E (fuel := 10000) (d := 60) fns_ok k39 (show fns 257 = some fr257 from rfl) (by kernel_rfl)
def l40 : List (Nat × List W × V) := (257, a40, v40) :: l39
theorem k40 : TabOk Tryz.prog (tabOf l40) := tab_cons k39 r40
-- garment/ratio.Sub
def a41 : List W := [.agg [.t (bo false), .t (.lst 1 []), .t (.lst 1 [[u 1]])], .agg [.t (bo false), .t (.lst 1 [[u 10]]), .t (.lst 1 [[u 1]])]]
def v41 : V := .w (.agg [.t (bo true), .t (.lst 1 [[u 10]]), .t (.lst 1 [[u 1]])])
theorem r41 : Fn Tryz.prog 250 a41 [] v41 [] ∧ v41.isT = true := fn_of_E (fuel := 10000) (d := 60) fns_ok k40 (show fns 250 = some fr250 from rfl) (by kernel_rfl)
def l41 : List (Nat × List W × V) := (250, a41, v41) :: l40
theorem k41 : TabOk Tryz.prog (tabOf l41) := tab_cons k40 r41
-- garment/point.Sub
def a42 : List W := [.agg [.t (bo false), .t (.lst 1 []), .t (.lst 1 [[u 1]]), .t (bo false), .t (.lst 1 []), .t (.lst 1 [[u 1]])], .agg [.t (bo false), .t (.lst 1 []), .t (.lst 1 [[u 1]]), .t (bo false), .t (.lst 1 [[u 10]]), .t (.lst 1 [[u 1]])]]
def v42 : V := .w (.agg [.t (bo false), .t (.lst 1 []), .t (.lst 1 [[u 1]]), .t (bo true), .t (.lst 1 [[u 10]]), .t (.lst 1 [[u 1]])])
theorem r42 : Fn Tryz.prog 216 a42 [] v42 [] ∧ v42.isT = true := fn_of_E (fuel := 10000) (d := 60) fns_ok k41 (show fns 216 = some fr216 from rfl) (by kernel_rfl)
def l42 : List (Nat × List W × V) := (216, a42, v42) :: l41
theorem k42 : TabOk Tryz.prog (tabOf l42) := tab_cons k41 r42
-- garment/ratio.Mul
def a43 : List W := [.agg [.t (bo false), .t (.lst 1 []), .t (.lst 1 [[u 1]])], .agg [.t (bo false), .t (.lst 1 []), .t (.lst 1 [[u 1]])]]
def v43 : V := .w (.agg [.t (bo false), .t (.lst 1 []), .t (.lst 1 [[u 1]])])
theorem r43 : Fn Tryz.prog 269 a43 [] v43 [] ∧ v43.isT = true := fn_of_E (fuel := 10000) (d := 60) fns_ok k42 (show fns 269 = some fr269 from rfl) (by kernel_rfl)
def l43 : List (Nat × List W × V) := (269, a43, v43) :: l42
theorem k43 : TabOk Tryz.prog (tabOf l43) := tab_cons k42 r43
-- garment/natural.Mul
def a44 : List W := [.one (.t (.lst 1 [[u 10]])), .one (.t (.lst 1 [[u 10]]))]
def v44 : V := .w (.one (.t (.lst 1 [[u 100]])))
theorem r44 : Fn Tryz.prog 267 a44 [] v44 [] ∧ v44.isT = true := fn_of_E (fuel := 10000) (d := 60) fns_ok k43 (show fns 267 = some fr267 from rfl) (by kernel_rfl)
def l44 : List (Nat × List W × V) := (267, a44, v44) :: l43
theorem k44 : TabOk Tryz.prog (tabOf l44) := tab_cons k43 r44
-- garment/natural.DivMod
def a45 : List W := [.one (.t (.lst 1 [[u 100]])), .one (.t (.lst 1 [[u 1]]))]
def v45 : V := .tup [.one (.t (.lst 1 [[u 100]])), .one (.t (.lst 1 [])), .one (.t (bo true))]
theorem r45 : Fn Tryz.prog 291 a45 [] v45 [] ∧ v45.isT = true := fn_of_E (fuel := 10000) (d := 60) fns_ok k44 (show fns 291 = some fr291 from rfl) (by kernel_rfl)
def l45 : List (Nat × List W × V) := (291, a45, v45) :: l44
theorem k45 : TabOk Tryz.prog (tabOf l45) := tab_cons k44 r45
-- garment/ratio.reduce
def a46 : List W := [.agg [.t (bo true), .t (.lst 1 [[u 100]])], .one (.t (.lst 1 [[u 1]]))]
def v46 : V := .w (.agg [.t (bo true), .t (.lst 1 [[u 100]]), .t (.lst 1 [[u 1]])])
theorem r46 : Fn Tryz.prog 268 a46 [] v46 [] ∧ v46.isT = true := fn_of_E (fuel := 10000) (d := 60) fns_ok k45 (show fns 268 = some fr268 from rfl) (by kernel_rfl)
def l46 : List (Nat × List W × V) := (268, a46, v46) :: l45
theorem k46 : TabOk Tryz.prog (tabOf l46) := tab_cons k45 r46
-- garment/integer.signed
def a47 : List W := [.one (.t (bo false)), .one (.t (.lst 1 [[u 100]]))]
def v47 : V := .w (.agg [.t (bo false), .t (.lst 1 [[u 100]])])
theorem r47 : Fn Tryz.prog 285 a47 [] v47 [] ∧ v47.isT = true := fn_of_E (fuel := 10000) (d := 60) fns_ok k46 (show fns 285 = some fr285 from rfl) (by kernel_rfl)
def l47 : List (Nat × List W × V) := (285, a47, v47) :: l46
theorem k47 : TabOk Tryz.prog (tabOf l47) := tab_cons k46 r47
-- garment/ratio.reduce
def a48 : List W := [.agg [.t (bo false), .t (.lst 1 [[u 100]])], .one (.t (.lst 1 [[u 1]]))]
def v48 : V := .w (.agg [.t (bo false), .t (.lst 1 [[u 100]]), .t (.lst 1 [[u 1]])])
theorem r48 : Fn Tryz.prog 268 a48 [] v48 [] ∧ v48.isT = true := fn_of_E (fuel := 10000) (d := 60) fns_ok k47 (show fns 268 = some fr268 from rfl) (by kernel_rfl)
def l48 : List (Nat × List W × V) := (268, a48, v48) :: l47
theorem k48 : TabOk Tryz.prog (tabOf l48) := tab_cons k47 r48
-- garment/ratio.Sub
def a49 : List W := [.agg [.t (bo false), .t (.lst 1 []), .t (.lst 1 [[u 1]])], .agg [.t (bo true), .t (.lst 1 [[u 100]]), .t (.lst 1 [[u 1]])]]
def v49 : V := .w (.agg [.t (bo false), .t (.lst 1 [[u 100]]), .t (.lst 1 [[u 1]])])
theorem r49 : Fn Tryz.prog 250 a49 [] v49 [] ∧ v49.isT = true := fn_of_E (fuel := 10000) (d := 60) fns_ok k48 (show fns 250 = some fr250 from rfl) (by kernel_rfl)
def l49 : List (Nat × List W × V) := (250, a49, v49) :: l48
theorem k49 : TabOk Tryz.prog (tabOf l49) := tab_cons k48 r49
-- garment/natural.DivMod
def a50 : List W := [.one (.t (.lst 1 [[u 100]])), .one (.t (.lst 1 [[u 100]]))]
def v50 : V := .tup [.one (.t (.lst 1 [[u 1]])), .one (.t (.lst 1 [])), .one (.t (bo true))]
theorem r50 : Fn Tryz.prog 291 a50 [] v50 [] ∧ v50.isT = true := fn_of_E (fuel := 10000) (d := 60) fns_ok k49 (show fns 291 = some fr291 from rfl) (by kernel_rfl)
def l50 : List (Nat × List W × V) := (291, a50, v50) :: l49
theorem k50 : TabOk Tryz.prog (tabOf l50) := tab_cons k49 r50
-- garment/ratio.Div
def a51 : List W := [.agg [.t (bo false), .t (.lst 1 [[u 100]]), .t (.lst 1 [[u 1]])], .agg [.t (bo false), .t (.lst 1 [[u 100]]), .t (.lst 1 [[u 1]])]]
def v51 : V := .tup [.agg [.t (bo false), .t (.lst 1 [[u 1]]), .t (.lst 1 [[u 1]])], .one (.t (bo true))]
theorem r51 : Fn Tryz.prog 245 a51 [] v51 [] ∧ v51.isT = true := fn_of_E (fuel := 10000) (d := 60) fns_ok k50 (show fns 245 = some fr245 from rfl) (by kernel_rfl)
def l51 : List (Nat × List W × V) := (245, a51, v51) :: l50
theorem k51 : TabOk Tryz.prog (tabOf l51) := tab_cons k50 r51
-- garment/ratio.Mul
def a52 : List W := [.agg [.t (bo false), .t (.lst 1 []), .t (.lst 1 [[u 1]])], .agg [.t (bo false), .t (.lst 1 [[u 1]]), .t (.lst 1 [[u 1]])]]
def v52 : V := .w (.agg [.t (bo false), .t (.lst 1 []), .t (.lst 1 [[u 1]])])
theorem r52 : Fn Tryz.prog 269 a52 [] v52 [] ∧ v52.isT = true := fn_of_E (fuel := 10000) (d := 60) fns_ok k51 (show fns 269 = some fr269 from rfl) (by kernel_rfl)
def l52 : List (Nat × List W × V) := (269, a52, v52) :: l51
theorem k52 : TabOk Tryz.prog (tabOf l52) := tab_cons k51 r52
-- garment/ratio.Add
def a53 : List W := [.agg [.t (bo false), .t (.lst 1 [[u 10]]), .t (.lst 1 [[u 1]])], .agg [.t (bo true), .t (.lst 1 [[u 10]]), .t (.lst 1 [[u 1]])]]
def v53 : V := .w (.agg [.t (bo false), .t (.lst 1 []), .t (.lst 1 [[u 1]])])
theorem r53 : Fn Tryz.prog 275 a53 [] v53 [] ∧ v53.isT = true := fn_of_E (fuel := 10000) (d := 60) fns_ok k52 (show fns 275 = some fr275 from rfl) (by kernel_rfl)
def l53 : List (Nat × List W × V) := (275, a53, v53) :: l52
theorem k53 : TabOk Tryz.prog (tabOf l53) := tab_cons k52 r53
-- garment/point.On
def a54 : List W := [.agg [.t (bo false), .t (.lst 1 []), .t (.lst 1 [[u 1]]), .t (bo false), .t (.lst 1 [[u 10]]), .t (.lst 1 [[u 1]])], .agg [.t (bo false), .t (.lst 1 []), .t (.lst 1 [[u 1]]), .t (bo false), .t (.lst 1 []), .t (.lst 1 [[u 1]])], .agg [.t (bo false), .t (.lst 1 [[u 1]]), .t (.lst 1 [[u 1]])]]
def v54 : V := .w (.agg [.t (bo false), .t (.lst 1 []), .t (.lst 1 [[u 1]]), .t (bo false), .t (.lst 1 []), .t (.lst 1 [[u 1]])])
theorem r54 : Fn Tryz.prog 247 a54 [] v54 [] ∧ v54.isT = true := fn_of_E (fuel := 10000) (d := 60) fns_ok k53 (show fns 247 = some fr247 from rfl) (by kernel_rfl)
def l54 : List (Nat × List W × V) := (247, a54, v54) :: l53
theorem k54 : TabOk Tryz.prog (tabOf l54) := tab_cons k53 r54
-- garment/point.coordinate
def a55 : List W := [.agg [.t (bo false), .t (.lst 1 []), .t (.lst 1 [[u 1]])]]
def v55 : V := .tup [.one (.t (i 0)), .one (.t (bo true))]
theorem r55 : Fn Tryz.prog 249 a55 [] v55 [] ∧ v55.isT = true := fn_of_E (fuel := 10000) (d := 60) fns_ok k54 (show fns 249 = some fr249 from rfl) (by kernel_rfl)
def l55 : List (Nat × List W × V) := (249, a55, v55) :: l54
theorem k55 : TabOk Tryz.prog (tabOf l55) := tab_cons k54 r55
-- garment/point.Grid
def a56 : List W := [.agg [.t (bo false), .t (.lst 1 []), .t (.lst 1 [[u 1]]), .t (bo false), .t (.lst 1 []), .t (.lst 1 [[u 1]])]]
def v56 : V := .tup [.agg [.t (i 0), .t (i 0)], .one (.t (i 0))]
theorem r56 : Fn Tryz.prog 215 a56 [] v56 [] ∧ v56.isT = true := fn_of_E (fuel := 10000) (d := 60) fns_ok k55 (show fns 215 = some fr215 from rfl) (by kernel_rfl)
def l56 : List (Nat × List W × V) := (215, a56, v56) :: l55
theorem k56 : TabOk Tryz.prog (tabOf l56) := tab_cons k55 r56
-- garment/allowance.exact
def a57 : List W := [.agg [.t (i 10), .t (i 10)]]
def v57 : V := .w (.agg [.t (bo false), .t (.lst 1 [[u 10]]), .t (.lst 1 [[u 1]]), .t (bo false), .t (.lst 1 [[u 10]]), .t (.lst 1 [[u 1]])])
theorem r57 : Fn Tryz.prog 214 a57 [] v57 [] ∧ v57.isT = true := fn_of_E (fuel := 10000) (d := 60) fns_ok k56 (show fns 214 = some fr214 from rfl) (by kernel_rfl)
def l57 : List (Nat × List W × V) := (214, a57, v57) :: l56
theorem k57 : TabOk Tryz.prog (tabOf l57) := tab_cons k56 r57
-- garment/ratio.Sub
def a58 : List W := [.agg [.t (bo false), .t (.lst 1 [[u 10]]), .t (.lst 1 [[u 1]])], .agg [.t (bo false), .t (.lst 1 [[u 10]]), .t (.lst 1 [[u 1]])]]
def v58 : V := .w (.agg [.t (bo false), .t (.lst 1 []), .t (.lst 1 [[u 1]])])
theorem r58 : Fn Tryz.prog 250 a58 [] v58 [] ∧ v58.isT = true := fn_of_E (fuel := 10000) (d := 60) fns_ok k57 (show fns 250 = some fr250 from rfl) (by kernel_rfl)
def l58 : List (Nat × List W × V) := (250, a58, v58) :: l57
theorem k58 : TabOk Tryz.prog (tabOf l58) := tab_cons k57 r58
-- garment/point.Sub
def a59 : List W := [.agg [.t (bo false), .t (.lst 1 [[u 10]]), .t (.lst 1 [[u 1]]), .t (bo false), .t (.lst 1 [[u 10]]), .t (.lst 1 [[u 1]])], .agg [.t (bo false), .t (.lst 1 [[u 10]]), .t (.lst 1 [[u 1]]), .t (bo false), .t (.lst 1 []), .t (.lst 1 [[u 1]])]]
def v59 : V := .w (.agg [.t (bo false), .t (.lst 1 []), .t (.lst 1 [[u 1]]), .t (bo false), .t (.lst 1 [[u 10]]), .t (.lst 1 [[u 1]])])
theorem r59 : Fn Tryz.prog 216 a59 [] v59 [] ∧ v59.isT = true := fn_of_E (fuel := 10000) (d := 60) fns_ok k58 (show fns 216 = some fr216 from rfl) (by kernel_rfl)
def l59 : List (Nat × List W × V) := (216, a59, v59) :: l58
theorem k59 : TabOk Tryz.prog (tabOf l59) := tab_cons k58 r59
-- garment/ratio.Sub
def a60 : List W := [.agg [.t (bo false), .t (.lst 1 [[u 100]]), .t (.lst 1 [[u 1]])], .agg [.t (bo false), .t (.lst 1 []), .t (.lst 1 [[u 1]])]]
def v60 : V := .w (.agg [.t (bo false), .t (.lst 1 [[u 100]]), .t (.lst 1 [[u 1]])])
theorem r60 : Fn Tryz.prog 250 a60 [] v60 [] ∧ v60.isT = true := fn_of_E (fuel := 10000) (d := 60) fns_ok k59 (show fns 250 = some fr250 from rfl) (by kernel_rfl)
def l60 : List (Nat × List W × V) := (250, a60, v60) :: l59
theorem k60 : TabOk Tryz.prog (tabOf l60) := tab_cons k59 r60
-- garment/ratio.Add
def a61 : List W := [.agg [.t (bo false), .t (.lst 1 []), .t (.lst 1 [[u 1]])], .agg [.t (bo false), .t (.lst 1 [[u 10]]), .t (.lst 1 [[u 1]])]]
def v61 : V := .w (.agg [.t (bo false), .t (.lst 1 [[u 10]]), .t (.lst 1 [[u 1]])])
theorem r61 : Fn Tryz.prog 275 a61 [] v61 [] ∧ v61.isT = true := fn_of_E (fuel := 10000) (d := 60) fns_ok k60 (show fns 275 = some fr275 from rfl) (by kernel_rfl)
def l61 : List (Nat × List W × V) := (275, a61, v61) :: l60
theorem k61 : TabOk Tryz.prog (tabOf l61) := tab_cons k60 r61
-- garment/point.Sub
def a62 : List W := [.agg [.t (bo false), .t (.lst 1 []), .t (.lst 1 [[u 1]]), .t (bo false), .t (.lst 1 [[u 10]]), .t (.lst 1 [[u 1]])], .agg [.t (bo false), .t (.lst 1 [[u 10]]), .t (.lst 1 [[u 1]]), .t (bo false), .t (.lst 1 [[u 10]]), .t (.lst 1 [[u 1]])]]
def v62 : V := .w (.agg [.t (bo true), .t (.lst 1 [[u 10]]), .t (.lst 1 [[u 1]]), .t (bo false), .t (.lst 1 []), .t (.lst 1 [[u 1]])])
theorem r62 : Fn Tryz.prog 216 a62 [] v62 [] ∧ v62.isT = true := fn_of_E (fuel := 10000) (d := 60) fns_ok k61 (show fns 216 = some fr216 from rfl) (by kernel_rfl)
def l62 : List (Nat × List W × V) := (216, a62, v62) :: l61
theorem k62 : TabOk Tryz.prog (tabOf l62) := tab_cons k61 r62
-- garment/allowance.Allow
def a63 : List W := [.one (.t (.lst 2 [[.val (.string ⟨#[108, 111, 119]⟩), .lst 2 [[i 0, i 0], [i 10, i 0]]], [.val (.string ⟨#[114, 105, 103, 104, 116]⟩), .lst 2 [[i 10, i 0], [i 10, i 10]]], [.val (.string ⟨#[104, 105, 103, 104]⟩), .lst 2 [[i 10, i 10], [i 0, i 10]]], [.val (.string ⟨#[108, 101, 102, 116]⟩), .lst 2 [[i 0, i 10], [i 0, i 0]]]])), .one (.t (.lst 1 [[i 0], [i 0], [i 0], [i 0]]))]
def v63 : V := .tup [.one (.t (.lst 2 [[i 0, i 0], [i 10, i 0], [i 10, i 10], [i 0, i 10]])), .one (.t (i 0))]
theorem r63 : Fn Tryz.prog 122 a63 [] v63 [] ∧ v63.isT = true := fn_of_E (fuel := 10000) (d := 60) fns_ok k62 (show fns 122 = some fr122 from rfl) (by kernel_rfl)
def l63 : List (Nat × List W × V) := (122, a63, v63) :: l62
theorem k63 : TabOk Tryz.prog (tabOf l63) := tab_cons k62 r63
-- garment/style.Cut
def a64 : List W := [.agg [.t (.val (.string ⟨#[115, 104, 105, 114, 116]⟩)), .t (.lst 1 [[.val (.string ⟨#[83]⟩)], [.val (.string ⟨#[77]⟩)]]), .t (.lst 1 [[i 0], [i 2]]), .t (.lst 7 [[.val (.string ⟨#[102, 114, 111, 110, 116]⟩), .lst 2 [[.val (.string ⟨#[108, 111, 119]⟩), .lst 2 [[i 0, i 0], [i 10, i 0]]], [.val (.string ⟨#[114, 105, 103, 104, 116]⟩), .lst 2 [[i 10, i 0], [i 10, i 10]]], [.val (.string ⟨#[104, 105, 103, 104]⟩), .lst 2 [[i 10, i 10], [i 0, i 10]]], [.val (.string ⟨#[108, 101, 102, 116]⟩), .lst 2 [[i 0, i 10], [i 0, i 0]]]], i 1, nl, .lst 2 [[i 0, i 0], [i 1, i 0], [i 1, i 0], [i 0, i 0]], .lst 1 [[i 0], [i 0], [i 0], [i 0]], bo false]]), .t (.lst 3 [[i 0, i 2, bo true]]), .t (nl), .t (.lst 5 [[.val (.string ⟨#[106, 111, 105, 110]⟩), i 0, i 100, nl, .lst 1 [[i 0]]]])], .one (.t (i 0)), .one (.t (i 0))]
def v64 : V := .tup [.one (.t (.lst 2 [[i 0, i 0], [i 10, i 0], [i 10, i 10], [i 0, i 10]])), .one (.t (i 0))]
theorem r64 : Fn Tryz.prog 181 a64 [] v64 [] ∧ v64.isT = true := fn_of_E (fuel := 10000) (d := 60) fns_ok k63 (show fns 181 = some fr181 from rfl) (by kernel_rfl)
def l64 : List (Nat × List W × V) := (181, a64, v64) :: l63
theorem k64 : TabOk Tryz.prog (tabOf l64) := tab_cons k63 r64
-- garment/place.Poly
def a65 : List W := [.one (.t (.lst 5 [[.lst 2 [[i 0, i 0], [i 10, i 0], [i 10, i 10], [i 0, i 10]], i 1, bo false, i 0, i 0], [.lst 2 [[i 0, i 10], [i (-10), i 10], [i (-10), i 0], [i 0, i 0]], i 1, bo false, i 0, i 0]])), .agg [.t (i 0), .t (bo false), .t (i 0), .t (i 0), .t (i 0)]]
def v65 : V := .tup [.one (.t (.lst 2 [[i 0, i 0], [i 10, i 0], [i 10, i 10], [i 0, i 10]])), .one (.t (i 0))]
theorem r65 : Fn Tryz.prog 59 a65 [] v65 [] ∧ v65.isT = true := fn_of_E (fuel := 10000) (d := 60) fns_ok k64 (show fns 59 = some fr59 from rfl) (by kernel_rfl)
def l65 : List (Nat × List W × V) := (59, a65, v65) :: l64
theorem k65 : TabOk Tryz.prog (tabOf l65) := tab_cons k64 r65
-- garment/polygon.Check
def a66 : List W := [.one (.t (.lst 2 [[i 20, i 10], [i 10, i 10], [i 10, i 0], [i 20, i 0]]))]
def v66 : V := .w (.one (.t (i 0)))
theorem r66 : Fn Tryz.prog 105 a66 [] v66 [] ∧ v66.isT = true := fn_of_E (fuel := 10000) (d := 60) fns_ok k65 (show fns 105 = some fr105 from rfl) (by kernel_rfl)
def l66 : List (Nat × List W × V) := (105, a66, v66) :: l65
theorem k66 : TabOk Tryz.prog (tabOf l66) := tab_cons k65 r66
-- garment/place.Poly
def a67 : List W := [.one (.t (.lst 5 [[.lst 2 [[i 0, i 0], [i 10, i 0], [i 10, i 10], [i 0, i 10]], i 1, bo false, i 0, i 0], [.lst 2 [[i 0, i 10], [i (-10), i 10], [i (-10), i 0], [i 0, i 0]], i 1, bo false, i 0, i 0]])), .agg [.t (i 1), .t (bo false), .t (i 0), .t (i 20), .t (i 0)]]
def v67 : V := .tup [.one (.t (.lst 2 [[i 20, i 10], [i 10, i 10], [i 10, i 0], [i 20, i 0]])), .one (.t (i 0))]
theorem r67 : Fn Tryz.prog 59 a67 [] v67 [] ∧ v67.isT = true := fn_of_E (fuel := 10000) (d := 60) fns_ok k66 (show fns 59 = some fr59 from rfl) (by kernel_rfl)
def l67 : List (Nat × List W × V) := (59, a67, v67) :: l66
theorem k67 : TabOk Tryz.prog (tabOf l67) := tab_cons k66 r67
-- cmp.Compare[int]
def a68 : List W := [.one (.t (i (-100))), .one (.t (i 0))]
def v68 : V := .w (.one (.t (i (-1))))
theorem r68 : Fn Tryz.prog 27 a68 [] v68 [] ∧ v68.isT = true := fn_of_E (fuel := 10000) (d := 60) fns_ok k67 (show fns 27 = some fr27 from rfl) (by kernel_rfl)
def l68 : List (Nat × List W × V) := (27, a68, v68) :: l67
theorem k68 : TabOk Tryz.prog (tabOf l68) := tab_cons k67 r68
-- garment/marker.arranged
def a69 : List W := [.agg [.t (.val (.string ⟨#[115, 104, 105, 114, 116]⟩)), .t (.lst 1 [[.val (.string ⟨#[83]⟩)], [.val (.string ⟨#[77]⟩)]]), .t (.lst 1 [[i 0], [i 2]]), .t (.lst 7 [[.val (.string ⟨#[102, 114, 111, 110, 116]⟩), .lst 2 [[.val (.string ⟨#[108, 111, 119]⟩), .lst 2 [[i 0, i 0], [i 10, i 0]]], [.val (.string ⟨#[114, 105, 103, 104, 116]⟩), .lst 2 [[i 10, i 0], [i 10, i 10]]], [.val (.string ⟨#[104, 105, 103, 104]⟩), .lst 2 [[i 10, i 10], [i 0, i 10]]], [.val (.string ⟨#[108, 101, 102, 116]⟩), .lst 2 [[i 0, i 10], [i 0, i 0]]]], i 1, nl, .lst 2 [[i 0, i 0], [i 1, i 0], [i 1, i 0], [i 0, i 0]], .lst 1 [[i 0], [i 0], [i 0], [i 0]], bo false]]), .t (.lst 3 [[i 0, i 2, bo true]]), .t (nl), .t (.lst 5 [[.val (.string ⟨#[106, 111, 105, 110]⟩), i 0, i 100, nl, .lst 1 [[i 0]]]])], .agg [.t (i 20), .t (i 10), .t (i 0), .t (i 0), .t (.lst 1 [[i 0]]), .t (.lst 7 [[i 0, i 0, i 0, bo false, i 0, i 0, i 0], [i 0, i 0, i 1, bo true, i 0, i 20, i 0]])]]
def v69 : V := .tup [.one (.t (.lst 5 [[.lst 2 [[i 0, i 0], [i 10, i 0], [i 10, i 10], [i 0, i 10]], i 1, bo false, i 0, i 0], [.lst 2 [[i 0, i 10], [i (-10), i 10], [i (-10), i 0], [i 0, i 0]], i 1, bo false, i 0, i 0]])), .one (.t (.lst 5 [[i 0, bo false, i 0, i 0, i 0], [i 1, bo false, i 0, i 20, i 0]])), .one (.t (i 0))]
theorem r69 : Fn Tryz.prog 58 a69 [] v69 [] ∧ v69.isT = true := fn_of_E (fuel := 10000) (d := 60) fns_ok k68 (show fns 58 = some fr58 from rfl) (by kernel_rfl)
def l69 : List (Nat × List W × V) := (58, a69, v69) :: l68
theorem k69 : TabOk Tryz.prog (tabOf l69) := tab_cons k68 r69
-- garment/marker.Polys
def a70 : List W := [.agg [.t (.val (.string ⟨#[115, 104, 105, 114, 116]⟩)), .t (.lst 1 [[.val (.string ⟨#[83]⟩)], [.val (.string ⟨#[77]⟩)]]), .t (.lst 1 [[i 0], [i 2]]), .t (.lst 7 [[.val (.string ⟨#[102, 114, 111, 110, 116]⟩), .lst 2 [[.val (.string ⟨#[108, 111, 119]⟩), .lst 2 [[i 0, i 0], [i 10, i 0]]], [.val (.string ⟨#[114, 105, 103, 104, 116]⟩), .lst 2 [[i 10, i 0], [i 10, i 10]]], [.val (.string ⟨#[104, 105, 103, 104]⟩), .lst 2 [[i 10, i 10], [i 0, i 10]]], [.val (.string ⟨#[108, 101, 102, 116]⟩), .lst 2 [[i 0, i 10], [i 0, i 0]]]], i 1, nl, .lst 2 [[i 0, i 0], [i 1, i 0], [i 1, i 0], [i 0, i 0]], .lst 1 [[i 0], [i 0], [i 0], [i 0]], bo false]]), .t (.lst 3 [[i 0, i 2, bo true]]), .t (nl), .t (.lst 5 [[.val (.string ⟨#[106, 111, 105, 110]⟩), i 0, i 100, nl, .lst 1 [[i 0]]]])], .agg [.t (i 20), .t (i 10), .t (i 0), .t (i 0), .t (.lst 1 [[i 0]]), .t (.lst 7 [[i 0, i 0, i 0, bo false, i 0, i 0, i 0], [i 0, i 0, i 1, bo true, i 0, i 20, i 0]])]]
def v70 : V := .tup [.one (.t (.lst 1 [[.lst 2 [[i 0, i 0], [i 10, i 0], [i 10, i 10], [i 0, i 10]]], [.lst 2 [[i 20, i 10], [i 10, i 10], [i 10, i 0], [i 20, i 0]]]])), .one (.t (i 0))]
theorem r70 : Fn Tryz.prog 32 a70 [] v70 [] ∧ v70.isT = true := fn_of_E (fuel := 10000) (d := 60) fns_ok k69 (show fns 32 = some fr32 from rfl) (by kernel_rfl)
def l70 : List (Nat × List W × V) := (32, a70, v70) :: l69
theorem k70 : TabOk Tryz.prog (tabOf l70) := tab_cons k69 r70
-- garment/polygon.Box
def a71 : List W := [.one (.t (.lst 2 [[i 0, i 0], [i 10, i 0], [i 10, i 10], [i 0, i 10]]))]
def v71 : V := .tup [.agg [.t (i 0), .t (i 0), .t (i 10), .t (i 10)], .one (.t (i 0))]
theorem r71 : Fn Tryz.prog 117 a71 [] v71 [] ∧ v71.isT = true := fn_of_E (fuel := 10000) (d := 60) fns_ok k70 (show fns 117 = some fr117 from rfl) (by kernel_rfl)
def l71 : List (Nat × List W × V) := (117, a71, v71) :: l70
theorem k71 : TabOk Tryz.prog (tabOf l71) := tab_cons k70 r71
-- garment/polygon.Box
def a72 : List W := [.one (.t (.lst 2 [[i 20, i 10], [i 10, i 10], [i 10, i 0], [i 20, i 0]]))]
def v72 : V := .tup [.agg [.t (i 10), .t (i 0), .t (i 10), .t (i 10)], .one (.t (i 0))]
theorem r72 : Fn Tryz.prog 117 a72 [] v72 [] ∧ v72.isT = true := fn_of_E (fuel := 10000) (d := 60) fns_ok k71 (show fns 117 = some fr117 from rfl) (by kernel_rfl)
def l72 : List (Nat × List W × V) := (117, a72, v72) :: l71
theorem k72 : TabOk Tryz.prog (tabOf l72) := tab_cons k71 r72
-- garment/roll.Check
def a73 : List W := [.agg [.t (.val (.string ⟨#[65]⟩)), .t (i 10), .t (i 30), .t (i 0), .t (i 0), .t (i 0), .t (nl)]]
def v73 : V := .w (.one (.t (i 0)))
theorem r73 : Fn Tryz.prog 119 a73 [] v73 [] ∧ v73.isT = true := fn_of_E (fuel := 10000) (d := 60) fns_ok k72 (show fns 119 = some fr119 from rfl) (by kernel_rfl)
def l73 : List (Nat × List W × V) := (119, a73, v73) :: l72
theorem k73 : TabOk Tryz.prog (tabOf l73) := tab_cons k72 r73
-- garment/roll.Check
def a74 : List W := [.agg [.t (.val (.string ⟨#[66]⟩)), .t (i 10), .t (i 30), .t (i 0), .t (i 0), .t (i 0), .t (nl)]]
def v74 : V := .w (.one (.t (i 0)))
theorem r74 : Fn Tryz.prog 119 a74 [] v74 [] ∧ v74.isT = true := fn_of_E (fuel := 10000) (d := 60) fns_ok k73 (show fns 119 = some fr119 from rfl) (by kernel_rfl)
def l74 : List (Nat × List W × V) := (119, a74, v74) :: l73
theorem k74 : TabOk Tryz.prog (tabOf l74) := tab_cons k73 r74
-- garment/spread.Check
def a75 : List W := [.agg [.t (i 20), .t (i 10), .t (i 0), .t (i 0), .t (.lst 1 [[i 0]]), .t (.lst 7 [[i 0, i 0, i 0, bo false, i 0, i 0, i 0], [i 0, i 0, i 1, bo true, i 0, i 20, i 0]]), .t (.lst 2 [[i 0, .lst 4 [[i 0, i 0, i 20, i 0]]], [i 1, .lst 4 [[i 1, i 0, i 20, i 0]]]])], .one (.t (.lst 1 [[.lst 2 [[i 0, i 0], [i 10, i 0], [i 10, i 10], [i 0, i 10]]], [.lst 2 [[i 20, i 10], [i 10, i 10], [i 10, i 0], [i 20, i 0]]]])), .one (.t (.lst 7 [[.val (.string ⟨#[65]⟩), i 10, i 30, i 0, i 0, i 0, nl], [.val (.string ⟨#[66]⟩), i 10, i 30, i 0, i 0, i 0, nl]])), .one (.t (.lst 1 [[i 0], [i 1]]))]
def v75 : V := .w (.one (.t (i 0)))
theorem r75 : Fn Tryz.prog 33 a75 [] v75 [] ∧ v75.isT = true := fn_of_E (fuel := 10000) (d := 60) fns_ok k74 (show fns 33 = some fr33 from rfl) (by kernel_rfl)
def l75 : List (Nat × List W × V) := (33, a75, v75) :: l74
theorem k75 : TabOk Tryz.prog (tabOf l75) := tab_cons k74 r75
-- garment/bundle.Check
def a76 : List W := [.agg [.t (i 20), .t (i 10), .t (i 0), .t (i 0), .t (.lst 1 [[i 0]]), .t (.lst 7 [[i 0, i 0, i 0, bo false, i 0, i 0, i 0], [i 0, i 0, i 1, bo true, i 0, i 20, i 0]]), .t (.lst 2 [[i 0, .lst 4 [[i 0, i 0, i 20, i 0]]], [i 1, .lst 4 [[i 1, i 0, i 20, i 0]]]])], .one (.t (.lst 6 [[i 1, i 0, i 0, i 0, i 0, i 1], [i 2, i 0, i 0, i 1, i 1, i 2]]))]
def v76 : V := .w (.one (.t (i 0)))
theorem r76 : Fn Tryz.prog 34 a76 [] v76 [] ∧ v76.isT = true := fn_of_E (fuel := 10000) (d := 60) fns_ok k75 (show fns 34 = some fr34 from rfl) (by kernel_rfl)
def l76 : List (Nat × List W × V) := (34, a76, v76) :: l75
theorem k76 : TabOk Tryz.prog (tabOf l76) := tab_cons k75 r76
-- garment/scan.Judge
def a77 : List W := [.agg [.t (.val (.string ⟨#[115, 104, 105, 114, 116]⟩)), .t (.lst 1 [[.val (.string ⟨#[83]⟩)], [.val (.string ⟨#[77]⟩)]]), .t (.lst 1 [[i 0], [i 2]]), .t (.lst 7 [[.val (.string ⟨#[102, 114, 111, 110, 116]⟩), .lst 2 [[.val (.string ⟨#[108, 111, 119]⟩), .lst 2 [[i 0, i 0], [i 10, i 0]]], [.val (.string ⟨#[114, 105, 103, 104, 116]⟩), .lst 2 [[i 10, i 0], [i 10, i 10]]], [.val (.string ⟨#[104, 105, 103, 104]⟩), .lst 2 [[i 10, i 10], [i 0, i 10]]], [.val (.string ⟨#[108, 101, 102, 116]⟩), .lst 2 [[i 0, i 10], [i 0, i 0]]]], i 1, nl, .lst 2 [[i 0, i 0], [i 1, i 0], [i 1, i 0], [i 0, i 0]], .lst 1 [[i 0], [i 0], [i 0], [i 0]], bo false]]), .t (.lst 3 [[i 0, i 2, bo true]]), .t (nl), .t (.lst 5 [[.val (.string ⟨#[106, 111, 105, 110]⟩), i 0, i 100, nl, .lst 1 [[i 0]]]])], .one (.t (.lst 6 [[i 1, i 0, i 0, i 0, i 0, i 1], [i 2, i 0, i 0, i 1, i 1, i 2]])), .one (.t (.lst 2 [[.val (.string ⟨#[97, 110, 110]⟩), .lst 1 [[i 0]]]])), .one (.t (.lst 4 [[i 1, i 0, i 0, i 5]]))]
def v77 : V := .tup [.one (.t (.lst 1 [[i 1]])), .one (.t (i 0))]
theorem r77 : Fn Tryz.prog 35 a77 [] v77 [] ∧ v77.isT = true := fn_of_E (fuel := 10000) (d := 60) fns_ok k76 (show fns 35 = some fr35 from rfl) (by kernel_rfl)
def l77 : List (Nat × List W × V) := (35, a77, v77) :: l76
theorem k77 : TabOk Tryz.prog (tabOf l77) := tab_cons k76 r77
-- garment/cutting.Pieces
def a78 : List W := [.agg [.t (.val (.string ⟨#[115, 104, 105, 114, 116]⟩)), .t (.lst 1 [[.val (.string ⟨#[83]⟩)], [.val (.string ⟨#[77]⟩)]]), .t (.lst 1 [[i 0], [i 2]]), .t (.lst 7 [[.val (.string ⟨#[102, 114, 111, 110, 116]⟩), .lst 2 [[.val (.string ⟨#[108, 111, 119]⟩), .lst 2 [[i 0, i 0], [i 10, i 0]]], [.val (.string ⟨#[114, 105, 103, 104, 116]⟩), .lst 2 [[i 10, i 0], [i 10, i 10]]], [.val (.string ⟨#[104, 105, 103, 104]⟩), .lst 2 [[i 10, i 10], [i 0, i 10]]], [.val (.string ⟨#[108, 101, 102, 116]⟩), .lst 2 [[i 0, i 10], [i 0, i 0]]]], i 1, nl, .lst 2 [[i 0, i 0], [i 1, i 0], [i 1, i 0], [i 0, i 0]], .lst 1 [[i 0], [i 0], [i 0], [i 0]], bo false]]), .t (.lst 3 [[i 0, i 2, bo true]]), .t (nl), .t (.lst 5 [[.val (.string ⟨#[106, 111, 105, 110]⟩), i 0, i 100, nl, .lst 1 [[i 0]]]])], .agg [.t (i 20), .t (i 10), .t (i 0), .t (i 0), .t (.lst 1 [[i 0]]), .t (.lst 7 [[i 0, i 0, i 0, bo false, i 0, i 0, i 0], [i 0, i 0, i 1, bo true, i 0, i 20, i 0]]), .t (.lst 2 [[i 0, .lst 4 [[i 0, i 0, i 20, i 0]]], [i 1, .lst 4 [[i 1, i 0, i 20, i 0]]]])], .one (.t (.lst 7 [[.val (.string ⟨#[65]⟩), i 10, i 30, i 0, i 0, i 0, nl], [.val (.string ⟨#[66]⟩), i 10, i 30, i 0, i 0, i 0, nl]])), .one (.t (.lst 1 [[i 0], [i 1]]))]
def v78 : V := .tup [.one (.t (.lst 6 [[i 0, i 0, i 0, i 0, .lst 1 [[i 0]], bo false], [i 0, i 1, i 0, i 0, .lst 1 [[i 0]], bo false], [i 1, i 0, i 1, i 0, .lst 1 [[i 1]], bo false], [i 1, i 1, i 1, i 0, .lst 1 [[i 1]], bo false]])), .one (.t (i 0))]
theorem r78 : Fn Tryz.prog 17 a78 [] v78 [] ∧ v78.isT = true := fn_of_E (fuel := 10000) (d := 60) fns_ok k77 (show fns 17 = some fr17 from rfl) (by kernel_rfl)
def l78 : List (Nat × List W × V) := (17, a78, v78) :: l77
theorem k78 : TabOk Tryz.prog (tabOf l78) := tab_cons k77 r78
-- garment/outline.vertices
def a79 : List W := [.one (.t (.lst 2 [[.val (.string ⟨#[108, 111, 119]⟩), .lst 2 [[i 0, i 0], [i 12, i 0]]], [.val (.string ⟨#[114, 105, 103, 104, 116]⟩), .lst 2 [[i 12, i 0], [i 12, i 10]]], [.val (.string ⟨#[104, 105, 103, 104]⟩), .lst 2 [[i 12, i 10], [i 0, i 10]]], [.val (.string ⟨#[108, 101, 102, 116]⟩), .lst 2 [[i 0, i 10], [i 0, i 0]]]]))]
def v79 : V := .w (.one (.t (.lst 2 [[i 0, i 0], [i 12, i 0], [i 12, i 10], [i 0, i 10]])))
theorem r79 : Fn Tryz.prog 209 a79 [] v79 [] ∧ v79.isT = true := fn_of_E (fuel := 10000) (d := 60) fns_ok k78 (show fns 209 = some fr209 from rfl) (by kernel_rfl)
def l79 : List (Nat × List W × V) := (209, a79, v79) :: l78
theorem k79 : TabOk Tryz.prog (tabOf l79) := tab_cons k78 r79
-- garment/polygon.Check
def a80 : List W := [.one (.t (.lst 2 [[i 0, i 0], [i 12, i 0], [i 12, i 10], [i 0, i 10]]))]
def v80 : V := .w (.one (.t (i 0)))
theorem r80 : Fn Tryz.prog 105 a80 [] v80 [] ∧ v80.isT = true := fn_of_E (fuel := 10000) (d := 60) fns_ok k79 (show fns 105 = some fr105 from rfl) (by kernel_rfl)
def l80 : List (Nat × List W × V) := (105, a80, v80) :: l79
theorem k80 : TabOk Tryz.prog (tabOf l80) := tab_cons k79 r80
-- garment/outline.Check
def a81 : List W := [.one (.t (.lst 2 [[.val (.string ⟨#[108, 111, 119]⟩), .lst 2 [[i 0, i 0], [i 12, i 0]]], [.val (.string ⟨#[114, 105, 103, 104, 116]⟩), .lst 2 [[i 12, i 0], [i 12, i 10]]], [.val (.string ⟨#[104, 105, 103, 104]⟩), .lst 2 [[i 12, i 10], [i 0, i 10]]], [.val (.string ⟨#[108, 101, 102, 116]⟩), .lst 2 [[i 0, i 10], [i 0, i 0]]]]))]
def v81 : V := .w (.one (.t (i 0)))
theorem r81 : Fn Tryz.prog 161 a81 [] v81 [] ∧ v81.isT = true := fn_of_E (fuel := 10000) (d := 60) fns_ok k80 (show fns 161 = some fr161 from rfl) (by kernel_rfl)
def l81 : List (Nat × List W × V) := (161, a81, v81) :: l80
theorem k81 : TabOk Tryz.prog (tabOf l81) := tab_cons k80 r81
-- garment/grade.Graded
def a82 : List W := [.agg [.t (.val (.string ⟨#[102, 114, 111, 110, 116]⟩)), .t (.lst 2 [[.val (.string ⟨#[108, 111, 119]⟩), .lst 2 [[i 0, i 0], [i 10, i 0]]], [.val (.string ⟨#[114, 105, 103, 104, 116]⟩), .lst 2 [[i 10, i 0], [i 10, i 10]]], [.val (.string ⟨#[104, 105, 103, 104]⟩), .lst 2 [[i 10, i 10], [i 0, i 10]]], [.val (.string ⟨#[108, 101, 102, 116]⟩), .lst 2 [[i 0, i 10], [i 0, i 0]]]]), .t (i 1), .t (nl), .t (.lst 2 [[i 0, i 0], [i 1, i 0], [i 1, i 0], [i 0, i 0]]), .t (.lst 1 [[i 0], [i 0], [i 0], [i 0]]), .t (bo false)], .one (.t (i 2))]
def v82 : V := .tup [.one (.t (.lst 2 [[.val (.string ⟨#[108, 111, 119]⟩), .lst 2 [[i 0, i 0], [i 12, i 0]]], [.val (.string ⟨#[114, 105, 103, 104, 116]⟩), .lst 2 [[i 12, i 0], [i 12, i 10]]], [.val (.string ⟨#[104, 105, 103, 104]⟩), .lst 2 [[i 12, i 10], [i 0, i 10]]], [.val (.string ⟨#[108, 101, 102, 116]⟩), .lst 2 [[i 0, i 10], [i 0, i 0]]]])), .one (.t (i 0))]
theorem r82 : Fn Tryz.prog 121 a82 [] v82 [] ∧ v82.isT = true := fn_of_E (fuel := 10000) (d := 60) fns_ok k81 (show fns 121 = some fr121 from rfl) (by kernel_rfl)
def l82 : List (Nat × List W × V) := (121, a82, v82) :: l81
theorem k82 : TabOk Tryz.prog (tabOf l82) := tab_cons k81 r82
-- garment/polygon.Area2
def a83 : List W := [.one (.t (.lst 2 [[i 0, i 0], [i 12, i 0], [i 12, i 10], [i 0, i 10]]))]
def v83 : V := .w (.one (.t (i 240)))
theorem r83 : Fn Tryz.prog 171 a83 [] v83 [] ∧ v83.isT = true := fn_of_E (fuel := 10000) (d := 60) fns_ok k82 (show fns 171 = some fr171 from rfl) (by kernel_rfl)
def l83 : List (Nat × List W × V) := (171, a83, v83) :: l82
theorem k83 : TabOk Tryz.prog (tabOf l83) := tab_cons k82 r83
-- garment/natural.DivMod
def a84 : List W := [.one (.t (.lst 1 [[u 12]])), .one (.t (.lst 1 [[u 1]]))]
def v84 : V := .tup [.one (.t (.lst 1 [[u 12]])), .one (.t (.lst 1 [])), .one (.t (bo true))]
theorem r84 : Fn Tryz.prog 291 a84 [] v84 [] ∧ v84.isT = true := fn_of_E (fuel := 10000) (d := 60) fns_ok k83 (show fns 291 = some fr291 from rfl) (by kernel_rfl)
def l84 : List (Nat × List W × V) := (291, a84, v84) :: l83
theorem k84 : TabOk Tryz.prog (tabOf l84) := tab_cons k83 r84
-- garment/ratio.reduce
def a85 : List W := [.agg [.t (bo false), .t (.lst 1 [[u 12]])], .one (.t (.lst 1 [[u 1]]))]
def v85 : V := .w (.agg [.t (bo false), .t (.lst 1 [[u 12]]), .t (.lst 1 [[u 1]])])
theorem r85 : Fn Tryz.prog 268 a85 [] v85 [] ∧ v85.isT = true := fn_of_E (fuel := 10000) (d := 60) fns_ok k84 (show fns 268 = some fr268 from rfl) (by kernel_rfl)
def l85 : List (Nat × List W × V) := (268, a85, v85) :: l84
theorem k85 : TabOk Tryz.prog (tabOf l85) := tab_cons k84 r85
-- garment/ratio.Of
def a86 : List W := [.one (.t (i 12)), .one (.t (i 1))]
def v86 : V := .tup [.agg [.t (bo false), .t (.lst 1 [[u 12]]), .t (.lst 1 [[u 1]])], .one (.t (bo true))]
theorem r86 : Fn Tryz.prog 272 a86 [] v86 [] ∧ v86.isT = true := fn_of_E (fuel := 10000) (d := 60) fns_ok k85 (show fns 272 = some fr272 from rfl) (by kernel_rfl)
def l86 : List (Nat × List W × V) := (272, a86, v86) :: l85
theorem k86 : TabOk Tryz.prog (tabOf l86) := tab_cons k85 r86
-- garment/allowance.exact
def a87 : List W := [.agg [.t (i 12), .t (i 0)]]
def v87 : V := .w (.agg [.t (bo false), .t (.lst 1 [[u 12]]), .t (.lst 1 [[u 1]]), .t (bo false), .t (.lst 1 []), .t (.lst 1 [[u 1]])])
theorem r87 : Fn Tryz.prog 214 a87 [] v87 [] ∧ v87.isT = true := fn_of_E (fuel := 10000) (d := 60) fns_ok k86 (show fns 214 = some fr214 from rfl) (by kernel_rfl)
def l87 : List (Nat × List W × V) := (214, a87, v87) :: l86
theorem k87 : TabOk Tryz.prog (tabOf l87) := tab_cons k86 r87
-- garment/integer.Mul
def a88 : List W := [.agg [.t (bo false), .t (.lst 1 [[u 12]])], .agg [.t (bo false), .t (.lst 1 [[u 1]])]]
def v88 : V := .w (.agg [.t (bo false), .t (.lst 1 [[u 12]])])
theorem r88 : Fn Tryz.prog 257 a88 [] v88 [] ∧ v88.isT = true := fn_of_E (fuel := 10000) (d := 60) fns_ok k87 (show fns 257 = some fr257 from rfl) (by kernel_rfl)
def l88 : List (Nat × List W × V) := (257, a88, v88) :: l87
theorem k88 : TabOk Tryz.prog (tabOf l88) := tab_cons k87 r88
-- garment/ratio.Add
def a89 : List W := [.agg [.t (bo false), .t (.lst 1 [[u 12]]), .t (.lst 1 [[u 1]])], .agg [.t (bo false), .t (.lst 1 []), .t (.lst 1 [[u 1]])]]
def v89 : V := .w (.agg [.t (bo false), .t (.lst 1 [[u 12]]), .t (.lst 1 [[u 1]])])
theorem r89 : Fn Tryz.prog 275 a89 [] v89 [] ∧ v89.isT = true := fn_of_E (fuel := 10000) (d := 60) fns_ok k88 (show fns 275 = some fr275 from rfl) (by kernel_rfl)
def l89 : List (Nat × List W × V) := (275, a89, v89) :: l88
theorem k89 : TabOk Tryz.prog (tabOf l89) := tab_cons k88 r89
-- garment/point.Sub
def a90 : List W := [.agg [.t (bo false), .t (.lst 1 [[u 12]]), .t (.lst 1 [[u 1]]), .t (bo false), .t (.lst 1 []), .t (.lst 1 [[u 1]])], .agg [.t (bo false), .t (.lst 1 []), .t (.lst 1 [[u 1]]), .t (bo false), .t (.lst 1 []), .t (.lst 1 [[u 1]])]]
def v90 : V := .w (.agg [.t (bo false), .t (.lst 1 [[u 12]]), .t (.lst 1 [[u 1]]), .t (bo false), .t (.lst 1 []), .t (.lst 1 [[u 1]])])
theorem r90 : Fn Tryz.prog 216 a90 [] v90 [] ∧ v90.isT = true := fn_of_E (fuel := 10000) (d := 60) fns_ok k89 (show fns 216 = some fr216 from rfl) (by kernel_rfl)
def l90 : List (Nat × List W × V) := (216, a90, v90) :: l89
theorem k90 : TabOk Tryz.prog (tabOf l90) := tab_cons k89 r90
-- garment/natural.Mul
def a91 : List W := [.one (.t (.lst 1 [[u 10]])), .one (.t (.lst 1 [[u 12]]))]
def v91 : V := .w (.one (.t (.lst 1 [[u 120]])))
theorem r91 : Fn Tryz.prog 267 a91 [] v91 [] ∧ v91.isT = true := fn_of_E (fuel := 10000) (d := 60) fns_ok k90 (show fns 267 = some fr267 from rfl) (by kernel_rfl)
def l91 : List (Nat × List W × V) := (267, a91, v91) :: l90
theorem k91 : TabOk Tryz.prog (tabOf l91) := tab_cons k90 r91
-- garment/natural.DivMod
def a92 : List W := [.one (.t (.lst 1 [[u 120]])), .one (.t (.lst 1 [[u 1]]))]
def v92 : V := .tup [.one (.t (.lst 1 [[u 120]])), .one (.t (.lst 1 [])), .one (.t (bo true))]
theorem r92 : Fn Tryz.prog 291 a92 [] v92 [] ∧ v92.isT = true := fn_of_E (fuel := 10000) (d := 60) fns_ok k91 (show fns 291 = some fr291 from rfl) (by kernel_rfl)
def l92 : List (Nat × List W × V) := (291, a92, v92) :: l91
theorem k92 : TabOk Tryz.prog (tabOf l92) := tab_cons k91 r92
-- garment/ratio.reduce
def a93 : List W := [.agg [.t (bo true), .t (.lst 1 [[u 120]])], .one (.t (.lst 1 [[u 1]]))]
def v93 : V := .w (.agg [.t (bo true), .t (.lst 1 [[u 120]]), .t (.lst 1 [[u 1]])])
theorem r93 : Fn Tryz.prog 268 a93 [] v93 [] ∧ v93.isT = true := fn_of_E (fuel := 10000) (d := 60) fns_ok k92 (show fns 268 = some fr268 from rfl) (by kernel_rfl)
def l93 : List (Nat × List W × V) := (268, a93, v93) :: l92
theorem k93 : TabOk Tryz.prog (tabOf l93) := tab_cons k92 r93
-- garment/integer.signed
def a94 : List W := [.one (.t (bo false)), .one (.t (.lst 1 [[u 120]]))]
def v94 : V := .w (.agg [.t (bo false), .t (.lst 1 [[u 120]])])
theorem r94 : Fn Tryz.prog 285 a94 [] v94 [] ∧ v94.isT = true := fn_of_E (fuel := 10000) (d := 60) fns_ok k93 (show fns 285 = some fr285 from rfl) (by kernel_rfl)
def l94 : List (Nat × List W × V) := (285, a94, v94) :: l93
theorem k94 : TabOk Tryz.prog (tabOf l94) := tab_cons k93 r94
-- garment/ratio.reduce
def a95 : List W := [.agg [.t (bo false), .t (.lst 1 [[u 120]])], .one (.t (.lst 1 [[u 1]]))]
def v95 : V := .w (.agg [.t (bo false), .t (.lst 1 [[u 120]]), .t (.lst 1 [[u 1]])])
theorem r95 : Fn Tryz.prog 268 a95 [] v95 [] ∧ v95.isT = true := fn_of_E (fuel := 10000) (d := 60) fns_ok k94 (show fns 268 = some fr268 from rfl) (by kernel_rfl)
def l95 : List (Nat × List W × V) := (268, a95, v95) :: l94
theorem k95 : TabOk Tryz.prog (tabOf l95) := tab_cons k94 r95
-- garment/ratio.Sub
def a96 : List W := [.agg [.t (bo false), .t (.lst 1 []), .t (.lst 1 [[u 1]])], .agg [.t (bo true), .t (.lst 1 [[u 120]]), .t (.lst 1 [[u 1]])]]
def v96 : V := .w (.agg [.t (bo false), .t (.lst 1 [[u 120]]), .t (.lst 1 [[u 1]])])
theorem r96 : Fn Tryz.prog 250 a96 [] v96 [] ∧ v96.isT = true := fn_of_E (fuel := 10000) (d := 60) fns_ok k95 (show fns 250 = some fr250 from rfl) (by kernel_rfl)
def l96 : List (Nat × List W × V) := (250, a96, v96) :: l95
theorem k96 : TabOk Tryz.prog (tabOf l96) := tab_cons k95 r96
-- garment/natural.DivMod
def a97 : List W := [.one (.t (.lst 1 [[u 120]])), .one (.t (.lst 1 [[u 120]]))]
def v97 : V := .tup [.one (.t (.lst 1 [[u 1]])), .one (.t (.lst 1 [])), .one (.t (bo true))]
theorem r97 : Fn Tryz.prog 291 a97 [] v97 [] ∧ v97.isT = true := fn_of_E (fuel := 10000) (d := 60) fns_ok k96 (show fns 291 = some fr291 from rfl) (by kernel_rfl)
def l97 : List (Nat × List W × V) := (291, a97, v97) :: l96
theorem k97 : TabOk Tryz.prog (tabOf l97) := tab_cons k96 r97
-- garment/ratio.Div
def a98 : List W := [.agg [.t (bo false), .t (.lst 1 [[u 120]]), .t (.lst 1 [[u 1]])], .agg [.t (bo false), .t (.lst 1 [[u 120]]), .t (.lst 1 [[u 1]])]]
def v98 : V := .tup [.agg [.t (bo false), .t (.lst 1 [[u 1]]), .t (.lst 1 [[u 1]])], .one (.t (bo true))]
theorem r98 : Fn Tryz.prog 245 a98 [] v98 [] ∧ v98.isT = true := fn_of_E (fuel := 10000) (d := 60) fns_ok k97 (show fns 245 = some fr245 from rfl) (by kernel_rfl)
def l98 : List (Nat × List W × V) := (245, a98, v98) :: l97
theorem k98 : TabOk Tryz.prog (tabOf l98) := tab_cons k97 r98
-- garment/allowance.exact
def a99 : List W := [.agg [.t (i 12), .t (i 10)]]
def v99 : V := .w (.agg [.t (bo false), .t (.lst 1 [[u 12]]), .t (.lst 1 [[u 1]]), .t (bo false), .t (.lst 1 [[u 10]]), .t (.lst 1 [[u 1]])])
theorem r99 : Fn Tryz.prog 214 a99 [] v99 [] ∧ v99.isT = true := fn_of_E (fuel := 10000) (d := 60) fns_ok k98 (show fns 214 = some fr214 from rfl) (by kernel_rfl)
def l99 : List (Nat × List W × V) := (214, a99, v99) :: l98
theorem k99 : TabOk Tryz.prog (tabOf l99) := tab_cons k98 r99
-- garment/ratio.reduce
def a100 : List W := [.agg [.t (bo true), .t (.lst 1 [[u 12]])], .one (.t (.lst 1 [[u 1]]))]
def v100 : V := .w (.agg [.t (bo true), .t (.lst 1 [[u 12]]), .t (.lst 1 [[u 1]])])
theorem r100 : Fn Tryz.prog 268 a100 [] v100 [] ∧ v100.isT = true := fn_of_E (fuel := 10000) (d := 60) fns_ok k99 (show fns 268 = some fr268 from rfl) (by kernel_rfl)
def l100 : List (Nat × List W × V) := (268, a100, v100) :: l99
theorem k100 : TabOk Tryz.prog (tabOf l100) := tab_cons k99 r100
-- garment/integer.Mul
def a101 : List W := [.agg [.t (bo true), .t (.lst 1 [[u 12]])], .agg [.t (bo false), .t (.lst 1 [[u 1]])]]
def v101 : V := .w (.agg [.t (bo true), .t (.lst 1 [[u 12]])])
theorem r101 : Fn Tryz.prog 257 a101 [] v101 [] ∧ v101.isT = true := fn_of_E (fuel := 10000) (d := 60) fns_ok k100 (show fns 257 = some fr257 from rfl) (by kernel_rfl)
def l101 : List (Nat × List W × V) := (257, a101, v101) :: l100
theorem k101 : TabOk Tryz.prog (tabOf l101) := tab_cons k100 r101
-- garment/ratio.Add
def a102 : List W := [.agg [.t (bo false), .t (.lst 1 [[u 12]]), .t (.lst 1 [[u 1]])], .agg [.t (bo true), .t (.lst 1 [[u 12]]), .t (.lst 1 [[u 1]])]]
def v102 : V := .w (.agg [.t (bo false), .t (.lst 1 []), .t (.lst 1 [[u 1]])])
theorem r102 : Fn Tryz.prog 275 a102 [] v102 [] ∧ v102.isT = true := fn_of_E (fuel := 10000) (d := 60) fns_ok k101 (show fns 275 = some fr275 from rfl) (by kernel_rfl)
def l102 : List (Nat × List W × V) := (275, a102, v102) :: l101
theorem k102 : TabOk Tryz.prog (tabOf l102) := tab_cons k101 r102
-- garment/ratio.Sub
def a103 : List W := [.agg [.t (bo false), .t (.lst 1 [[u 12]]), .t (.lst 1 [[u 1]])], .agg [.t (bo false), .t (.lst 1 [[u 12]]), .t (.lst 1 [[u 1]])]]
def v103 : V := .w (.agg [.t (bo false), .t (.lst 1 []), .t (.lst 1 [[u 1]])])
theorem r103 : Fn Tryz.prog 250 a103 [] v103 [] ∧ v103.isT = true := fn_of_E (fuel := 10000) (d := 60) fns_ok k102 (show fns 250 = some fr250 from rfl) (by kernel_rfl)
def l103 : List (Nat × List W × V) := (250, a103, v103) :: l102
theorem k103 : TabOk Tryz.prog (tabOf l103) := tab_cons k102 r103
-- garment/point.Sub
def a104 : List W := [.agg [.t (bo false), .t (.lst 1 [[u 12]]), .t (.lst 1 [[u 1]]), .t (bo false), .t (.lst 1 [[u 10]]), .t (.lst 1 [[u 1]])], .agg [.t (bo false), .t (.lst 1 [[u 12]]), .t (.lst 1 [[u 1]]), .t (bo false), .t (.lst 1 []), .t (.lst 1 [[u 1]])]]
def v104 : V := .w (.agg [.t (bo false), .t (.lst 1 []), .t (.lst 1 [[u 1]]), .t (bo false), .t (.lst 1 [[u 10]]), .t (.lst 1 [[u 1]])])
theorem r104 : Fn Tryz.prog 216 a104 [] v104 [] ∧ v104.isT = true := fn_of_E (fuel := 10000) (d := 60) fns_ok k103 (show fns 216 = some fr216 from rfl) (by kernel_rfl)
def l104 : List (Nat × List W × V) := (216, a104, v104) :: l103
theorem k104 : TabOk Tryz.prog (tabOf l104) := tab_cons k103 r104
-- garment/natural.Mul
def a105 : List W := [.one (.t (.lst 1 [[u 12]])), .one (.t (.lst 1 [[u 10]]))]
def v105 : V := .w (.one (.t (.lst 1 [[u 120]])))
theorem r105 : Fn Tryz.prog 267 a105 [] v105 [] ∧ v105.isT = true := fn_of_E (fuel := 10000) (d := 60) fns_ok k104 (show fns 267 = some fr267 from rfl) (by kernel_rfl)
def l105 : List (Nat × List W × V) := (267, a105, v105) :: l104
theorem k105 : TabOk Tryz.prog (tabOf l105) := tab_cons k104 r105
-- garment/ratio.Sub
def a106 : List W := [.agg [.t (bo false), .t (.lst 1 [[u 120]]), .t (.lst 1 [[u 1]])], .agg [.t (bo false), .t (.lst 1 []), .t (.lst 1 [[u 1]])]]
def v106 : V := .w (.agg [.t (bo false), .t (.lst 1 [[u 120]]), .t (.lst 1 [[u 1]])])
theorem r106 : Fn Tryz.prog 250 a106 [] v106 [] ∧ v106.isT = true := fn_of_E (fuel := 10000) (d := 60) fns_ok k105 (show fns 250 = some fr250 from rfl) (by kernel_rfl)
def l106 : List (Nat × List W × V) := (250, a106, v106) :: l105
theorem k106 : TabOk Tryz.prog (tabOf l106) := tab_cons k105 r106
-- garment/point.Sub
def a107 : List W := [.agg [.t (bo false), .t (.lst 1 []), .t (.lst 1 [[u 1]]), .t (bo false), .t (.lst 1 [[u 10]]), .t (.lst 1 [[u 1]])], .agg [.t (bo false), .t (.lst 1 [[u 12]]), .t (.lst 1 [[u 1]]), .t (bo false), .t (.lst 1 [[u 10]]), .t (.lst 1 [[u 1]])]]
def v107 : V := .w (.agg [.t (bo true), .t (.lst 1 [[u 12]]), .t (.lst 1 [[u 1]]), .t (bo false), .t (.lst 1 []), .t (.lst 1 [[u 1]])])
theorem r107 : Fn Tryz.prog 216 a107 [] v107 [] ∧ v107.isT = true := fn_of_E (fuel := 10000) (d := 60) fns_ok k106 (show fns 216 = some fr216 from rfl) (by kernel_rfl)
def l107 : List (Nat × List W × V) := (216, a107, v107) :: l106
theorem k107 : TabOk Tryz.prog (tabOf l107) := tab_cons k106 r107
-- garment/verify.Verify
def a108 : List W := [.agg [.t (.val (.string ⟨#[115, 104, 105, 114, 116]⟩)), .t (.lst 1 [[.val (.string ⟨#[83]⟩)], [.val (.string ⟨#[77]⟩)]]), .t (.lst 1 [[i 0], [i 2]]), .t (.lst 7 [[.val (.string ⟨#[102, 114, 111, 110, 116]⟩), .lst 2 [[.val (.string ⟨#[108, 111, 119]⟩), .lst 2 [[i 0, i 0], [i 10, i 0]]], [.val (.string ⟨#[114, 105, 103, 104, 116]⟩), .lst 2 [[i 10, i 0], [i 10, i 10]]], [.val (.string ⟨#[104, 105, 103, 104]⟩), .lst 2 [[i 10, i 10], [i 0, i 10]]], [.val (.string ⟨#[108, 101, 102, 116]⟩), .lst 2 [[i 0, i 10], [i 0, i 0]]]], i 1, nl, .lst 2 [[i 0, i 0], [i 1, i 0], [i 1, i 0], [i 0, i 0]], .lst 1 [[i 0], [i 0], [i 0], [i 0]], bo false]]), .t (.lst 3 [[i 0, i 2, bo true]]), .t (nl), .t (.lst 5 [[.val (.string ⟨#[106, 111, 105, 110]⟩), i 0, i 100, nl, .lst 1 [[i 0]]]])]]
def v108 : V := .tup [.one (.t (nl)), .one (.t (i 0))]
theorem r108 : Fn Tryz.prog 38 a108 [] v108 [] ∧ v108.isT = true := fn_of_E (fuel := 10000) (d := 60) fns_ok k107 (show fns 38 = some fr38 from rfl) (by kernel_rfl)
def l108 : List (Nat × List W × V) := (38, a108, v108) :: l107
theorem k108 : TabOk Tryz.prog (tabOf l108) := tab_cons k107 r108
-- garment/assembly.Check
def a109 : List W := [.agg [.t (.val (.string ⟨#[115, 104, 105, 114, 116]⟩)), .t (.lst 1 [[.val (.string ⟨#[83]⟩)], [.val (.string ⟨#[77]⟩)]]), .t (.lst 1 [[i 0], [i 2]]), .t (.lst 7 [[.val (.string ⟨#[102, 114, 111, 110, 116]⟩), .lst 2 [[.val (.string ⟨#[108, 111, 119]⟩), .lst 2 [[i 0, i 0], [i 10, i 0]]], [.val (.string ⟨#[114, 105, 103, 104, 116]⟩), .lst 2 [[i 10, i 0], [i 10, i 10]]], [.val (.string ⟨#[104, 105, 103, 104]⟩), .lst 2 [[i 10, i 10], [i 0, i 10]]], [.val (.string ⟨#[108, 101, 102, 116]⟩), .lst 2 [[i 0, i 10], [i 0, i 0]]]], i 1, nl, .lst 2 [[i 0, i 0], [i 1, i 0], [i 1, i 0], [i 0, i 0]], .lst 1 [[i 0], [i 0], [i 0], [i 0]], bo false]]), .t (.lst 3 [[i 0, i 2, bo true]]), .t (nl), .t (.lst 5 [[.val (.string ⟨#[106, 111, 105, 110]⟩), i 0, i 100, nl, .lst 1 [[i 0]]]])], .agg [.t (i 20), .t (i 10), .t (i 0), .t (i 0), .t (.lst 1 [[i 0]]), .t (.lst 7 [[i 0, i 0, i 0, bo false, i 0, i 0, i 0], [i 0, i 0, i 1, bo true, i 0, i 20, i 0]]), .t (.lst 2 [[i 0, .lst 4 [[i 0, i 0, i 20, i 0]]], [i 1, .lst 4 [[i 1, i 0, i 20, i 0]]]])], .one (.t (.lst 6 [[i 1, i 0, i 0, i 0, i 0, i 1], [i 2, i 0, i 0, i 1, i 1, i 2]])), .one (.t (.lst 6 [[i 0, i 0, i 0, i 0, .lst 1 [[i 0]], bo false], [i 0, i 1, i 0, i 0, .lst 1 [[i 0]], bo false], [i 1, i 0, i 1, i 0, .lst 1 [[i 1]], bo false], [i 1, i 1, i 1, i 0, .lst 1 [[i 1]], bo false]])), .one (.t (.lst 5 [[i 1, i 0, i 0, i 0, .lst 1 [[i 0], [i 1]]], [i 2, i 1, i 0, i 1, .lst 1 [[i 2], [i 3]]]]))]
def v109 : V := .w (.one (.t (i 0)))
theorem r109 : Fn Tryz.prog 40 a109 [] v109 [] ∧ v109.isT = true := fn_of_E (fuel := 10000) (d := 60) fns_ok k108 (show fns 40 = some fr40 from rfl) (by kernel_rfl)
def l109 : List (Nat × List W × V) := (40, a109, v109) :: l108
theorem k109 : TabOk Tryz.prog (tabOf l109) := tab_cons k108 r109
-- garment/wage.Pays
def a110 : List W := [.agg [.t (.val (.string ⟨#[115, 104, 105, 114, 116]⟩)), .t (.lst 1 [[.val (.string ⟨#[83]⟩)], [.val (.string ⟨#[77]⟩)]]), .t (.lst 1 [[i 0], [i 2]]), .t (.lst 7 [[.val (.string ⟨#[102, 114, 111, 110, 116]⟩), .lst 2 [[.val (.string ⟨#[108, 111, 119]⟩), .lst 2 [[i 0, i 0], [i 10, i 0]]], [.val (.string ⟨#[114, 105, 103, 104, 116]⟩), .lst 2 [[i 10, i 0], [i 10, i 10]]], [.val (.string ⟨#[104, 105, 103, 104]⟩), .lst 2 [[i 10, i 10], [i 0, i 10]]], [.val (.string ⟨#[108, 101, 102, 116]⟩), .lst 2 [[i 0, i 10], [i 0, i 0]]]], i 1, nl, .lst 2 [[i 0, i 0], [i 1, i 0], [i 1, i 0], [i 0, i 0]], .lst 1 [[i 0], [i 0], [i 0], [i 0]], bo false]]), .t (.lst 3 [[i 0, i 2, bo true]]), .t (nl), .t (.lst 5 [[.val (.string ⟨#[106, 111, 105, 110]⟩), i 0, i 100, nl, .lst 1 [[i 0]]]])], .one (.t (.lst 6 [[i 1, i 0, i 0, i 0, i 0, i 1], [i 2, i 0, i 0, i 1, i 1, i 2]])), .one (.t (.lst 2 [[.val (.string ⟨#[97, 110, 110]⟩), .lst 1 [[i 0]]]])), .one (.t (.lst 4 [[i 1, i 0, i 0, i 5]])), .agg [.t (i 1000), .t (i 50)]]
def v110 : V := .tup [.one (.t (.lst 3 [[i 0, i 10, i 40]])), .one (.t (i 0))]
theorem r110 : Fn Tryz.prog 42 a110 [] v110 [] ∧ v110.isT = true := fn_of_E (fuel := 10000) (d := 60) fns_ok k109 (show fns 42 = some fr42 from rfl) (by kernel_rfl)
def l110 : List (Nat × List W × V) := (42, a110, v110) :: l109
theorem k110 : TabOk Tryz.prog (tabOf l110) := tab_cons k109 r110
-- garment/audit.Issues
def a111 : List W := [.agg [.t (.val (.string ⟨#[115, 104, 105, 114, 116]⟩)), .t (.lst 1 [[.val (.string ⟨#[83]⟩)], [.val (.string ⟨#[77]⟩)]]), .t (.lst 1 [[i 0], [i 2]]), .t (.lst 7 [[.val (.string ⟨#[102, 114, 111, 110, 116]⟩), .lst 2 [[.val (.string ⟨#[108, 111, 119]⟩), .lst 2 [[i 0, i 0], [i 10, i 0]]], [.val (.string ⟨#[114, 105, 103, 104, 116]⟩), .lst 2 [[i 10, i 0], [i 10, i 10]]], [.val (.string ⟨#[104, 105, 103, 104]⟩), .lst 2 [[i 10, i 10], [i 0, i 10]]], [.val (.string ⟨#[108, 101, 102, 116]⟩), .lst 2 [[i 0, i 10], [i 0, i 0]]]], i 1, nl, .lst 2 [[i 0, i 0], [i 1, i 0], [i 1, i 0], [i 0, i 0]], .lst 1 [[i 0], [i 0], [i 0], [i 0]], bo false]]), .t (.lst 3 [[i 0, i 2, bo true]]), .t (nl), .t (.lst 5 [[.val (.string ⟨#[106, 111, 105, 110]⟩), i 0, i 100, nl, .lst 1 [[i 0]]]]), .t (.lst 7 [[.val (.string ⟨#[65]⟩), i 10, i 30, i 0, i 0, i 0, nl], [.val (.string ⟨#[66]⟩), i 10, i 30, i 0, i 0, i 0, nl]]), .t (.lst 1 [[i 0], [i 1]]), .t (i 20), .t (i 10), .t (i 0), .t (i 0), .t (.lst 1 [[i 0]]), .t (.lst 7 [[i 0, i 0, i 0, bo false, i 0, i 0, i 0], [i 0, i 0, i 1, bo true, i 0, i 20, i 0]]), .t (.lst 2 [[i 0, .lst 4 [[i 0, i 0, i 20, i 0]]], [i 1, .lst 4 [[i 1, i 0, i 20, i 0]]]]), .t (.lst 6 [[i 1, i 0, i 0, i 0, i 0, i 1], [i 2, i 0, i 0, i 1, i 1, i 2]]), .t (.lst 5 [[i 1, i 0, i 0, i 0, .lst 1 [[i 0], [i 1]]], [i 2, i 1, i 0, i 1, .lst 1 [[i 2], [i 3]]]]), .t (.lst 2 [[.val (.string ⟨#[97, 110, 110]⟩), .lst 1 [[i 0]]]]), .t (.lst 4 [[i 1, i 0, i 0, i 5]]), .t (i 1000), .t (i 50), .t (.lst 3 [[i 0, i 10, i 40]])]]
def v111 : V := .w (.one (.t (nl)))
theorem r111 : Fn Tryz.prog 10 a111 [] v111 [] ∧ v111.isT = true := fn_of_E (fuel := 10000) (d := 60) fns_ok k110 (show fns 10 = some fr10 from rfl) (by kernel_rfl)
def l111 : List (Nat × List W × V) := (10, a111, v111) :: l110
theorem k111 : TabOk Tryz.prog (tabOf l111) := tab_cons k110 r111
-- strconv.Itoa
def a112 : List W := [.one (.t (i 0))]
def v112 : V := .w (.one (.t (.val (.string ⟨#[48]⟩))))
theorem r112 : Fn Tryz.prog 7 a112 [] v112 [] ∧ v112.isT = true := ⟨by have h := itoa_fn 0 (by decide) (by decide); rw [show Lib.itoa 0 = [48] by simp [Lib.itoa, Lib.decDigits]] at h; exact h, rfl⟩
def l112 : List (Nat × List W × V) := (7, a112, v112) :: l111
theorem k112 : TabOk Tryz.prog (tabOf l112) := tab_cons k111 r112
-- strconv.Itoa
def a113 : List W := [.one (.t (i (-50)))]
def v113 : V := .w (.one (.t (.val (.string ⟨#[45, 53, 48]⟩))))
theorem r113 : Fn Tryz.prog 7 a113 [] v113 [] ∧ v113.isT = true := ⟨by have h := itoa_fn (-50) (by decide) (by decide); rw [show Lib.itoa (-50) = [45, 53, 48] by simp [Lib.itoa, Lib.decDigits]] at h; exact h, rfl⟩
def l113 : List (Nat × List W × V) := (7, a113, v113) :: l112
theorem k113 : TabOk Tryz.prog (tabOf l113) := tab_cons k112 r113
-- garment/audit.Issues
def a114 : List W := [.agg [.t (.val (.string ⟨#[115, 104, 105, 114, 116]⟩)), .t (.lst 1 [[.val (.string ⟨#[83]⟩)], [.val (.string ⟨#[77]⟩)]]), .t (.lst 1 [[i 0], [i 2]]), .t (.lst 7 [[.val (.string ⟨#[102, 114, 111, 110, 116]⟩), .lst 2 [[.val (.string ⟨#[108, 111, 119]⟩), .lst 2 [[i 0, i 0], [i 10, i 0]]], [.val (.string ⟨#[114, 105, 103, 104, 116]⟩), .lst 2 [[i 10, i 0], [i 10, i 10]]], [.val (.string ⟨#[104, 105, 103, 104]⟩), .lst 2 [[i 10, i 10], [i 0, i 10]]], [.val (.string ⟨#[108, 101, 102, 116]⟩), .lst 2 [[i 0, i 10], [i 0, i 0]]]], i 1, nl, .lst 2 [[i 0, i 0], [i 1, i 0], [i 1, i 0], [i 0, i 0]], .lst 1 [[i 0], [i 0], [i 0], [i 0]], bo false]]), .t (.lst 3 [[i 0, i 2, bo true]]), .t (nl), .t (.lst 5 [[.val (.string ⟨#[106, 111, 105, 110]⟩), i 0, i 100, nl, .lst 1 [[i 0]]]]), .t (.lst 7 [[.val (.string ⟨#[65]⟩), i 10, i 30, i 0, i 0, i 0, nl], [.val (.string ⟨#[66]⟩), i 10, i 30, i 0, i 0, i 0, nl]]), .t (.lst 1 [[i 0], [i 1]]), .t (i 20), .t (i 10), .t (i 0), .t (i 0), .t (.lst 1 [[i 0]]), .t (.lst 7 [[i 0, i 0, i 0, bo false, i 0, i 0, i 0], [i 0, i 0, i 1, bo true, i 0, i 20, i 0]]), .t (.lst 2 [[i 0, .lst 4 [[i 0, i 0, i 20, i 0]]], [i 1, .lst 4 [[i 1, i 0, i 20, i 0]]]]), .t (.lst 6 [[i 1, i 0, i 0, i 0, i 0, i 1], [i 2, i 0, i 0, i 1, i 1, i 2]]), .t (.lst 5 [[i 1, i 0, i 0, i 0, .lst 1 [[i 0], [i 1]]], [i 2, i 1, i 0, i 1, .lst 1 [[i 2], [i 3]]]]), .t (.lst 2 [[.val (.string ⟨#[97, 110, 110]⟩), .lst 1 [[i 0]]]]), .t (.lst 4 [[i 1, i 0, i 0, i 5]]), .t (i 1000), .t (i 50), .t (nl)]]
def v114 : V := .w (.one (.t (.lst 3 [[i 6, i 0, i (-50)]])))
theorem r114 : Fn Tryz.prog 10 a114 [] v114 [] ∧ v114.isT = true := fn_of_E (fuel := 10000) (d := 60) fns_ok k113 (show fns 10 = some fr10 from rfl) (by kernel_rfl)
def l114 : List (Nat × List W × V) := (10, a114, v114) :: l113
theorem k114 : TabOk Tryz.prog (tabOf l114) := tab_cons k113 r114
-- garment/garmentlaw59.awake
def a115 : List W := []
def v115 : V := .w (.one (.t (bo true)))
theorem r115 : Fn Tryz.prog 6 a115 [] v115 [] ∧ v115.isT = true := fn_of_E (fuel := 10000) (d := 60) fns_ok k114 (show fns 6 = some fr6 from rfl) (by kernel_rfl)
def l115 : List (Nat × List W × V) := (6, a115, v115) :: l114
theorem k115 : TabOk Tryz.prog (tabOf l115) := tab_cons k114 r115
#print axioms r115
end Go.Abs.Cd
