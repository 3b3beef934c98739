/- The top: what its laws stand on. -/
import Derived.Test.YtialgmhhkbdegaaZc
import Derived.Test.YtialgmhhkbdegaaUA
import Derived.Test.YtialgmhhkbdegaaTl
namespace Go.Proofs.Ytialgmhhkbdegaa
open Go.RowKit
namespace V
abbrev s_Lies : PureT := spec [cPt, cPt, cPt, cI] [cI, cI] (fun _ => true) (fun x => ((LsR x.1.1 x.1.2.1 x.2.1.1 x.2.1.2.1 x.2.2.1.1 x.2.2.1.2.1 x.2.2.2.1).1, (LsR x.1.1 x.1.2.1 x.2.1.1 x.2.1.2.1 x.2.2.1.1 x.2.2.1.2.1 x.2.2.2.1).2, ()))
theorem q_Lies : PureOk Try.prog 11 s_Lies := bridge p_Lies _ _ rfl (fun _ => rfl)
abbrev s_Cuts : PureT := spec [cPt, cPt, cDisc] [.b, cI] (fun _ => true) (fun x => ((CtR x.1.1 x.1.2.1 x.2.1.1 x.2.1.2.1 x.2.2.1.1.1 x.2.2.1.1.2.1 x.2.2.1.2.1).1, (CtR x.1.1 x.1.2.1 x.2.1.1 x.2.1.2.1 x.2.2.1.1.1 x.2.2.1.1.2.1 x.2.2.1.2.1).2, ()))
theorem q_Cuts : PureOk Try.prog 15 s_Cuts := bridge p_Cuts _ _ rfl (fun _ => rfl)
abbrev s_Touch : PureT := spec [cDisc, cDisc] [cI, cI] (fun _ => true) (fun x => ((TcR x.1.1.1 x.1.1.2.1 x.1.2.1 x.2.1.1.1 x.2.1.1.2.1 x.2.1.2.1).1, (TcR x.1.1.1 x.1.1.2.1 x.1.2.1 x.2.1.1.1 x.2.1.1.2.1 x.2.1.2.1).2, ()))
theorem q_Touch : PureOk Try.prog 17 s_Touch := bridge p_Touch _ _ rfl (fun _ => rfl)
abbrev cHoop : TC := .st [cI, cI, cI, cI, .b]
abbrev cCell : TC := .st [cI, cI, cI]
abbrev cLawn : TC := .st [.s, cI, cI, cI, .sl cHoop, cDisc, cI, cI, .sl cCell]
/-! all functions that the laws reach -/
theorem is_w0 : FnIs Try.prog (7, Try.f7) := ⟨Try.func7, by kernel_rfl, by kernel_rfl⟩
theorem is_w1 : FnIs Try.prog (8, Try.f8) := ⟨Try.func8, by kernel_rfl, by kernel_rfl⟩
theorem is_w2 : FnIs Try.prog (9, Try.f9) := ⟨Try.func9, by kernel_rfl, by kernel_rfl⟩
theorem is_w3 : FnIs Try.prog (10, Try.f10) := ⟨Try.func10, by kernel_rfl, by kernel_rfl⟩
theorem is_w4 : FnIs Try.prog (11, Try.f11) := ⟨Try.func11, by kernel_rfl, by kernel_rfl⟩
theorem is_w5 : FnIs Try.prog (12, Try.f12) := ⟨Try.func12, by kernel_rfl, by kernel_rfl⟩
theorem is_w6 : FnIs Try.prog (13, Try.f13) := ⟨Try.func13, by kernel_rfl, by kernel_rfl⟩
theorem is_w7 : FnIs Try.prog (14, Try.f14) := ⟨Try.func14, by kernel_rfl, by kernel_rfl⟩
theorem is_w8 : FnIs Try.prog (15, Try.f15) := ⟨Try.func15, by kernel_rfl, by kernel_rfl⟩
theorem is_w9 : FnIs Try.prog (16, Try.f16) := ⟨Try.func16, by kernel_rfl, by kernel_rfl⟩
theorem is_w10 : FnIs Try.prog (17, Try.f17) := ⟨Try.func17, by kernel_rfl, by kernel_rfl⟩
theorem is_w11 : FnIs Try.prog (18, Try.f18) := ⟨Try.func18, by kernel_rfl, by kernel_rfl⟩
theorem is_w12 : FnIs Try.prog (19, Try.f19) := ⟨Try.func19, by kernel_rfl, by kernel_rfl⟩
theorem is_w13 : FnIs Try.prog (20, Try.f20) := ⟨Try.func20, by kernel_rfl, by kernel_rfl⟩
theorem is_w14 : FnIs Try.prog (21, Try.f21) := ⟨Try.func21, by kernel_rfl, by kernel_rfl⟩
theorem is_w15 : FnIs Try.prog (22, Try.f22) := ⟨Try.func22, by kernel_rfl, by kernel_rfl⟩
theorem is_w16 : FnIs Try.prog (23, Try.f23) := ⟨Try.func23, by kernel_rfl, by kernel_rfl⟩
theorem is_w17 : FnIs Try.prog (24, Try.f24) := ⟨Try.func24, by kernel_rfl, by kernel_rfl⟩
theorem is_w18 : FnIs Try.prog (25, Try.f25) := ⟨Try.func25, by kernel_rfl, by kernel_rfl⟩
theorem is_w19 : FnIs Try.prog (26, Try.f26) := ⟨Try.func26, by kernel_rfl, by kernel_rfl⟩
theorem is_w20 : FnIs Try.prog (27, Try.f27) := ⟨Try.func27, by kernel_rfl, by kernel_rfl⟩
theorem is_w21 : FnIs Try.prog (28, Try.f28) := ⟨Try.func28, by kernel_rfl, by kernel_rfl⟩
theorem is_w22 : FnIs Try.prog (29, Try.f29) := ⟨Try.func29, by kernel_rfl, by kernel_rfl⟩
theorem is_w23 : FnIs Try.prog (30, Try.f30) := ⟨Try.func30, by kernel_rfl, by kernel_rfl⟩
theorem is_w24 : FnIs Try.prog (31, Try.f31) := ⟨Try.func31, by kernel_rfl, by kernel_rfl⟩
theorem is_w25 : FnIs Try.prog (32, Try.f32) := ⟨Try.func32, by kernel_rfl, by kernel_rfl⟩
theorem is_w26 : FnIs Try.prog (33, Try.f33) := ⟨Try.func33, by kernel_rfl, by kernel_rfl⟩
theorem is_w27 : FnIs Try.prog (34, Try.f34) := ⟨Try.func34, by kernel_rfl, by kernel_rfl⟩
theorem is_w28 : FnIs Try.prog (35, Try.f35) := ⟨Try.func35, by kernel_rfl, by kernel_rfl⟩
theorem is_w29 : FnIs Try.prog (36, Try.f36) := ⟨Try.func36, by kernel_rfl, by kernel_rfl⟩
theorem is_w30 : FnIs Try.prog (37, Try.f37) := ⟨Try.func37, by kernel_rfl, by kernel_rfl⟩
theorem is_w31 : FnIs Try.prog (38, Try.f38) := ⟨Try.func38, by kernel_rfl, by kernel_rfl⟩
theorem is_w32 : FnIs Try.prog (39, Try.f39) := ⟨Try.func39, by kernel_rfl, by kernel_rfl⟩
theorem is_w33 : FnIs Try.prog (40, Try.f40) := ⟨Try.func40, by kernel_rfl, by kernel_rfl⟩
theorem is_w34 : FnIs Try.prog (41, Try.f41) := ⟨Try.func41, by kernel_rfl, by kernel_rfl⟩
theorem is_w35 : FnIs Try.prog (42, Try.f42) := ⟨Try.func42, by kernel_rfl, by kernel_rfl⟩
theorem is_w36 : FnIs Try.prog (43, Try.f43) := ⟨Try.func43, by kernel_rfl, by kernel_rfl⟩
theorem is_w37 : FnIs Try.prog (44, Try.f44) := ⟨Try.func44, by kernel_rfl, by kernel_rfl⟩
theorem is_w38 : FnIs Try.prog (45, Try.f45) := ⟨Try.func45, by kernel_rfl, by kernel_rfl⟩
theorem is_w39 : FnIs Try.prog (46, Try.f46) := ⟨Try.func46, by kernel_rfl, by kernel_rfl⟩
theorem is_w40 : FnIs Try.prog (47, Try.f47) := ⟨Try.func47, by kernel_rfl, by kernel_rfl⟩
theorem is_w41 : FnIs Try.prog (48, Try.f48) := ⟨Try.func48, by kernel_rfl, by kernel_rfl⟩
theorem is_w42 : FnIs Try.prog (49, Try.f49) := ⟨Try.func49, by kernel_rfl, by kernel_rfl⟩
theorem is_w43 : FnIs Try.prog (50, Try.f50) := ⟨Try.func50, by kernel_rfl, by kernel_rfl⟩
theorem is_w44 : FnIs Try.prog (51, Try.f51) := ⟨Try.func51, by kernel_rfl, by kernel_rfl⟩
theorem is_w45 : FnIs Try.prog (52, Try.f52) := ⟨Try.func52, by kernel_rfl, by kernel_rfl⟩
theorem is_w46 : FnIs Try.prog (53, Try.f53) := ⟨Try.func53, by kernel_rfl, by kernel_rfl⟩
theorem is_w47 : FnIs Try.prog (54, Try.f54) := ⟨Try.func54, by kernel_rfl, by kernel_rfl⟩
theorem is_w48 : FnIs Try.prog (55, Try.f55) := ⟨Try.func55, by kernel_rfl, by kernel_rfl⟩
theorem is_w49 : FnIs Try.prog (56, Try.f56) := ⟨Try.func56, by kernel_rfl, by kernel_rfl⟩
theorem is_w50 : FnIs Try.prog (57, Try.f57) := ⟨Try.func57, by kernel_rfl, by kernel_rfl⟩
theorem is_w51 : FnIs Try.prog (58, Try.f58) := ⟨Try.func58, by kernel_rfl, by kernel_rfl⟩
theorem is_w52 : FnIs Try.prog (59, Try.f59) := ⟨Try.func59, by kernel_rfl, by kernel_rfl⟩
theorem is_w53 : FnIs Try.prog (60, Try.f60) := ⟨Try.func60, by kernel_rfl, by kernel_rfl⟩
theorem is_w54 : FnIs Try.prog (61, Try.f61) := ⟨Try.func61, by kernel_rfl, by kernel_rfl⟩
theorem is_w55 : FnIs Try.prog (62, Try.f62) := ⟨Try.func62, by kernel_rfl, by kernel_rfl⟩
theorem is_w56 : FnIs Try.prog (63, Try.f63) := ⟨Try.func63, by kernel_rfl, by kernel_rfl⟩
theorem is_w57 : FnIs Try.prog (64, Try.f64) := ⟨Try.func64, by kernel_rfl, by kernel_rfl⟩
theorem is_w58 : FnIs Try.prog (65, Try.f65) := ⟨Try.func65, by kernel_rfl, by kernel_rfl⟩
theorem is_w59 : FnIs Try.prog (66, Try.f66) := ⟨Try.func66, by kernel_rfl, by kernel_rfl⟩
theorem is_w60 : FnIs Try.prog (67, Try.f67) := ⟨Try.func67, by kernel_rfl, by kernel_rfl⟩
theorem is_w61 : FnIs Try.prog (68, Try.f68) := ⟨Try.func68, by kernel_rfl, by kernel_rfl⟩
theorem is_w62 : FnIs Try.prog (69, Try.f69) := ⟨Try.func69, by kernel_rfl, by kernel_rfl⟩
theorem is_w63 : FnIs Try.prog (70, Try.f70) := ⟨Try.func70, by kernel_rfl, by kernel_rfl⟩
theorem is_w64 : FnIs Try.prog (71, Try.f71) := ⟨Try.func71, by kernel_rfl, by kernel_rfl⟩
theorem is_w65 : FnIs Try.prog (72, Try.f72) := ⟨Try.func72, by kernel_rfl, by kernel_rfl⟩
theorem is_w66 : FnIs Try.prog (73, Try.f73) := ⟨Try.func73, by kernel_rfl, by kernel_rfl⟩
theorem is_w67 : FnIs Try.prog (74, Try.f74) := ⟨Try.func74, by kernel_rfl, by kernel_rfl⟩
theorem is_w68 : FnIs Try.prog (75, Try.f75) := ⟨Try.func75, by kernel_rfl, by kernel_rfl⟩
theorem is_w69 : FnIs Try.prog (76, Try.f76) := ⟨Try.func76, by kernel_rfl, by kernel_rfl⟩
theorem is_w70 : FnIs Try.prog (77, Try.f77) := ⟨Try.func77, by kernel_rfl, by kernel_rfl⟩
theorem is_w71 : FnIs Try.prog (78, Try.f78) := ⟨Try.func78, by kernel_rfl, by kernel_rfl⟩
theorem is_w72 : FnIs Try.prog (79, Try.f79) := ⟨Try.func79, by kernel_rfl, by kernel_rfl⟩
theorem is_w73 : FnIs Try.prog (80, Try.f80) := ⟨Try.func80, by kernel_rfl, by kernel_rfl⟩
theorem is_w74 : FnIs Try.prog (81, Try.f81) := ⟨Try.func81, by kernel_rfl, by kernel_rfl⟩
theorem is_w75 : FnIs Try.prog (82, Try.f82) := ⟨Try.func82, by kernel_rfl, by kernel_rfl⟩
theorem is_w76 : FnIs Try.prog (83, Try.f83) := ⟨Try.func83, by kernel_rfl, by kernel_rfl⟩
theorem is_w77 : FnIs Try.prog (84, Try.f84) := ⟨Try.func84, by kernel_rfl, by kernel_rfl⟩
theorem is_w78 : FnIs Try.prog (85, Try.f85) := ⟨Try.func85, by kernel_rfl, by kernel_rfl⟩
theorem is_w79 : FnIs Try.prog (86, Try.f86) := ⟨Try.func86, by kernel_rfl, by kernel_rfl⟩
theorem is_w80 : FnIs Try.prog (87, Try.f87) := ⟨Try.func87, by kernel_rfl, by kernel_rfl⟩
theorem is_w81 : FnIs Try.prog (88, Try.f88) := ⟨Try.func88, by kernel_rfl, by kernel_rfl⟩
theorem is_w82 : FnIs Try.prog (89, Try.f89) := ⟨Try.func89, by kernel_rfl, by kernel_rfl⟩
theorem is_w83 : FnIs Try.prog (90, Try.f90) := ⟨Try.func90, by kernel_rfl, by kernel_rfl⟩
theorem is_w84 : FnIs Try.prog (91, Try.f91) := ⟨Try.func91, by kernel_rfl, by kernel_rfl⟩
theorem is_w85 : FnIs Try.prog (92, Try.f92) := ⟨Try.func92, by kernel_rfl, by kernel_rfl⟩
theorem is_w86 : FnIs Try.prog (93, Try.f93) := ⟨Try.func93, by kernel_rfl, by kernel_rfl⟩
theorem is_w87 : FnIs Try.prog (94, Try.f94) := ⟨Try.func94, by kernel_rfl, by kernel_rfl⟩
theorem is_w88 : FnIs Try.prog (95, Try.f95) := ⟨Try.func95, by kernel_rfl, by kernel_rfl⟩
theorem is_w89 : FnIs Try.prog (96, Try.f96) := ⟨Try.func96, by kernel_rfl, by kernel_rfl⟩
theorem is_w90 : FnIs Try.prog (97, Try.f97) := ⟨Try.func97, by kernel_rfl, by kernel_rfl⟩
theorem is_w91 : FnIs Try.prog (98, Try.f98) := ⟨Try.func98, by kernel_rfl, by kernel_rfl⟩
theorem is_w92 : FnIs Try.prog (99, Try.f99) := ⟨Try.func99, by kernel_rfl, by kernel_rfl⟩
theorem is_w93 : FnIs Try.prog (100, Try.f100) := ⟨Try.func100, by kernel_rfl, by kernel_rfl⟩
theorem is_w94 : FnIs Try.prog (101, Try.f101) := ⟨Try.func101, by kernel_rfl, by kernel_rfl⟩
theorem is_w95 : FnIs Try.prog (102, Try.f102) := ⟨Try.func102, by kernel_rfl, by kernel_rfl⟩
theorem is_w96 : FnIs Try.prog (103, Try.f103) := ⟨Try.func103, by kernel_rfl, by kernel_rfl⟩
noncomputable def allF : List (Nat × Func) := [(7, Try.f7), (8, Try.f8), (9, Try.f9), (10, Try.f10), (11, Try.f11), (12, Try.f12), (13, Try.f13), (14, Try.f14), (15, Try.f15), (16, Try.f16), (17, Try.f17), (18, Try.f18), (19, Try.f19), (20, Try.f20), (21, Try.f21), (22, Try.f22), (23, Try.f23), (24, Try.f24), (25, Try.f25), (26, Try.f26), (27, Try.f27), (28, Try.f28), (29, Try.f29), (30, Try.f30), (31, Try.f31), (32, Try.f32), (33, Try.f33), (34, Try.f34), (35, Try.f35), (36, Try.f36), (37, Try.f37), (38, Try.f38), (39, Try.f39), (40, Try.f40), (41, Try.f41), (42, Try.f42), (43, Try.f43), (44, Try.f44), (45, Try.f45), (46, Try.f46), (47, Try.f47), (48, Try.f48), (49, Try.f49), (50, Try.f50), (51, Try.f51), (52, Try.f52), (53, Try.f53), (54, Try.f54), (55, Try.f55), (56, Try.f56), (57, Try.f57), (58, Try.f58), (59, Try.f59), (60, Try.f60), (61, Try.f61), (62, Try.f62), (63, Try.f63), (64, Try.f64), (65, Try.f65), (66, Try.f66), (67, Try.f67), (68, Try.f68), (69, Try.f69), (70, Try.f70), (71, Try.f71), (72, Try.f72), (73, Try.f73), (74, Try.f74), (75, Try.f75), (76, Try.f76), (77, Try.f77), (78, Try.f78), (79, Try.f79), (80, Try.f80), (81, Try.f81), (82, Try.f82), (83, Try.f83), (84, Try.f84), (85, Try.f85), (86, Try.f86), (87, Try.f87), (88, Try.f88), (89, Try.f89), (90, Try.f90), (91, Try.f91), (92, Try.f92), (93, Try.f93), (94, Try.f94), (95, Try.f95), (96, Try.f96), (97, Try.f97), (98, Try.f98), (99, Try.f99), (100, Try.f100), (101, Try.f101), (102, Try.f102), (103, Try.f103)]
theorem allF_ok : ∀ p ∈ allF, FnIs Try.prog p := fns_cons is_w0 (fns_cons is_w1 (fns_cons is_w2 (fns_cons is_w3 (fns_cons is_w4 (fns_cons is_w5 (fns_cons is_w6 (fns_cons is_w7 (fns_cons is_w8 (fns_cons is_w9 (fns_cons is_w10 (fns_cons is_w11 (fns_cons is_w12 (fns_cons is_w13 (fns_cons is_w14 (fns_cons is_w15 (fns_cons is_w16 (fns_cons is_w17 (fns_cons is_w18 (fns_cons is_w19 (fns_cons is_w20 (fns_cons is_w21 (fns_cons is_w22 (fns_cons is_w23 (fns_cons is_w24 (fns_cons is_w25 (fns_cons is_w26 (fns_cons is_w27 (fns_cons is_w28 (fns_cons is_w29 (fns_cons is_w30 (fns_cons is_w31 (fns_cons is_w32 (fns_cons is_w33 (fns_cons is_w34 (fns_cons is_w35 (fns_cons is_w36 (fns_cons is_w37 (fns_cons is_w38 (fns_cons is_w39 (fns_cons is_w40 (fns_cons is_w41 (fns_cons is_w42 (fns_cons is_w43 (fns_cons is_w44 (fns_cons is_w45 (fns_cons is_w46 (fns_cons is_w47 (fns_cons is_w48 (fns_cons is_w49 (fns_cons is_w50 (fns_cons is_w51 (fns_cons is_w52 (fns_cons is_w53 (fns_cons is_w54 (fns_cons is_w55 (fns_cons is_w56 (fns_cons is_w57 (fns_cons is_w58 (fns_cons is_w59 (fns_cons is_w60 (fns_cons is_w61 (fns_cons is_w62 (fns_cons is_w63 (fns_cons is_w64 (fns_cons is_w65 (fns_cons is_w66 (fns_cons is_w67 (fns_cons is_w68 (fns_cons is_w69 (fns_cons is_w70 (fns_cons is_w71 (fns_cons is_w72 (fns_cons is_w73 (fns_cons is_w74 (fns_cons is_w75 (fns_cons is_w76 (fns_cons is_w77 (fns_cons is_w78 (fns_cons is_w79 (fns_cons is_w80 (fns_cons is_w81 (fns_cons is_w82 (fns_cons is_w83 (fns_cons is_w84 (fns_cons is_w85 (fns_cons is_w86 (fns_cons is_w87 (fns_cons is_w88 (fns_cons is_w89 (fns_cons is_w90 (fns_cons is_w91 (fns_cons is_w92 (fns_cons is_w93 (fns_cons is_w94 (fns_cons is_w95 (fns_cons is_w96 (fns_nil)))))))))))))))))))))))))))))))))))))))))))))))))))))))))))))))))))))))))))))))))))))))))))))))))
theorem is_apart : FnIs Try.prog (59, Try.f59) := ⟨Try.func59, by kernel_rfl, by kernel_rfl⟩
theorem is_lCheck : FnIs Try.prog (27, Try.f27) := ⟨Try.func27, by kernel_rfl, by kernel_rfl⟩
theorem is_works05 : FnIs Try.prog (10, Try.f10) := ⟨Try.func10, by kernel_rfl, by kernel_rfl⟩
/-- discs of a lawn that lie on it, apart -/
noncomputable def plA1 : List (Nat × PureT) := [(59, auto (ctxU 20 Try.prog [] allF) 40 59 [cLawn, .sl cDisc] [.b])]
theorem puA1 : PuOk Try.prog plA1 := puOk_cons is_apart.plain (auto_ok (ctxU_ok mixed puOk_nil allF_ok) _ _ _ _) puOk_nil (panOk_none rfl)
noncomputable def plA2 : List (Nat × PureT) := (27, auto (ctxU 20 Try.prog plA1 allF) 40 27 [cLawn] [cI]) :: plA1
theorem puA2 : PuOk Try.prog plA2 := puOk_cons is_lCheck.plain (auto_ok (ctxU_ok mixed puA1 allF_ok) _ _ _ _) puA1 (panOk_none rfl)
/-- the examples hold -/
abbrev s_works05 : PureT := spec [] [.b] (fun _ => true) (fun _ => (true, ()))
theorem q_works05 : PureOk Try.prog 10 s_works05 := q_leaf (ctxU_ok (u := 20) mixed puA2 allF_ok) 40 (fun _ => by kernel_rfl)
theorem is_turfCheck : FnIs Try.prog (61, Try.f61) := ⟨Try.func61, by kernel_rfl, by kernel_rfl⟩
def plTf : List (Nat × PureT) := [(61, s_Check), (11, s_Lies), (15, s_Cuts), (17, s_Touch), (10, s_works05)]
theorem puTf : PuOk Try.prog plTf := puOk_cons is_turfCheck.plain q_Check (puOk_cons is_Lies.plain q_Lies (puOk_cons is_Cuts.plain q_Cuts (puOk_cons is_Touch.plain q_Touch (puOk_cons is_works05.plain q_works05 puOk_nil))))
theorem puOk_app {P : Program} {l m : List (Nat × PureT)} (h : PuOk P l) (k : PuOk P m) : PuOk P (l ++ m) := fun p hp => (List.mem_append.1 hp).elim (h p) (k p)
noncomputable def plW : List (Nat × PureT) := plTf ++ plA2
theorem puW : PuOk Try.prog plW := puOk_app puTf puA2
end V
end Go.Proofs.Ytialgmhhkbdegaa
