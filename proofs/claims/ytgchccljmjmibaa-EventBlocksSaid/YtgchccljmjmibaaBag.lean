/- All functions of the seat. -/
import Derived.Test.YtgchccljmjmibaaZag
namespace Go.Proofs.Ytgchccljmjmibaa
open Go.RowKit
namespace V
theorem is_w0 : FnIs Try.prog (3, Try.f3) := ⟨Try.func3, by kernel_rfl, by kernel_rfl⟩
theorem is_w1 : FnIs Try.prog (4, Try.f4) := ⟨Try.func4, by kernel_rfl, by kernel_rfl⟩
theorem is_w2 : FnIs Try.prog (5, Try.f5) := ⟨Try.func5, by kernel_rfl, by kernel_rfl⟩
theorem is_w3 : FnIs Try.prog (6, Try.f6) := ⟨Try.func6, by kernel_rfl, by kernel_rfl⟩
theorem is_w4 : FnIs Try.prog (7, Try.f7) := ⟨Try.func7, by kernel_rfl, by kernel_rfl⟩
theorem is_w5 : FnIs Try.prog (8, Try.f8) := ⟨Try.func8, by kernel_rfl, by kernel_rfl⟩
theorem is_w6 : FnIs Try.prog (9, Try.f9) := ⟨Try.func9, by kernel_rfl, by kernel_rfl⟩
theorem is_w7 : FnIs Try.prog (10, Try.f10) := ⟨Try.func10, by kernel_rfl, by kernel_rfl⟩
theorem is_w8 : FnIs Try.prog (11, Try.f11) := ⟨Try.func11, by kernel_rfl, by kernel_rfl⟩
theorem is_w9 : FnIs Try.prog (12, Try.f12) := ⟨Try.func12, by kernel_rfl, by kernel_rfl⟩
theorem is_w10 : FnIs Try.prog (13, Try.f13) := ⟨Try.func13, by kernel_rfl, by kernel_rfl⟩
theorem is_w11 : FnIs Try.prog (14, Try.f14) := ⟨Try.func14, by kernel_rfl, by kernel_rfl⟩
theorem is_w12 : FnIs Try.prog (15, Try.f15) := ⟨Try.func15, by kernel_rfl, by kernel_rfl⟩
theorem is_w13 : FnIs Try.prog (16, Try.f16) := ⟨Try.func16, by kernel_rfl, by kernel_rfl⟩
theorem is_w14 : FnIs Try.prog (17, Try.f17) := ⟨Try.func17, by kernel_rfl, by kernel_rfl⟩
theorem is_w15 : FnIs Try.prog (18, Try.f18) := ⟨Try.func18, by kernel_rfl, by kernel_rfl⟩
theorem is_w16 : FnIs Try.prog (19, Try.f19) := ⟨Try.func19, by kernel_rfl, by kernel_rfl⟩
theorem is_w17 : FnIs Try.prog (20, Try.f20) := ⟨Try.func20, by kernel_rfl, by kernel_rfl⟩
theorem is_w18 : FnIs Try.prog (21, Try.f21) := ⟨Try.func21, by kernel_rfl, by kernel_rfl⟩
theorem is_w19 : FnIs Try.prog (22, Try.f22) := ⟨Try.func22, by kernel_rfl, by kernel_rfl⟩
theorem is_w20 : FnIs Try.prog (23, Try.f23) := ⟨Try.func23, by kernel_rfl, by kernel_rfl⟩
theorem is_w21 : FnIs Try.prog (24, Try.f24) := ⟨Try.func24, by kernel_rfl, by kernel_rfl⟩
theorem is_w22 : FnIs Try.prog (25, Try.f25) := ⟨Try.func25, by kernel_rfl, by kernel_rfl⟩
theorem is_w23 : FnIs Try.prog (26, Try.f26) := ⟨Try.func26, by kernel_rfl, by kernel_rfl⟩
theorem is_w24 : FnIs Try.prog (27, Try.f27) := ⟨Try.func27, by kernel_rfl, by kernel_rfl⟩
theorem is_w25 : FnIs Try.prog (28, Try.f28) := ⟨Try.func28, by kernel_rfl, by kernel_rfl⟩
theorem is_w26 : FnIs Try.prog (29, Try.f29) := ⟨Try.func29, by kernel_rfl, by kernel_rfl⟩
theorem is_w27 : FnIs Try.prog (30, Try.f30) := ⟨Try.func30, by kernel_rfl, by kernel_rfl⟩
theorem is_w28 : FnIs Try.prog (31, Try.f31) := ⟨Try.func31, by kernel_rfl, by kernel_rfl⟩
theorem is_w29 : FnIs Try.prog (32, Try.f32) := ⟨Try.func32, by kernel_rfl, by kernel_rfl⟩
theorem is_w30 : FnIs Try.prog (33, Try.f33) := ⟨Try.func33, by kernel_rfl, by kernel_rfl⟩
theorem is_w31 : FnIs Try.prog (34, Try.f34) := ⟨Try.func34, by kernel_rfl, by kernel_rfl⟩
theorem is_w32 : FnIs Try.prog (35, Try.f35) := ⟨Try.func35, by kernel_rfl, by kernel_rfl⟩
theorem is_w33 : FnIs Try.prog (36, Try.f36) := ⟨Try.func36, by kernel_rfl, by kernel_rfl⟩
theorem is_w34 : FnIs Try.prog (37, Try.f37) := ⟨Try.func37, by kernel_rfl, by kernel_rfl⟩
theorem is_w35 : FnIs Try.prog (38, Try.f38) := ⟨Try.func38, by kernel_rfl, by kernel_rfl⟩
theorem is_w36 : FnIs Try.prog (39, Try.f39) := ⟨Try.func39, by kernel_rfl, by kernel_rfl⟩
theorem is_w37 : FnIs Try.prog (40, Try.f40) := ⟨Try.func40, by kernel_rfl, by kernel_rfl⟩
theorem is_w38 : FnIs Try.prog (41, Try.f41) := ⟨Try.func41, by kernel_rfl, by kernel_rfl⟩
theorem is_w39 : FnIs Try.prog (42, Try.f42) := ⟨Try.func42, by kernel_rfl, by kernel_rfl⟩
theorem is_w40 : FnIs Try.prog (43, Try.f43) := ⟨Try.func43, by kernel_rfl, by kernel_rfl⟩
theorem is_w41 : FnIs Try.prog (44, Try.f44) := ⟨Try.func44, by kernel_rfl, by kernel_rfl⟩
theorem is_w42 : FnIs Try.prog (45, Try.f45) := ⟨Try.func45, by kernel_rfl, by kernel_rfl⟩
theorem is_w43 : FnIs Try.prog (46, Try.f46) := ⟨Try.func46, by kernel_rfl, by kernel_rfl⟩
theorem is_w44 : FnIs Try.prog (47, Try.f47) := ⟨Try.func47, by kernel_rfl, by kernel_rfl⟩
theorem is_w45 : FnIs Try.prog (48, Try.f48) := ⟨Try.func48, by kernel_rfl, by kernel_rfl⟩
theorem is_w46 : FnIs Try.prog (49, Try.f49) := ⟨Try.func49, by kernel_rfl, by kernel_rfl⟩
theorem is_w47 : FnIs Try.prog (50, Try.f50) := ⟨Try.func50, by kernel_rfl, by kernel_rfl⟩
theorem is_w48 : FnIs Try.prog (51, Try.f51) := ⟨Try.func51, by kernel_rfl, by kernel_rfl⟩
theorem is_w49 : FnIs Try.prog (52, Try.f52) := ⟨Try.func52, by kernel_rfl, by kernel_rfl⟩
theorem is_w50 : FnIs Try.prog (53, Try.f53) := ⟨Try.func53, by kernel_rfl, by kernel_rfl⟩
theorem is_w51 : FnIs Try.prog (54, Try.f54) := ⟨Try.func54, by kernel_rfl, by kernel_rfl⟩
theorem is_w52 : FnIs Try.prog (55, Try.f55) := ⟨Try.func55, by kernel_rfl, by kernel_rfl⟩
theorem is_w53 : FnIs Try.prog (56, Try.f56) := ⟨Try.func56, by kernel_rfl, by kernel_rfl⟩
theorem is_w54 : FnIs Try.prog (57, Try.f57) := ⟨Try.func57, by kernel_rfl, by kernel_rfl⟩
theorem is_w55 : FnIs Try.prog (58, Try.f58) := ⟨Try.func58, by kernel_rfl, by kernel_rfl⟩
theorem is_w56 : FnIs Try.prog (59, Try.f59) := ⟨Try.func59, by kernel_rfl, by kernel_rfl⟩
theorem is_w57 : FnIs Try.prog (60, Try.f60) := ⟨Try.func60, by kernel_rfl, by kernel_rfl⟩
theorem is_w58 : FnIs Try.prog (61, Try.f61) := ⟨Try.func61, by kernel_rfl, by kernel_rfl⟩
theorem is_w59 : FnIs Try.prog (62, Try.f62) := ⟨Try.func62, by kernel_rfl, by kernel_rfl⟩
theorem is_w60 : FnIs Try.prog (63, Try.f63) := ⟨Try.func63, by kernel_rfl, by kernel_rfl⟩
theorem is_w61 : FnIs Try.prog (64, Try.f64) := ⟨Try.func64, by kernel_rfl, by kernel_rfl⟩
theorem is_w62 : FnIs Try.prog (65, Try.f65) := ⟨Try.func65, by kernel_rfl, by kernel_rfl⟩
theorem is_w63 : FnIs Try.prog (66, Try.f66) := ⟨Try.func66, by kernel_rfl, by kernel_rfl⟩
theorem is_w64 : FnIs Try.prog (67, Try.f67) := ⟨Try.func67, by kernel_rfl, by kernel_rfl⟩
theorem is_w65 : FnIs Try.prog (68, Try.f68) := ⟨Try.func68, by kernel_rfl, by kernel_rfl⟩
theorem is_w66 : FnIs Try.prog (69, Try.f69) := ⟨Try.func69, by kernel_rfl, by kernel_rfl⟩
theorem is_w67 : FnIs Try.prog (70, Try.f70) := ⟨Try.func70, by kernel_rfl, by kernel_rfl⟩
theorem is_w68 : FnIs Try.prog (71, Try.f71) := ⟨Try.func71, by kernel_rfl, by kernel_rfl⟩
theorem is_w69 : FnIs Try.prog (72, Try.f72) := ⟨Try.func72, by kernel_rfl, by kernel_rfl⟩
theorem is_w70 : FnIs Try.prog (73, Try.f73) := ⟨Try.func73, by kernel_rfl, by kernel_rfl⟩
theorem is_w71 : FnIs Try.prog (74, Try.f74) := ⟨Try.func74, by kernel_rfl, by kernel_rfl⟩
theorem is_w72 : FnIs Try.prog (75, Try.f75) := ⟨Try.func75, by kernel_rfl, by kernel_rfl⟩
theorem is_w73 : FnIs Try.prog (76, Try.f76) := ⟨Try.func76, by kernel_rfl, by kernel_rfl⟩
theorem is_w74 : FnIs Try.prog (77, Try.f77) := ⟨Try.func77, by kernel_rfl, by kernel_rfl⟩
theorem is_w75 : FnIs Try.prog (78, Try.f78) := ⟨Try.func78, by kernel_rfl, by kernel_rfl⟩
theorem is_w76 : FnIs Try.prog (79, Try.f79) := ⟨Try.func79, by kernel_rfl, by kernel_rfl⟩
theorem is_w77 : FnIs Try.prog (80, Try.f80) := ⟨Try.func80, by kernel_rfl, by kernel_rfl⟩
theorem is_w78 : FnIs Try.prog (81, Try.f81) := ⟨Try.func81, by kernel_rfl, by kernel_rfl⟩
theorem is_w79 : FnIs Try.prog (82, Try.f82) := ⟨Try.func82, by kernel_rfl, by kernel_rfl⟩
theorem is_w80 : FnIs Try.prog (83, Try.f83) := ⟨Try.func83, by kernel_rfl, by kernel_rfl⟩
theorem is_w81 : FnIs Try.prog (84, Try.f84) := ⟨Try.func84, by kernel_rfl, by kernel_rfl⟩
theorem is_w82 : FnIs Try.prog (85, Try.f85) := ⟨Try.func85, by kernel_rfl, by kernel_rfl⟩
theorem is_w83 : FnIs Try.prog (86, Try.f86) := ⟨Try.func86, by kernel_rfl, by kernel_rfl⟩
theorem is_w84 : FnIs Try.prog (87, Try.f87) := ⟨Try.func87, by kernel_rfl, by kernel_rfl⟩
theorem is_w85 : FnIs Try.prog (88, Try.f88) := ⟨Try.func88, by kernel_rfl, by kernel_rfl⟩
theorem is_w86 : FnIs Try.prog (89, Try.f89) := ⟨Try.func89, by kernel_rfl, by kernel_rfl⟩
theorem is_w87 : FnIs Try.prog (90, Try.f90) := ⟨Try.func90, by kernel_rfl, by kernel_rfl⟩
theorem is_w88 : FnIs Try.prog (91, Try.f91) := ⟨Try.func91, by kernel_rfl, by kernel_rfl⟩
theorem is_w89 : FnIs Try.prog (92, Try.f92) := ⟨Try.func92, by kernel_rfl, by kernel_rfl⟩
theorem is_w90 : FnIs Try.prog (93, Try.f93) := ⟨Try.func93, by kernel_rfl, by kernel_rfl⟩
theorem is_w91 : FnIs Try.prog (94, Try.f94) := ⟨Try.func94, by kernel_rfl, by kernel_rfl⟩
theorem is_w92 : FnIs Try.prog (95, Try.f95) := ⟨Try.func95, by kernel_rfl, by kernel_rfl⟩
theorem is_w93 : FnIs Try.prog (96, Try.f96) := ⟨Try.func96, by kernel_rfl, by kernel_rfl⟩
theorem is_w94 : FnIs Try.prog (97, Try.f97) := ⟨Try.func97, by kernel_rfl, by kernel_rfl⟩
theorem is_w95 : FnIs Try.prog (98, Try.f98) := ⟨Try.func98, by kernel_rfl, by kernel_rfl⟩
theorem is_w96 : FnIs Try.prog (99, Try.f99) := ⟨Try.func99, by kernel_rfl, by kernel_rfl⟩
theorem is_w97 : FnIs Try.prog (100, Try.f100) := ⟨Try.func100, by kernel_rfl, by kernel_rfl⟩
theorem is_w98 : FnIs Try.prog (101, Try.f101) := ⟨Try.func101, by kernel_rfl, by kernel_rfl⟩
theorem is_w99 : FnIs Try.prog (102, Try.f102) := ⟨Try.func102, by kernel_rfl, by kernel_rfl⟩
theorem is_w100 : FnIs Try.prog (103, Try.f103) := ⟨Try.func103, by kernel_rfl, by kernel_rfl⟩
theorem is_w101 : FnIs Try.prog (104, Try.f104) := ⟨Try.func104, by kernel_rfl, by kernel_rfl⟩
theorem is_w102 : FnIs Try.prog (105, Try.f105) := ⟨Try.func105, by kernel_rfl, by kernel_rfl⟩
theorem is_w103 : FnIs Try.prog (106, Try.f106) := ⟨Try.func106, by kernel_rfl, by kernel_rfl⟩
theorem is_w104 : FnIs Try.prog (107, Try.f107) := ⟨Try.func107, by kernel_rfl, by kernel_rfl⟩
theorem is_w105 : FnIs Try.prog (108, Try.f108) := ⟨Try.func108, by kernel_rfl, by kernel_rfl⟩
theorem is_w106 : FnIs Try.prog (109, Try.f109) := ⟨Try.func109, by kernel_rfl, by kernel_rfl⟩
theorem is_w107 : FnIs Try.prog (110, Try.f110) := ⟨Try.func110, by kernel_rfl, by kernel_rfl⟩
theorem is_w108 : FnIs Try.prog (111, Try.f111) := ⟨Try.func111, by kernel_rfl, by kernel_rfl⟩
theorem is_w109 : FnIs Try.prog (112, Try.f112) := ⟨Try.func112, by kernel_rfl, by kernel_rfl⟩
theorem is_w110 : FnIs Try.prog (113, Try.f113) := ⟨Try.func113, by kernel_rfl, by kernel_rfl⟩
theorem is_w111 : FnIs Try.prog (114, Try.f114) := ⟨Try.func114, by kernel_rfl, by kernel_rfl⟩
theorem is_w112 : FnIs Try.prog (115, Try.f115) := ⟨Try.func115, by kernel_rfl, by kernel_rfl⟩
theorem is_w113 : FnIs Try.prog (116, Try.f116) := ⟨Try.func116, by kernel_rfl, by kernel_rfl⟩
theorem is_w114 : FnIs Try.prog (117, Try.f117) := ⟨Try.func117, by kernel_rfl, by kernel_rfl⟩
theorem is_w115 : FnIs Try.prog (118, Try.f118) := ⟨Try.func118, by kernel_rfl, by kernel_rfl⟩
theorem is_w116 : FnIs Try.prog (119, Try.f119) := ⟨Try.func119, by kernel_rfl, by kernel_rfl⟩
theorem is_w117 : FnIs Try.prog (120, Try.f120) := ⟨Try.func120, by kernel_rfl, by kernel_rfl⟩
noncomputable def allF : List (Nat × Func) := [(3, Try.f3), (4, Try.f4), (5, Try.f5), (6, Try.f6), (7, Try.f7), (8, Try.f8), (9, Try.f9), (10, Try.f10), (11, Try.f11), (12, Try.f12), (13, Try.f13), (14, Try.f14), (15, Try.f15), (16, Try.f16), (17, Try.f17), (18, Try.f18), (19, Try.f19), (20, Try.f20), (21, Try.f21), (22, Try.f22), (23, Try.f23), (24, Try.f24), (25, Try.f25), (26, Try.f26), (27, Try.f27), (28, Try.f28), (29, Try.f29), (30, Try.f30), (31, Try.f31), (32, Try.f32), (33, Try.f33), (34, Try.f34), (35, Try.f35), (36, Try.f36), (37, Try.f37), (38, Try.f38), (39, Try.f39), (40, Try.f40), (41, Try.f41), (42, Try.f42), (43, Try.f43), (44, Try.f44), (45, Try.f45), (46, Try.f46), (47, Try.f47), (48, Try.f48), (49, Try.f49), (50, Try.f50), (51, Try.f51), (52, Try.f52), (53, Try.f53), (54, Try.f54), (55, Try.f55), (56, Try.f56), (57, Try.f57), (58, Try.f58), (59, Try.f59), (60, Try.f60), (61, Try.f61), (62, Try.f62), (63, Try.f63), (64, Try.f64), (65, Try.f65), (66, Try.f66), (67, Try.f67), (68, Try.f68), (69, Try.f69), (70, Try.f70), (71, Try.f71), (72, Try.f72), (73, Try.f73), (74, Try.f74), (75, Try.f75), (76, Try.f76), (77, Try.f77), (78, Try.f78), (79, Try.f79), (80, Try.f80), (81, Try.f81), (82, Try.f82), (83, Try.f83), (84, Try.f84), (85, Try.f85), (86, Try.f86), (87, Try.f87), (88, Try.f88), (89, Try.f89), (90, Try.f90), (91, Try.f91), (92, Try.f92), (93, Try.f93), (94, Try.f94), (95, Try.f95), (96, Try.f96), (97, Try.f97), (98, Try.f98), (99, Try.f99), (100, Try.f100), (101, Try.f101), (102, Try.f102), (103, Try.f103), (104, Try.f104), (105, Try.f105), (106, Try.f106), (107, Try.f107), (108, Try.f108), (109, Try.f109), (110, Try.f110), (111, Try.f111), (112, Try.f112), (113, Try.f113), (114, Try.f114), (115, Try.f115), (116, Try.f116), (117, Try.f117), (118, Try.f118), (119, Try.f119), (120, Try.f120)]
theorem allF_ok : ∀ p ∈ allF, FnIs Try.prog p := fns_cons is_w0 (fns_cons is_w1 (fns_cons is_w2 (fns_cons is_w3 (fns_cons is_w4 (fns_cons is_w5 (fns_cons is_w6 (fns_cons is_w7 (fns_cons is_w8 (fns_cons is_w9 (fns_cons is_w10 (fns_cons is_w11 (fns_cons is_w12 (fns_cons is_w13 (fns_cons is_w14 (fns_cons is_w15 (fns_cons is_w16 (fns_cons is_w17 (fns_cons is_w18 (fns_cons is_w19 (fns_cons is_w20 (fns_cons is_w21 (fns_cons is_w22 (fns_cons is_w23 (fns_cons is_w24 (fns_cons is_w25 (fns_cons is_w26 (fns_cons is_w27 (fns_cons is_w28 (fns_cons is_w29 (fns_cons is_w30 (fns_cons is_w31 (fns_cons is_w32 (fns_cons is_w33 (fns_cons is_w34 (fns_cons is_w35 (fns_cons is_w36 (fns_cons is_w37 (fns_cons is_w38 (fns_cons is_w39 (fns_cons is_w40 (fns_cons is_w41 (fns_cons is_w42 (fns_cons is_w43 (fns_cons is_w44 (fns_cons is_w45 (fns_cons is_w46 (fns_cons is_w47 (fns_cons is_w48 (fns_cons is_w49 (fns_cons is_w50 (fns_cons is_w51 (fns_cons is_w52 (fns_cons is_w53 (fns_cons is_w54 (fns_cons is_w55 (fns_cons is_w56 (fns_cons is_w57 (fns_cons is_w58 (fns_cons is_w59 (fns_cons is_w60 (fns_cons is_w61 (fns_cons is_w62 (fns_cons is_w63 (fns_cons is_w64 (fns_cons is_w65 (fns_cons is_w66 (fns_cons is_w67 (fns_cons is_w68 (fns_cons is_w69 (fns_cons is_w70 (fns_cons is_w71 (fns_cons is_w72 (fns_cons is_w73 (fns_cons is_w74 (fns_cons is_w75 (fns_cons is_w76 (fns_cons is_w77 (fns_cons is_w78 (fns_cons is_w79 (fns_cons is_w80 (fns_cons is_w81 (fns_cons is_w82 (fns_cons is_w83 (fns_cons is_w84 (fns_cons is_w85 (fns_cons is_w86 (fns_cons is_w87 (fns_cons is_w88 (fns_cons is_w89 (fns_cons is_w90 (fns_cons is_w91 (fns_cons is_w92 (fns_cons is_w93 (fns_cons is_w94 (fns_cons is_w95 (fns_cons is_w96 (fns_cons is_w97 (fns_cons is_w98 (fns_cons is_w99 (fns_cons is_w100 (fns_cons is_w101 (fns_cons is_w102 (fns_cons is_w103 (fns_cons is_w104 (fns_cons is_w105 (fns_cons is_w106 (fns_cons is_w107 (fns_cons is_w108 (fns_cons is_w109 (fns_cons is_w110 (fns_cons is_w111 (fns_cons is_w112 (fns_cons is_w113 (fns_cons is_w114 (fns_cons is_w115 (fns_cons is_w116 (fns_cons is_w117 (fns_nil))))))))))))))))))))))))))))))))))))))))))))))))))))))))))))))))))))))))))))))))))))))))))))))))))))))))))))))))))))))
end V
end Go.Proofs.Ytgchccljmjmibaa
/-! Tools for the laws of chapter 11: loops of a context, looks at lists. -/
namespace Go.Proofs.Ytgchccljmjmibaa
open Go.RowKit
namespace V
theorem loops_none {P : Program} {f : Nat} {fn : Func} {loops : List ((Nat × Nat) × (St → Tree (XE × St)))} (h : loopsOf (bodyOf fn) = []) : ∀ d ∈ loopsOf (bodyOf fn), ∀ g, assoc2 loops f (keyOf d) = some g → LoopOk P f d g := by
  intro d hd
  rw [h] at hd
  cases hd
theorem loops_nil {P : Program} {loops : List ((Nat × Nat) × (St → Tree (XE × St)))} : ∀ q ∈ ([] : List (Nat × Func)), ∀ d ∈ loopsOf (bodyOf q.2), ∀ g, assoc2 loops q.1 (keyOf d) = some g → LoopOk P q.1 d g := fun _ h => nomatch h
theorem loops_cons {P : Program} {f : Nat} {fn : Func} {rest : List (Nat × Func)} {loops : List ((Nat × Nat) × (St → Tree (XE × St)))} (h : ∀ d ∈ loopsOf (bodyOf fn), ∀ g, assoc2 loops f (keyOf d) = some g → LoopOk P f d g)
    (hr : ∀ q ∈ rest, ∀ d ∈ loopsOf (bodyOf q.2), ∀ g, assoc2 loops q.1 (keyOf d) = some g → LoopOk P q.1 d g) : ∀ q ∈ (f, fn) :: rest, ∀ d ∈ loopsOf (bodyOf q.2), ∀ g, assoc2 loops q.1 (keyOf d) = some g → LoopOk P q.1 d g := by
  intro q hq
  rcases List.mem_cons.1 hq with rfl | hq
  · exact h
  · exact hr q hq
/-- the loops of one function: each by its key -/
def AllOk (P : Program) (f : Nat) (loops : List ((Nat × Nat) × (St → Tree (XE × St)))) : List Code → Prop
  | [] => True
  | d :: l => (∀ g, assoc2 loops f (keyOf d) = some g → LoopOk P f d g) ∧ AllOk P f loops l
theorem loops_of {P : Program} {f : Nat} {fn : Func} {loops : List ((Nat × Nat) × (St → Tree (XE × St)))} {ds : List Code} (h : loopsOf (bodyOf fn) = ds) (ha : AllOk P f loops ds) : ∀ d ∈ loopsOf (bodyOf fn), ∀ g, assoc2 loops f (keyOf d) = some g → LoopOk P f d g := by
  rw [h]
  clear h
  induction ds with
  | nil => intro d hd; cases hd
  | cons a l ih =>
    intro d hd
    rcases List.mem_cons.1 hd with rfl | hd
    · exact ha.1
    · exact ih ha.2 d hd
theorem one_key {P : Program} {f : Nat} {d : Code} {loops : List ((Nat × Nat) × (St → Tree (XE × St)))} {k : Nat} {s : St → Tree (XE × St)} (hk : keyOf d = k) (ha : assoc2 loops f k = some s) (h : LoopOk P f d s) : ∀ g, assoc2 loops f (keyOf d) = some g → LoopOk P f d g := by
  intro g hg
  rw [hk, ha] at hg
  cases hg
  exact h
theorem no_key {P : Program} {f : Nat} {d : Code} {loops : List ((Nat × Nat) × (St → Tree (XE × St)))} {k : Nat} (hk : keyOf d = k) (ha : assoc2 loops f k = none) : ∀ g, assoc2 loops f (keyOf d) = some g → LoopOk P f d g := by
  intro g hg
  rw [hk, ha] at hg
  cases hg
namespace Ev
/-- a look at a list, bounds checked -/
def inN {β : Type} (n : Nat) (i : Int) (t : Tree β) : Tree β := bif decide (0 ≤ i ∧ i < (n : Int)) then t else .fail
/-- a look at a list of one's own -/
def inO {β : Type} (n : Nat) (i : Int) (t : Tree β) : Tree β := bif decide (0 ≤ i ∧ i < (n : Int)) then bif decide (Int.toNat i < n) then t else .fail else .fail
/-- a list is made -/
def mkT {β : Type} (n : Int) (k : Tree β) : Tree β := bif decide (0 ≤ n ∧ n ≤ n ∧ n ≤ 65536 ∧ ((1 : Nat) : Int) * n ≤ 281474976710656) then k else .fail
/-- all elements of a list, with their numbers, are so -/
def allI {α : Type} (ok : Nat → α → Bool) : Nat → List α → Bool
  | _, [] => true
  | i, x :: l => ok i x && allI ok (i + 1) l
theorem runO_all {α E : Type} (ok : Nat → α → Bool) (r d : E) : ∀ (l : List α) (i : Nat), runO (fun i x (_ : Unit) => bif ok i x then some (.inl ()) else some (.inr r)) (fun _ => some d) i l () = some (bif allI ok i l then d else r)
  | [], i => rfl
  | x :: l, i => by
    simp only [runO, allI]
    cases ok i x with
    | true => simp only [cond_true, Bool.true_and]; exact runO_all ok r d l (i + 1)
    | false => rfl
/-- a loop that looks through a list for something bad -/
theorem iter_bad {G E α : Type} {st : G → Tree (G ⊕ E)} (l : List α) (d : α) (hd : Int → G) (bad : α → Bool) (rt ex : E) (hl : (l.length : Int) ≤ maxK .i64)
    (h : ∀ i : Int, st (hd i) = bif decide (i < (l.length : Int)) then bif decide (0 ≤ i ∧ i < (l.length : Int)) then bif bad (getA l (Int.toNat i) d) then .leaf (.inr rt) else .leaf (.inl (hd (W64 (i + 1)))) else .fail else .leaf (.inr ex)) :
    iter st (l.length + 1) (hd 0) = some (bif l.any bad then rt else ex) := by
  have hl' : (l.length : Int) ≤ 9223372036854775807 := hl
  have key := iter_list (st := st) l (fun i (_ : Unit) => hd (i : Int)) (fun _ x _ => bif bad x then some (.inr rt) else some (.inl ())) (fun _ => some ex) (fun _ _ => True)
    (fun i s hi _ => by
      have hrun : (st (hd (i : Int))).run = some (bif bad l[i] then .inr rt else .inl (hd ((i + 1 : Nat) : Int))) := by
        rw [h, decide_eq_true (show (i : Int) < (l.length : Int) by omega), decide_eq_true (show 0 ≤ (i : Int) ∧ (i : Int) < (l.length : Int) by omega), show Int.toNat (i : Int) = i by omega, getA_lt hi, W64_id (n := (i : Int) + 1) (by omega) (by omega)]
        cases bad l[i] <;> rfl
      cases hb : bad l[i] with
      | true => rw [hb] at hrun; simp only [cond_true]; exact hrun
      | false => rw [hb] at hrun; simp only [cond_false]; exact ⟨hrun, trivial⟩)
    (fun s e _ he => by
      cases he
      rw [h, decide_eq_false (show ¬ (l.length : Int) < (l.length : Int) by omega)]
      rfl)
    l.length 0 () (bif l.any bad then rt else ex) (l.length + 1) (by omega) (by omega) trivial (by rw [List.drop_zero]; exact runO_any bad (fun _ => rt) ex _ 0)
  exact key
/-- a loop in which each element of a list has to be fine, with its number -/
theorem iter_all {G E α : Type} {st : G → Tree (G ⊕ E)} (l : List α) (d : α) (hd : Int → G) (ok : Nat → α → Bool) (body : Int → α → Tree (G ⊕ E)) (rt ex : E) (hl : (l.length : Int) ≤ maxK .i64)
    (h : ∀ i : Int, st (hd i) = bif decide (i < (l.length : Int)) then bif decide (0 ≤ i ∧ i < (l.length : Int)) then body i (getA l (Int.toNat i) d) else .fail else .leaf (.inr ex))
    (hb : ∀ (i : Nat) (hi : i < l.length), (body (i : Int) l[i]).run = some (bif ok i l[i] then .inl (hd ((i + 1 : Nat) : Int)) else .inr rt)) :
    iter st (l.length + 1) (hd 0) = some (bif allI ok 0 l then ex else rt) := by
  have hl' : (l.length : Int) ≤ 9223372036854775807 := hl
  have key := iter_list (st := st) l (fun i (_ : Unit) => hd (i : Int)) (fun i x _ => bif ok i x then some (.inl ()) else some (.inr rt)) (fun _ => some ex) (fun _ _ => True)
    (fun i s hi _ => by
      have hrun : (st (hd (i : Int))).run = some (bif ok i l[i] then .inl (hd ((i + 1 : Nat) : Int)) else .inr rt) := by
        rw [h, decide_eq_true (show (i : Int) < (l.length : Int) by omega), decide_eq_true (show 0 ≤ (i : Int) ∧ (i : Int) < (l.length : Int) by omega), show Int.toNat (i : Int) = i by omega, getA_lt hi]
        exact hb i hi
      cases hk : ok i l[i] with
      | true => rw [hk] at hrun; simp only [cond_true]; exact ⟨hrun, trivial⟩
      | false => rw [hk] at hrun; simp only [cond_false]; exact hrun)
    (fun s e _ he => by
      cases he
      rw [h, decide_eq_false (show ¬ (l.length : Int) < (l.length : Int) by omega)]
      rfl)
    l.length 0 () (bif allI ok 0 l then ex else rt) (l.length + 1) (by omega) (by omega) trivial (by rw [List.drop_zero]; exact runO_all ok rt ex _ 0)
  exact key
/-- a loop that folds a list -/
theorem runO_foldl {α S E : Type} (f : S → α → S) (ex : S → E) : ∀ (l : List α) (i : Nat) (s : S), runO (fun _ x s => some (.inl (f s x))) (fun s => some (ex s)) i l s = some (ex (l.foldl f s))
  | [], _, _ => rfl
  | x :: l, i, s => by simp only [runO, List.foldl_cons]; exact runO_foldl f ex l (i + 1) (f s x)
theorem iter_foldl {G S E α : Type} {st : G → Tree (G ⊕ E)} (l : List α) (hd : Int → S → G) (f : S → α → S) (ex : S → E) (Inv : Nat → S → Prop)
    (h1 : ∀ (i : Nat) (s : S) (hi : i < l.length), Inv i s → (st (hd i s)).run = some (.inl (hd ((i + 1 : Nat) : Int) (f s l[i]))) ∧ Inv (i + 1) (f s l[i]))
    (h2 : ∀ s, Inv l.length s → (st (hd l.length s)).run = some (.inr (ex s))) (s0 : S) (h0 : Inv 0 s0) : iter st (l.length + 1) (hd 0 s0) = some (ex (l.foldl f s0)) :=
  iter_list (st := st) l (fun i s => hd (i : Int) s) (fun _ x s => some (.inl (f s x))) (fun s => some (ex s)) Inv (fun i s hi hv => h1 i s hi hv) (fun s e hv he => by cases he; exact h2 s hv) l.length 0 s0 _ (l.length + 1) (by omega) (by omega) h0 (by rw [List.drop_zero]; exact runO_foldl f ex l 0 s0)
/-- a loop that looks for an element, with its number -/
theorem iter_find {G E α : Type} {st : G → Tree (G ⊕ E)} (l : List α) (hd : Int → G) (bad : α → Bool) (rt : Nat → E) (ex : E)
    (h : ∀ (i : Nat) (hi : i < l.length), (st (hd i)).run = some (bif bad l[i] then .inr (rt i) else .inl (hd ((i + 1 : Nat) : Int)))) (h2 : (st (hd l.length)).run = some (.inr ex)) :
    iter st (l.length + 1) (hd 0) = some (bif l.any bad then rt (l.findIdx bad) else ex) :=
  iter_list (st := st) l (fun i (_ : Unit) => hd (i : Int)) (fun i x _ => bif bad x then some (.inr (rt i)) else some (.inl ())) (fun _ => some ex) (fun _ _ => True)
    (fun i s hi _ => by
      have hrun := h i hi
      cases hb : bad l[i] with
      | true => rw [hb] at hrun; simp only [cond_true]; exact hrun
      | false => rw [hb] at hrun; simp only [cond_false]; exact ⟨hrun, trivial⟩)
    (fun s e _ he => by cases he; exact h2)
    l.length 0 () _ (l.length + 1) (by omega) (by omega) trivial (by rw [List.drop_zero, runO_any bad rt ex _ 0, Nat.zero_add])
/-- a loop in which each element of a list has to be fine, with a state -/
theorem runO_allS {α S E : Type} (ok : Nat → α → Bool) (nx : α → S → S) (r d : E) : ∀ (l : List α) (i : Nat) (s : S), runO (fun i x s => bif ok i x then some (.inl (nx x s)) else some (.inr r)) (fun _ => some d) i l s = some (bif allI ok i l then d else r)
  | [], i, _ => rfl
  | x :: l, i, s => by
    simp only [runO, allI]
    cases ok i x with
    | true => simp only [cond_true, Bool.true_and]; exact runO_allS ok nx r d l (i + 1) (nx x s)
    | false => rfl
theorem iter_allS {G S E α : Type} {st : G → Tree (G ⊕ E)} (l : List α) (hd : Int → S → G) (ok : Nat → α → Bool) (nx : α → S → S) (rt ex : E) (Inv : Nat → S → Prop)
    (h1 : ∀ (i : Nat) (s : S) (hi : i < l.length), Inv i s → (st (hd i s)).run = some (bif ok i l[i] then .inl (hd ((i + 1 : Nat) : Int) (nx l[i] s)) else .inr rt) ∧ Inv (i + 1) (nx l[i] s))
    (h2 : ∀ s, Inv l.length s → (st (hd l.length s)).run = some (.inr ex)) (s0 : S) (h0 : Inv 0 s0) : iter st (l.length + 1) (hd 0 s0) = some (bif allI ok 0 l then ex else rt) :=
  iter_list (st := st) l (fun i s => hd (i : Int) s) (fun i x s => bif ok i x then some (.inl (nx x s)) else some (.inr rt)) (fun _ => some ex) Inv
    (fun i s hi hv => by
      obtain ⟨hrun, hn⟩ := h1 i s hi hv
      cases hk : ok i l[i] with
      | true => rw [hk] at hrun; simp only [cond_true]; exact ⟨hrun, hn⟩
      | false => rw [hk] at hrun; simp only [cond_false]; exact hrun)
    (fun s e hv he => by cases he; exact h2 s hv) l.length 0 s0 _ (l.length + 1) (by omega) (by omega) h0 (by rw [List.drop_zero]; exact runO_allS ok nx rt ex l 0 s0)
theorem wrapU {n : Int} (h1 : 0 ≤ n) (h2 : n ≤ 18446744073709551615) : IntKind.u64.wrap n = n := by
  unfold IntKind.wrap
  simp [IntKind.bits, IntKind.signed]
  omega
theorem app_ok {β : Type} {h w : List β} {b : Nat} (k : h.length + w.length ≤ 1000000) (hb : b ≤ 48) : appOk h w b = true := by
  rw [appOk_eq]
  refine decide_eq_true ?_
  have h1 : ((h.length + w.length : Nat) : Int) * (b : Int) ≤ 1000000 * 48 := Int.mul_le_mul (by omega) (by omega) (by omega) (by omega)
  omega
theorem inN_ok {β : Type} {n : Nat} {i : Int} {t : Tree β} (h : 0 ≤ i ∧ i < (n : Int)) : inN n i t = t := by
  unfold inN
  rw [decide_eq_true h]; rfl
theorem inO_ok {β : Type} {n : Nat} {i : Int} {t : Tree β} (h : 0 ≤ i ∧ i < (n : Int)) : inO n i t = t := by
  unfold inO
  rw [decide_eq_true h, decide_eq_true (show Int.toNat i < n by omega)]; rfl
end Ev
end V
end Go.Proofs.Ytgchccljmjmibaa
