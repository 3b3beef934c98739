import Derived.Test.YtkiaifmbbnnliaaGreatDu
namespace Go.Proofs.YtkiaifmbbnnliaaGreat
open Go.RowKit
namespace V
namespace St
theorem plRn_end {m : Nat} {x : GB} (h1 : decide (((gk x).length : Int) > 4096) = false) (h2 : stillB (stG x.1) = true) : plRn m x = .inl x := by
  cases m with
  | zero => unfold plRn; rw [h1]; rfl
  | succ m => unfold plRn; rw [h1, h2]; rfl
theorem plRn_go {n : Nat} {x x' : GB} {k : CT} {s0 s : S2} (h1 : decide (((gk x).length : Int) > 4096) = false) (h2 : stillB (stG x.1) = false) (h3 : ctG x.1 = k) (h4 : gs x = s0) (h5 : tkF k s0 = .inl s) (h6 : xT x s = x') : plRn (n + 1) x = plRn n x' := by
  show (bif decide (((gk x).length : Int) > 4096) then .inr 6 else bif !stillB (stG x.1) then match tkF (ctG x.1) (gs x) with
    | .inl s => plRn n (xT x s)
    | .inr e => .inr e
    else .inl x) = _
  rw [h1, h2, h3, h4, h5]
  simp only [cond_false, Bool.not_false, cond_true]
  rw [h6]
def ctK (i : Nat) : CT := ⟨ballsG exG, exG.1, exG.2.2.1, postsV exG.1, 0, 0, (i : Int)⟩
def kMA (i : Nat) : Mots := match i with
  | 0 => [((50000, 60000, ()), (0, 200000, ()), (0, 0, ()), ()), ((80000, 60000, ()), (0, 0, ()), (0, 0, ()), ())]
  | 1 => [((50000, 60106, ()), (0, 190000, ()), (0, -12800, ()), ()), ((80000, 60000, ()), (0, 0, ()), (0, 0, ()), ())]
  | 2 => [((50000, 60206, ()), (0, 180000, ()), (0, -12800, ()), ()), ((80000, 60000, ()), (0, 0, ()), (0, 0, ()), ())]
  | 3 => [((50000, 60300, ()), (0, 170000, ()), (0, 0, ()), ()), ((80000, 60000, ()), (0, 0, ()), (0, 0, ()), ())]
  | 4 => [((50000, 60389, ()), (0, 160000, ()), (0, -3200, ()), ()), ((80000, 60000, ()), (0, 0, ()), (0, 0, ()), ())]
  | 5 => [((50000, 60472, ()), (0, 150000, ()), (0, 6400, ()), ()), ((80000, 60000, ()), (0, 0, ()), (0, 0, ()), ())]
  | 6 => [((50000, 60550, ()), (0, 140000, ()), (0, 0, ()), ()), ((80000, 60000, ()), (0, 0, ()), (0, 0, ()), ())]
  | 7 => [((50000, 60622, ()), (0, 130000, ()), (0, 6400, ()), ()), ((80000, 60000, ()), (0, 0, ()), (0, 0, ()), ())]
  | 8 => [((50000, 60689, ()), (0, 120000, ()), (0, -3200, ()), ()), ((80000, 60000, ()), (0, 0, ()), (0, 0, ()), ())]
  | 9 => [((50000, 60750, ()), (0, 110000, ()), (0, 0, ()), ()), ((80000, 60000, ()), (0, 0, ()), (0, 0, ()), ())]
  | 10 => [((50000, 60806, ()), (0, 100000, ()), (0, -12800, ()), ()), ((80000, 60000, ()), (0, 0, ()), (0, 0, ()), ())]
  | 11 => [((50000, 60856, ()), (0, 90000, ()), (0, -12800, ()), ()), ((80000, 60000, ()), (0, 0, ()), (0, 0, ()), ())]
  | 12 => [((50000, 60900, ()), (0, 80000, ()), (0, 0, ()), ()), ((80000, 60000, ()), (0, 0, ()), (0, 0, ()), ())]
  | 13 => [((50000, 60939, ()), (0, 70000, ()), (0, -3200, ()), ()), ((80000, 60000, ()), (0, 0, ()), (0, 0, ()), ())]
  | 14 => [((50000, 60972, ()), (0, 60000, ()), (0, 6400, ()), ()), ((80000, 60000, ()), (0, 0, ()), (0, 0, ()), ())]
  | 15 => [((50000, 61000, ()), (0, 50000, ()), (0, 0, ()), ()), ((80000, 60000, ()), (0, 0, ()), (0, 0, ()), ())]
  | 16 => [((50000, 61022, ()), (0, 40000, ()), (0, 6400, ()), ()), ((80000, 60000, ()), (0, 0, ()), (0, 0, ()), ())]
  | 17 => [((50000, 61039, ()), (0, 30000, ()), (0, -3200, ()), ()), ((80000, 60000, ()), (0, 0, ()), (0, 0, ()), ())]
  | 18 => [((50000, 61050, ()), (0, 20000, ()), (0, 0, ()), ()), ((80000, 60000, ()), (0, 0, ()), (0, 0, ()), ())]
  | 19 => [((50000, 61056, ()), (0, 10000, ()), (0, -12800, ()), ()), ((80000, 60000, ()), (0, 0, ()), (0, 0, ()), ())]
  | 20 => [((50000, 61056, ()), (0, 0, ()), (0, -12800, ()), ()), ((80000, 60000, ()), (0, 0, ()), (0, 0, ()), ())]
  | _ => []
def kMB (i : Nat) : Mots := match i with
  | 0 => [((50000, 60000, ()), (0, 190000, ()), (0, 0, ()), ()), ((80000, 60000, ()), (0, 0, ()), (0, 0, ()), ())]
  | 1 => [((50000, 60106, ()), (0, 180000, ()), (0, -12800, ()), ()), ((80000, 60000, ()), (0, 0, ()), (0, 0, ()), ())]
  | 2 => [((50000, 60206, ()), (0, 170000, ()), (0, -12800, ()), ()), ((80000, 60000, ()), (0, 0, ()), (0, 0, ()), ())]
  | 3 => [((50000, 60300, ()), (0, 160000, ()), (0, 0, ()), ()), ((80000, 60000, ()), (0, 0, ()), (0, 0, ()), ())]
  | 4 => [((50000, 60389, ()), (0, 150000, ()), (0, -3200, ()), ()), ((80000, 60000, ()), (0, 0, ()), (0, 0, ()), ())]
  | 5 => [((50000, 60472, ()), (0, 140000, ()), (0, 6400, ()), ()), ((80000, 60000, ()), (0, 0, ()), (0, 0, ()), ())]
  | 6 => [((50000, 60550, ()), (0, 130000, ()), (0, 0, ()), ()), ((80000, 60000, ()), (0, 0, ()), (0, 0, ()), ())]
  | 7 => [((50000, 60622, ()), (0, 120000, ()), (0, 6400, ()), ()), ((80000, 60000, ()), (0, 0, ()), (0, 0, ()), ())]
  | 8 => [((50000, 60689, ()), (0, 110000, ()), (0, -3200, ()), ()), ((80000, 60000, ()), (0, 0, ()), (0, 0, ()), ())]
  | 9 => [((50000, 60750, ()), (0, 100000, ()), (0, 0, ()), ()), ((80000, 60000, ()), (0, 0, ()), (0, 0, ()), ())]
  | 10 => [((50000, 60806, ()), (0, 90000, ()), (0, -12800, ()), ()), ((80000, 60000, ()), (0, 0, ()), (0, 0, ()), ())]
  | 11 => [((50000, 60856, ()), (0, 80000, ()), (0, -12800, ()), ()), ((80000, 60000, ()), (0, 0, ()), (0, 0, ()), ())]
  | 12 => [((50000, 60900, ()), (0, 70000, ()), (0, 0, ()), ()), ((80000, 60000, ()), (0, 0, ()), (0, 0, ()), ())]
  | 13 => [((50000, 60939, ()), (0, 60000, ()), (0, -3200, ()), ()), ((80000, 60000, ()), (0, 0, ()), (0, 0, ()), ())]
  | 14 => [((50000, 60972, ()), (0, 50000, ()), (0, 6400, ()), ()), ((80000, 60000, ()), (0, 0, ()), (0, 0, ()), ())]
  | 15 => [((50000, 61000, ()), (0, 40000, ()), (0, 0, ()), ()), ((80000, 60000, ()), (0, 0, ()), (0, 0, ()), ())]
  | 16 => [((50000, 61022, ()), (0, 30000, ()), (0, 6400, ()), ()), ((80000, 60000, ()), (0, 0, ()), (0, 0, ()), ())]
  | 17 => [((50000, 61039, ()), (0, 20000, ()), (0, -3200, ()), ()), ((80000, 60000, ()), (0, 0, ()), (0, 0, ()), ())]
  | 18 => [((50000, 61050, ()), (0, 10000, ()), (0, 0, ()), ()), ((80000, 60000, ()), (0, 0, ()), (0, 0, ()), ())]
  | 19 => [((50000, 61056, ()), (0, 0, ()), (0, -12800, ()), ()), ((80000, 60000, ()), (0, 0, ()), (0, 0, ()), ())]
  | _ => []
def xK (i : Nat) : GB := ((exG.1.1, exG.1.2.1, exG.1.2.2.1, exG.1.2.2.2.1, exG.1.2.2.2.2.1, exG.1.2.2.2.2.2.1.1.1, exG.1.2.2.2.2.2.1.1.2.1, exG.1.2.2.2.2.2.1.2.1, exG.1.2.2.2.2.2.2.1, exG.1.2.2.2.2.2.2.2.1, exG.1.2.2.2.2.2.2.2.2.1, exG.2.1, exG.2.2.1.1, exG.2.2.1.2.1, postsV exG.1, kMA i, [false, false], 0, 0, (i : Int), (match i with | 0 => 0 | _ => 17), ((), (), ()), ()), ([], ()), ())
theorem kn_0 : slN 0 200000 = 1600000 := rt_unique _ _ (by decide) (by decide) (by decide)
theorem kw_0 : slwV exL (getM (kMA 0) 0) = ((0, 190000, ()), 0, ()) := by
  show SlowR 0 200000 10000 = _
  unfold SlowR
  rw [kn_0]
  rfl
theorem ka_0 : slE exL [false, false] 0 0 0 (kMA 0) = .inl (kMB 0) := by
  unfold slE slwM
  rw [kw_0]
  kernel_rfl
theorem kb_0 : slE exL [false, false] 0 0 1 (kMB 0) = .inl (kMB 0) := by kernel_rfl
theorem kc_0 : foldN (tkE (ctK 0)) 0 16 (kMB 0, [false, false], []) = .inl (kMA 1, [false, false], []) := by kernel_rfl
theorem kt_0 : tkF (ctK 0) (kMA 0, [false, false], []) = .inl (kMA 1, [false, false], []) := tkF_of (by kernel_rfl) (foldN_two ka_0 kb_0) kc_0
theorem kn_1 : slN 0 190000 = 1520000 := rt_unique _ _ (by decide) (by decide) (by decide)
theorem kw_1 : slwV exL (getM (kMA 1) 0) = ((0, 180000, ()), 0, ()) := by
  show SlowR 0 190000 10000 = _
  unfold SlowR
  rw [kn_1]
  rfl
theorem ka_1 : slE exL [false, false] 0 0 0 (kMA 1) = .inl (kMB 1) := by
  unfold slE slwM
  rw [kw_1]
  kernel_rfl
theorem kb_1 : slE exL [false, false] 0 0 1 (kMB 1) = .inl (kMB 1) := by kernel_rfl
theorem kc_1 : foldN (tkE (ctK 1)) 0 16 (kMB 1, [false, false], []) = .inl (kMA 2, [false, false], []) := by kernel_rfl
theorem kt_1 : tkF (ctK 1) (kMA 1, [false, false], []) = .inl (kMA 2, [false, false], []) := tkF_of (by kernel_rfl) (foldN_two ka_1 kb_1) kc_1
theorem kn_2 : slN 0 180000 = 1440000 := rt_unique _ _ (by decide) (by decide) (by decide)
theorem kw_2 : slwV exL (getM (kMA 2) 0) = ((0, 170000, ()), 0, ()) := by
  show SlowR 0 180000 10000 = _
  unfold SlowR
  rw [kn_2]
  rfl
theorem ka_2 : slE exL [false, false] 0 0 0 (kMA 2) = .inl (kMB 2) := by
  unfold slE slwM
  rw [kw_2]
  kernel_rfl
theorem kb_2 : slE exL [false, false] 0 0 1 (kMB 2) = .inl (kMB 2) := by kernel_rfl
theorem kc_2 : foldN (tkE (ctK 2)) 0 16 (kMB 2, [false, false], []) = .inl (kMA 3, [false, false], []) := by kernel_rfl
theorem kt_2 : tkF (ctK 2) (kMA 2, [false, false], []) = .inl (kMA 3, [false, false], []) := tkF_of (by kernel_rfl) (foldN_two ka_2 kb_2) kc_2
theorem kn_3 : slN 0 170000 = 1360000 := rt_unique _ _ (by decide) (by decide) (by decide)
theorem kw_3 : slwV exL (getM (kMA 3) 0) = ((0, 160000, ()), 0, ()) := by
  show SlowR 0 170000 10000 = _
  unfold SlowR
  rw [kn_3]
  rfl
theorem ka_3 : slE exL [false, false] 0 0 0 (kMA 3) = .inl (kMB 3) := by
  unfold slE slwM
  rw [kw_3]
  kernel_rfl
theorem kb_3 : slE exL [false, false] 0 0 1 (kMB 3) = .inl (kMB 3) := by kernel_rfl
theorem kc_3 : foldN (tkE (ctK 3)) 0 16 (kMB 3, [false, false], []) = .inl (kMA 4, [false, false], []) := by kernel_rfl
theorem kt_3 : tkF (ctK 3) (kMA 3, [false, false], []) = .inl (kMA 4, [false, false], []) := tkF_of (by kernel_rfl) (foldN_two ka_3 kb_3) kc_3
theorem kn_4 : slN 0 160000 = 1280000 := rt_unique _ _ (by decide) (by decide) (by decide)
theorem kw_4 : slwV exL (getM (kMA 4) 0) = ((0, 150000, ()), 0, ()) := by
  show SlowR 0 160000 10000 = _
  unfold SlowR
  rw [kn_4]
  rfl
theorem ka_4 : slE exL [false, false] 0 0 0 (kMA 4) = .inl (kMB 4) := by
  unfold slE slwM
  rw [kw_4]
  kernel_rfl
theorem kb_4 : slE exL [false, false] 0 0 1 (kMB 4) = .inl (kMB 4) := by kernel_rfl
theorem kc_4 : foldN (tkE (ctK 4)) 0 16 (kMB 4, [false, false], []) = .inl (kMA 5, [false, false], []) := by kernel_rfl
theorem kt_4 : tkF (ctK 4) (kMA 4, [false, false], []) = .inl (kMA 5, [false, false], []) := tkF_of (by kernel_rfl) (foldN_two ka_4 kb_4) kc_4
theorem kn_5 : slN 0 150000 = 1200000 := rt_unique _ _ (by decide) (by decide) (by decide)
theorem kw_5 : slwV exL (getM (kMA 5) 0) = ((0, 140000, ()), 0, ()) := by
  show SlowR 0 150000 10000 = _
  unfold SlowR
  rw [kn_5]
  rfl
theorem ka_5 : slE exL [false, false] 0 0 0 (kMA 5) = .inl (kMB 5) := by
  unfold slE slwM
  rw [kw_5]
  kernel_rfl
theorem kb_5 : slE exL [false, false] 0 0 1 (kMB 5) = .inl (kMB 5) := by kernel_rfl
theorem kc_5 : foldN (tkE (ctK 5)) 0 16 (kMB 5, [false, false], []) = .inl (kMA 6, [false, false], []) := by kernel_rfl
theorem kt_5 : tkF (ctK 5) (kMA 5, [false, false], []) = .inl (kMA 6, [false, false], []) := tkF_of (by kernel_rfl) (foldN_two ka_5 kb_5) kc_5
theorem kn_6 : slN 0 140000 = 1120000 := rt_unique _ _ (by decide) (by decide) (by decide)
theorem kw_6 : slwV exL (getM (kMA 6) 0) = ((0, 130000, ()), 0, ()) := by
  show SlowR 0 140000 10000 = _
  unfold SlowR
  rw [kn_6]
  rfl
theorem ka_6 : slE exL [false, false] 0 0 0 (kMA 6) = .inl (kMB 6) := by
  unfold slE slwM
  rw [kw_6]
  kernel_rfl
theorem kb_6 : slE exL [false, false] 0 0 1 (kMB 6) = .inl (kMB 6) := by kernel_rfl
theorem kc_6 : foldN (tkE (ctK 6)) 0 16 (kMB 6, [false, false], []) = .inl (kMA 7, [false, false], []) := by kernel_rfl
theorem kt_6 : tkF (ctK 6) (kMA 6, [false, false], []) = .inl (kMA 7, [false, false], []) := tkF_of (by kernel_rfl) (foldN_two ka_6 kb_6) kc_6
theorem kn_7 : slN 0 130000 = 1040000 := rt_unique _ _ (by decide) (by decide) (by decide)
theorem kw_7 : slwV exL (getM (kMA 7) 0) = ((0, 120000, ()), 0, ()) := by
  show SlowR 0 130000 10000 = _
  unfold SlowR
  rw [kn_7]
  rfl
theorem ka_7 : slE exL [false, false] 0 0 0 (kMA 7) = .inl (kMB 7) := by
  unfold slE slwM
  rw [kw_7]
  kernel_rfl
theorem kb_7 : slE exL [false, false] 0 0 1 (kMB 7) = .inl (kMB 7) := by kernel_rfl
theorem kc_7 : foldN (tkE (ctK 7)) 0 16 (kMB 7, [false, false], []) = .inl (kMA 8, [false, false], []) := by kernel_rfl
theorem kt_7 : tkF (ctK 7) (kMA 7, [false, false], []) = .inl (kMA 8, [false, false], []) := tkF_of (by kernel_rfl) (foldN_two ka_7 kb_7) kc_7
theorem kn_8 : slN 0 120000 = 960000 := rt_unique _ _ (by decide) (by decide) (by decide)
theorem kw_8 : slwV exL (getM (kMA 8) 0) = ((0, 110000, ()), 0, ()) := by
  show SlowR 0 120000 10000 = _
  unfold SlowR
  rw [kn_8]
  rfl
theorem ka_8 : slE exL [false, false] 0 0 0 (kMA 8) = .inl (kMB 8) := by
  unfold slE slwM
  rw [kw_8]
  kernel_rfl
theorem kb_8 : slE exL [false, false] 0 0 1 (kMB 8) = .inl (kMB 8) := by kernel_rfl
theorem kc_8 : foldN (tkE (ctK 8)) 0 16 (kMB 8, [false, false], []) = .inl (kMA 9, [false, false], []) := by kernel_rfl
theorem kt_8 : tkF (ctK 8) (kMA 8, [false, false], []) = .inl (kMA 9, [false, false], []) := tkF_of (by kernel_rfl) (foldN_two ka_8 kb_8) kc_8
theorem kn_9 : slN 0 110000 = 880000 := rt_unique _ _ (by decide) (by decide) (by decide)
theorem kw_9 : slwV exL (getM (kMA 9) 0) = ((0, 100000, ()), 0, ()) := by
  show SlowR 0 110000 10000 = _
  unfold SlowR
  rw [kn_9]
  rfl
theorem ka_9 : slE exL [false, false] 0 0 0 (kMA 9) = .inl (kMB 9) := by
  unfold slE slwM
  rw [kw_9]
  kernel_rfl
theorem kb_9 : slE exL [false, false] 0 0 1 (kMB 9) = .inl (kMB 9) := by kernel_rfl
theorem kc_9 : foldN (tkE (ctK 9)) 0 16 (kMB 9, [false, false], []) = .inl (kMA 10, [false, false], []) := by kernel_rfl
theorem kt_9 : tkF (ctK 9) (kMA 9, [false, false], []) = .inl (kMA 10, [false, false], []) := tkF_of (by kernel_rfl) (foldN_two ka_9 kb_9) kc_9
theorem kn_10 : slN 0 100000 = 800000 := rt_unique _ _ (by decide) (by decide) (by decide)
theorem kw_10 : slwV exL (getM (kMA 10) 0) = ((0, 90000, ()), 0, ()) := by
  show SlowR 0 100000 10000 = _
  unfold SlowR
  rw [kn_10]
  rfl
theorem ka_10 : slE exL [false, false] 0 0 0 (kMA 10) = .inl (kMB 10) := by
  unfold slE slwM
  rw [kw_10]
  kernel_rfl
theorem kb_10 : slE exL [false, false] 0 0 1 (kMB 10) = .inl (kMB 10) := by kernel_rfl
theorem kc_10 : foldN (tkE (ctK 10)) 0 16 (kMB 10, [false, false], []) = .inl (kMA 11, [false, false], []) := by kernel_rfl
theorem kt_10 : tkF (ctK 10) (kMA 10, [false, false], []) = .inl (kMA 11, [false, false], []) := tkF_of (by kernel_rfl) (foldN_two ka_10 kb_10) kc_10
theorem kn_11 : slN 0 90000 = 720000 := rt_unique _ _ (by decide) (by decide) (by decide)
theorem kw_11 : slwV exL (getM (kMA 11) 0) = ((0, 80000, ()), 0, ()) := by
  show SlowR 0 90000 10000 = _
  unfold SlowR
  rw [kn_11]
  rfl
theorem ka_11 : slE exL [false, false] 0 0 0 (kMA 11) = .inl (kMB 11) := by
  unfold slE slwM
  rw [kw_11]
  kernel_rfl
theorem kb_11 : slE exL [false, false] 0 0 1 (kMB 11) = .inl (kMB 11) := by kernel_rfl
theorem kc_11 : foldN (tkE (ctK 11)) 0 16 (kMB 11, [false, false], []) = .inl (kMA 12, [false, false], []) := by kernel_rfl
theorem kt_11 : tkF (ctK 11) (kMA 11, [false, false], []) = .inl (kMA 12, [false, false], []) := tkF_of (by kernel_rfl) (foldN_two ka_11 kb_11) kc_11
theorem kn_12 : slN 0 80000 = 640000 := rt_unique _ _ (by decide) (by decide) (by decide)
theorem kw_12 : slwV exL (getM (kMA 12) 0) = ((0, 70000, ()), 0, ()) := by
  show SlowR 0 80000 10000 = _
  unfold SlowR
  rw [kn_12]
  rfl
theorem ka_12 : slE exL [false, false] 0 0 0 (kMA 12) = .inl (kMB 12) := by
  unfold slE slwM
  rw [kw_12]
  kernel_rfl
theorem kb_12 : slE exL [false, false] 0 0 1 (kMB 12) = .inl (kMB 12) := by kernel_rfl
theorem kc_12 : foldN (tkE (ctK 12)) 0 16 (kMB 12, [false, false], []) = .inl (kMA 13, [false, false], []) := by kernel_rfl
theorem kt_12 : tkF (ctK 12) (kMA 12, [false, false], []) = .inl (kMA 13, [false, false], []) := tkF_of (by kernel_rfl) (foldN_two ka_12 kb_12) kc_12
theorem kn_13 : slN 0 70000 = 560000 := rt_unique _ _ (by decide) (by decide) (by decide)
theorem kw_13 : slwV exL (getM (kMA 13) 0) = ((0, 60000, ()), 0, ()) := by
  show SlowR 0 70000 10000 = _
  unfold SlowR
  rw [kn_13]
  rfl
theorem ka_13 : slE exL [false, false] 0 0 0 (kMA 13) = .inl (kMB 13) := by
  unfold slE slwM
  rw [kw_13]
  kernel_rfl
theorem kb_13 : slE exL [false, false] 0 0 1 (kMB 13) = .inl (kMB 13) := by kernel_rfl
theorem kc_13 : foldN (tkE (ctK 13)) 0 16 (kMB 13, [false, false], []) = .inl (kMA 14, [false, false], []) := by kernel_rfl
theorem kt_13 : tkF (ctK 13) (kMA 13, [false, false], []) = .inl (kMA 14, [false, false], []) := tkF_of (by kernel_rfl) (foldN_two ka_13 kb_13) kc_13
theorem kn_14 : slN 0 60000 = 480000 := rt_unique _ _ (by decide) (by decide) (by decide)
theorem kw_14 : slwV exL (getM (kMA 14) 0) = ((0, 50000, ()), 0, ()) := by
  show SlowR 0 60000 10000 = _
  unfold SlowR
  rw [kn_14]
  rfl
theorem ka_14 : slE exL [false, false] 0 0 0 (kMA 14) = .inl (kMB 14) := by
  unfold slE slwM
  rw [kw_14]
  kernel_rfl
theorem kb_14 : slE exL [false, false] 0 0 1 (kMB 14) = .inl (kMB 14) := by kernel_rfl
theorem kc_14 : foldN (tkE (ctK 14)) 0 16 (kMB 14, [false, false], []) = .inl (kMA 15, [false, false], []) := by kernel_rfl
theorem kt_14 : tkF (ctK 14) (kMA 14, [false, false], []) = .inl (kMA 15, [false, false], []) := tkF_of (by kernel_rfl) (foldN_two ka_14 kb_14) kc_14
theorem kn_15 : slN 0 50000 = 400000 := rt_unique _ _ (by decide) (by decide) (by decide)
theorem kw_15 : slwV exL (getM (kMA 15) 0) = ((0, 40000, ()), 0, ()) := by
  show SlowR 0 50000 10000 = _
  unfold SlowR
  rw [kn_15]
  rfl
theorem ka_15 : slE exL [false, false] 0 0 0 (kMA 15) = .inl (kMB 15) := by
  unfold slE slwM
  rw [kw_15]
  kernel_rfl
theorem kb_15 : slE exL [false, false] 0 0 1 (kMB 15) = .inl (kMB 15) := by kernel_rfl
theorem kc_15 : foldN (tkE (ctK 15)) 0 16 (kMB 15, [false, false], []) = .inl (kMA 16, [false, false], []) := by kernel_rfl
theorem kt_15 : tkF (ctK 15) (kMA 15, [false, false], []) = .inl (kMA 16, [false, false], []) := tkF_of (by kernel_rfl) (foldN_two ka_15 kb_15) kc_15
theorem kn_16 : slN 0 40000 = 320000 := rt_unique _ _ (by decide) (by decide) (by decide)
theorem kw_16 : slwV exL (getM (kMA 16) 0) = ((0, 30000, ()), 0, ()) := by
  show SlowR 0 40000 10000 = _
  unfold SlowR
  rw [kn_16]
  rfl
theorem ka_16 : slE exL [false, false] 0 0 0 (kMA 16) = .inl (kMB 16) := by
  unfold slE slwM
  rw [kw_16]
  kernel_rfl
theorem kb_16 : slE exL [false, false] 0 0 1 (kMB 16) = .inl (kMB 16) := by kernel_rfl
theorem kc_16 : foldN (tkE (ctK 16)) 0 16 (kMB 16, [false, false], []) = .inl (kMA 17, [false, false], []) := by kernel_rfl
theorem kt_16 : tkF (ctK 16) (kMA 16, [false, false], []) = .inl (kMA 17, [false, false], []) := tkF_of (by kernel_rfl) (foldN_two ka_16 kb_16) kc_16
theorem kn_17 : slN 0 30000 = 240000 := rt_unique _ _ (by decide) (by decide) (by decide)
theorem kw_17 : slwV exL (getM (kMA 17) 0) = ((0, 20000, ()), 0, ()) := by
  show SlowR 0 30000 10000 = _
  unfold SlowR
  rw [kn_17]
  rfl
theorem ka_17 : slE exL [false, false] 0 0 0 (kMA 17) = .inl (kMB 17) := by
  unfold slE slwM
  rw [kw_17]
  kernel_rfl
theorem kb_17 : slE exL [false, false] 0 0 1 (kMB 17) = .inl (kMB 17) := by kernel_rfl
theorem kc_17 : foldN (tkE (ctK 17)) 0 16 (kMB 17, [false, false], []) = .inl (kMA 18, [false, false], []) := by kernel_rfl
theorem kt_17 : tkF (ctK 17) (kMA 17, [false, false], []) = .inl (kMA 18, [false, false], []) := tkF_of (by kernel_rfl) (foldN_two ka_17 kb_17) kc_17
theorem kn_18 : slN 0 20000 = 160000 := rt_unique _ _ (by decide) (by decide) (by decide)
theorem kw_18 : slwV exL (getM (kMA 18) 0) = ((0, 10000, ()), 0, ()) := by
  show SlowR 0 20000 10000 = _
  unfold SlowR
  rw [kn_18]
  rfl
theorem ka_18 : slE exL [false, false] 0 0 0 (kMA 18) = .inl (kMB 18) := by
  unfold slE slwM
  rw [kw_18]
  kernel_rfl
theorem kb_18 : slE exL [false, false] 0 0 1 (kMB 18) = .inl (kMB 18) := by kernel_rfl
theorem kc_18 : foldN (tkE (ctK 18)) 0 16 (kMB 18, [false, false], []) = .inl (kMA 19, [false, false], []) := by kernel_rfl
theorem kt_18 : tkF (ctK 18) (kMA 18, [false, false], []) = .inl (kMA 19, [false, false], []) := tkF_of (by kernel_rfl) (foldN_two ka_18 kb_18) kc_18
theorem kn_19 : slN 0 10000 = 80000 := rt_unique _ _ (by decide) (by decide) (by decide)
theorem kw_19 : slwV exL (getM (kMA 19) 0) = ((0, 0, ()), 0, ()) := by
  show SlowR 0 10000 10000 = _
  unfold SlowR
  rw [kn_19]
  rfl
theorem ka_19 : slE exL [false, false] 0 0 0 (kMA 19) = .inl (kMB 19) := by
  unfold slE slwM
  rw [kw_19]
  kernel_rfl
theorem kb_19 : slE exL [false, false] 0 0 1 (kMB 19) = .inl (kMB 19) := by kernel_rfl
theorem kc_19 : foldN (tkE (ctK 19)) 0 16 (kMB 19, [false, false], []) = .inl (kMA 20, [false, false], []) := by kernel_rfl
theorem kt_19 : tkF (ctK 19) (kMA 19, [false, false], []) = .inl (kMA 20, [false, false], []) := tkF_of (by kernel_rfl) (foldN_two ka_19 kb_19) kc_19
theorem kp_20 (m : Nat) : plRn m (xK 20) = .inl (xK 20) := plRn_end (by kernel_rfl) (by kernel_rfl)
theorem kp_19 (m : Nat) : plRn (m + 1) (xK 19) = .inl (xK 20) := by
  rw [show m + 1 = m + 0 + 1 from rfl, plRn_go (x' := xK 20) (by kernel_rfl) (by kernel_rfl) (show ctG (xK 19).1 = ctK 19 by kernel_rfl) (show gs (xK 19) = (kMA 19, [false, false], []) by kernel_rfl) kt_19 (by kernel_rfl)]
  exact kp_20 m
theorem kp_18 (m : Nat) : plRn (m + 2) (xK 18) = .inl (xK 20) := by
  rw [show m + 2 = m + 1 + 1 from rfl, plRn_go (x' := xK 19) (by kernel_rfl) (by kernel_rfl) (show ctG (xK 18).1 = ctK 18 by kernel_rfl) (show gs (xK 18) = (kMA 18, [false, false], []) by kernel_rfl) kt_18 (by kernel_rfl)]
  exact kp_19 m
theorem kp_17 (m : Nat) : plRn (m + 3) (xK 17) = .inl (xK 20) := by
  rw [show m + 3 = m + 2 + 1 from rfl, plRn_go (x' := xK 18) (by kernel_rfl) (by kernel_rfl) (show ctG (xK 17).1 = ctK 17 by kernel_rfl) (show gs (xK 17) = (kMA 17, [false, false], []) by kernel_rfl) kt_17 (by kernel_rfl)]
  exact kp_18 m
theorem kp_16 (m : Nat) : plRn (m + 4) (xK 16) = .inl (xK 20) := by
  rw [show m + 4 = m + 3 + 1 from rfl, plRn_go (x' := xK 17) (by kernel_rfl) (by kernel_rfl) (show ctG (xK 16).1 = ctK 16 by kernel_rfl) (show gs (xK 16) = (kMA 16, [false, false], []) by kernel_rfl) kt_16 (by kernel_rfl)]
  exact kp_17 m
theorem kp_15 (m : Nat) : plRn (m + 5) (xK 15) = .inl (xK 20) := by
  rw [show m + 5 = m + 4 + 1 from rfl, plRn_go (x' := xK 16) (by kernel_rfl) (by kernel_rfl) (show ctG (xK 15).1 = ctK 15 by kernel_rfl) (show gs (xK 15) = (kMA 15, [false, false], []) by kernel_rfl) kt_15 (by kernel_rfl)]
  exact kp_16 m
theorem kp_14 (m : Nat) : plRn (m + 6) (xK 14) = .inl (xK 20) := by
  rw [show m + 6 = m + 5 + 1 from rfl, plRn_go (x' := xK 15) (by kernel_rfl) (by kernel_rfl) (show ctG (xK 14).1 = ctK 14 by kernel_rfl) (show gs (xK 14) = (kMA 14, [false, false], []) by kernel_rfl) kt_14 (by kernel_rfl)]
  exact kp_15 m
theorem kp_13 (m : Nat) : plRn (m + 7) (xK 13) = .inl (xK 20) := by
  rw [show m + 7 = m + 6 + 1 from rfl, plRn_go (x' := xK 14) (by kernel_rfl) (by kernel_rfl) (show ctG (xK 13).1 = ctK 13 by kernel_rfl) (show gs (xK 13) = (kMA 13, [false, false], []) by kernel_rfl) kt_13 (by kernel_rfl)]
  exact kp_14 m
theorem kp_12 (m : Nat) : plRn (m + 8) (xK 12) = .inl (xK 20) := by
  rw [show m + 8 = m + 7 + 1 from rfl, plRn_go (x' := xK 13) (by kernel_rfl) (by kernel_rfl) (show ctG (xK 12).1 = ctK 12 by kernel_rfl) (show gs (xK 12) = (kMA 12, [false, false], []) by kernel_rfl) kt_12 (by kernel_rfl)]
  exact kp_13 m
theorem kp_11 (m : Nat) : plRn (m + 9) (xK 11) = .inl (xK 20) := by
  rw [show m + 9 = m + 8 + 1 from rfl, plRn_go (x' := xK 12) (by kernel_rfl) (by kernel_rfl) (show ctG (xK 11).1 = ctK 11 by kernel_rfl) (show gs (xK 11) = (kMA 11, [false, false], []) by kernel_rfl) kt_11 (by kernel_rfl)]
  exact kp_12 m
theorem kp_10 (m : Nat) : plRn (m + 10) (xK 10) = .inl (xK 20) := by
  rw [show m + 10 = m + 9 + 1 from rfl, plRn_go (x' := xK 11) (by kernel_rfl) (by kernel_rfl) (show ctG (xK 10).1 = ctK 10 by kernel_rfl) (show gs (xK 10) = (kMA 10, [false, false], []) by kernel_rfl) kt_10 (by kernel_rfl)]
  exact kp_11 m
theorem kp_9 (m : Nat) : plRn (m + 11) (xK 9) = .inl (xK 20) := by
  rw [show m + 11 = m + 10 + 1 from rfl, plRn_go (x' := xK 10) (by kernel_rfl) (by kernel_rfl) (show ctG (xK 9).1 = ctK 9 by kernel_rfl) (show gs (xK 9) = (kMA 9, [false, false], []) by kernel_rfl) kt_9 (by kernel_rfl)]
  exact kp_10 m
theorem kp_8 (m : Nat) : plRn (m + 12) (xK 8) = .inl (xK 20) := by
  rw [show m + 12 = m + 11 + 1 from rfl, plRn_go (x' := xK 9) (by kernel_rfl) (by kernel_rfl) (show ctG (xK 8).1 = ctK 8 by kernel_rfl) (show gs (xK 8) = (kMA 8, [false, false], []) by kernel_rfl) kt_8 (by kernel_rfl)]
  exact kp_9 m
theorem kp_7 (m : Nat) : plRn (m + 13) (xK 7) = .inl (xK 20) := by
  rw [show m + 13 = m + 12 + 1 from rfl, plRn_go (x' := xK 8) (by kernel_rfl) (by kernel_rfl) (show ctG (xK 7).1 = ctK 7 by kernel_rfl) (show gs (xK 7) = (kMA 7, [false, false], []) by kernel_rfl) kt_7 (by kernel_rfl)]
  exact kp_8 m
theorem kp_6 (m : Nat) : plRn (m + 14) (xK 6) = .inl (xK 20) := by
  rw [show m + 14 = m + 13 + 1 from rfl, plRn_go (x' := xK 7) (by kernel_rfl) (by kernel_rfl) (show ctG (xK 6).1 = ctK 6 by kernel_rfl) (show gs (xK 6) = (kMA 6, [false, false], []) by kernel_rfl) kt_6 (by kernel_rfl)]
  exact kp_7 m
theorem kp_5 (m : Nat) : plRn (m + 15) (xK 5) = .inl (xK 20) := by
  rw [show m + 15 = m + 14 + 1 from rfl, plRn_go (x' := xK 6) (by kernel_rfl) (by kernel_rfl) (show ctG (xK 5).1 = ctK 5 by kernel_rfl) (show gs (xK 5) = (kMA 5, [false, false], []) by kernel_rfl) kt_5 (by kernel_rfl)]
  exact kp_6 m
theorem kp_4 (m : Nat) : plRn (m + 16) (xK 4) = .inl (xK 20) := by
  rw [show m + 16 = m + 15 + 1 from rfl, plRn_go (x' := xK 5) (by kernel_rfl) (by kernel_rfl) (show ctG (xK 4).1 = ctK 4 by kernel_rfl) (show gs (xK 4) = (kMA 4, [false, false], []) by kernel_rfl) kt_4 (by kernel_rfl)]
  exact kp_5 m
theorem kp_3 (m : Nat) : plRn (m + 17) (xK 3) = .inl (xK 20) := by
  rw [show m + 17 = m + 16 + 1 from rfl, plRn_go (x' := xK 4) (by kernel_rfl) (by kernel_rfl) (show ctG (xK 3).1 = ctK 3 by kernel_rfl) (show gs (xK 3) = (kMA 3, [false, false], []) by kernel_rfl) kt_3 (by kernel_rfl)]
  exact kp_4 m
theorem kp_2 (m : Nat) : plRn (m + 18) (xK 2) = .inl (xK 20) := by
  rw [show m + 18 = m + 17 + 1 from rfl, plRn_go (x' := xK 3) (by kernel_rfl) (by kernel_rfl) (show ctG (xK 2).1 = ctK 2 by kernel_rfl) (show gs (xK 2) = (kMA 2, [false, false], []) by kernel_rfl) kt_2 (by kernel_rfl)]
  exact kp_3 m
theorem kp_1 (m : Nat) : plRn (m + 19) (xK 1) = .inl (xK 20) := by
  rw [show m + 19 = m + 18 + 1 from rfl, plRn_go (x' := xK 2) (by kernel_rfl) (by kernel_rfl) (show ctG (xK 1).1 = ctK 1 by kernel_rfl) (show gs (xK 1) = (kMA 1, [false, false], []) by kernel_rfl) kt_1 (by kernel_rfl)]
  exact kp_2 m
theorem kp_0 (m : Nat) : plRn (m + 20) (xK 0) = .inl (xK 20) := by
  rw [show m + 20 = m + 19 + 1 from rfl, plRn_go (x' := xK 1) (by kernel_rfl) (by kernel_rfl) (show ctG (xK 0).1 = ctK 0 by kernel_rfl) (show gs (xK 0) = (kMA 0, [false, false], []) by kernel_rfl) kt_0 (by kernel_rfl)]
  exact kp_1 m
end St
end V
end Go.Proofs.YtkiaifmbbnnliaaGreat
