import Derived.Test.YtkiaifmbbnnliaaGreatCA
namespace Go.Proofs.YtkiaifmbbnnliaaGreat
open Go.RowKit
namespace V
namespace St
theorem is_rSlowed : FnIs Tryz.prog (27, Tryz.f27) := ⟨Tryz.func27, by kernel_rfl, by kernel_rfl⟩
theorem is_rtick : FnIs Tryz.prog (69, Tryz.f69) := ⟨Tryz.func69, by kernel_rfl, by kernel_rfl⟩
theorem is_rTick4 : FnIs Tryz.prog (22, Tryz.f22) := ⟨Tryz.func22, by kernel_rfl, by kernel_rfl⟩
theorem is_rCopy : FnIs Tryz.prog (20, Tryz.f20) := ⟨Tryz.func20, by kernel_rfl, by kernel_rfl⟩
theorem is_rsettle : FnIs Tryz.prog (63, Tryz.f63) := ⟨Tryz.func63, by kernel_rfl, by kernel_rfl⟩
theorem is_rcounts : FnIs Tryz.prog (119, Tryz.f119) := ⟨Tryz.func119, by kernel_rfl, by kernel_rfl⟩
abbrev plR4 : List (Nat × PureT) := (74, s_onB) :: (71, s_CellAt) :: (72, s_Slow) :: (126, s_Step) :: (127, s_Bump) :: (120, s_Settle) :: (125, s_Posts) :: plS4
theorem puR4 : PuOk Tryz.prog plR4 := puOk_cons is_rIs.plain q_rIs (puOk_cons is_rCellAt.plain q_rCellAt (puOk_cons is_rSlow.plain q_rSlow (puOk_cons is_rStep.plain q_rStep (puOk_cons is_rBump.plain q_rBump (puOk_cons is_rSettle.plain q_rSettle (puOk_cons is_rPosts.plain q_rPosts puS4))))))
noncomputable def X_r4 : Ctx := ctx Tryz.prog plR4 [(119, Tryz.f119)]
theorem X_r4_ok : CtxOk X_r4 := ctx_ok mixed puR4 (fns_cons is_rcounts fns_nil)
abbrev bsR : List BK := [(4, 34, kGr), (5, 38, kSo), (6, 38, kSo)]
abbrev kKn : SK := .o 57 cKn
noncomputable def lb_t1 : Code := (loopsOf (bodyOf Tryz.f69)).getD 1 .skip
noncomputable def lb_t2 : Code := (loopsOf (bodyOf Tryz.f69)).getD 2 .skip
noncomputable def lb_t3 : Code := (loopsOf (bodyOf Tryz.f69)).getD 3 .skip
noncomputable def lb_t4 : Code := (loopsOf (bodyOf Tryz.f69)).getD 4 .skip
def R_tk4 (nx : Nat) : Lay := { keys := [2, 3, 4, 8, 10, 11], ks := [.p 4 0 0 0, .p 5 0 0 0, .p 6 0 0 0, .d (.sl cDisc), kKn, .d cI], bs := bsR, n := 233, nx := nx, marks := [] }
def Lt_k (i nx : Nat) : Lay := { keys := [2, 3, 4, 8, 10, 11, i], ks := [.p 4 0 0 0, .p 5 0 0 0, .p 6 0 0 0, .d (.sl cDisc), kKn, .d cI, .d cI], bs := bsR, n := 233, nx := nx, marks := [] }
def Rf_tk4 : Lay := { keys := [4, 5, 6], ks := [.p 6 0 0 0, kKn, .d cI], bs := [(6, 38, kSo)], n := 233, nx := 12000, marks := [] }
def E_k (nx : Nat) : XE → Lay := fun e => match e with | .ret => Rf_tk4 | _ => R_tk4 nx
structure RT where
  g : SKTs kGr
  z : SKTs kSt
  w : Int
  fl : Int
  t : Int
  ps : Dss
  st : Int
def bR (c : RT) (s : S2) : SKTs kGr × SKTs kSo × SKTs kSt × Unit := (c.g, (s.1, s.2.1, c.w, c.fl, c.t, ()), c.z, ())
def hd_k (i nx : Nat) (c : RT) (j : Int) (s : S2) : (Lt_k i nx).T := (((), (), (), c.ps, s.2.2, c.st, j, ()), bR c s)
def ex_k (x nx : Nat) (c : RT) (s : S2) : Left' (E_k nx) := ⟨.exit x, (((), (), (), c.ps, s.2.2, c.st, ()), bR c s)⟩
def rt_k (nx : Nat) (e : Int) : Left' (E_k nx) := ⟨.ret, (((), [], e, ()), (r0, ()))⟩
def rc (i nx : Nat) (g : (Lt_k i nx).T) : RT := ⟨g.2.1, g.2.2.2.1, g.2.2.1.2.2.1, g.2.2.1.2.2.2.1, g.2.2.1.2.2.2.2.1, g.1.2.2.2.1, g.1.2.2.2.2.2.1⟩
def rs (i nx : Nat) (g : (Lt_k i nx).T) : S2 := (g.2.2.1.1, g.2.2.1.2.1, g.1.2.2.2.2.1)
abbrev TK (i nx : Nat) := Tree ((Lt_k i nx).T ⊕ Left' (E_k nx))
theorem E_k_nx {i nx : Nat} (h : nx ≤ 12000) (e : XE) : (Lt_k i nx).nx ≤ (E_k nx e).nx := by cases e <;> first | exact Nat.le_refl _ | exact h
def nB (c : RT) : Nat := (blX c.g).length
def stillM (m : TCT cMot) : Bool := m.2.1.1 == 0 && (m.2.1.2.1 == 0 && true)
def st_t1' (c : RT) (j : Int) (s : S2) : TK 12 5000 := bif decide (j < (nB c : Int)) then inO s.2.1.length j (bif getA s.2.1 (Int.toNat j) (dflt .b) then .leaf (.inl (hd_k 12 5000 c (W64 (j + 1)) s)) else inO s.1.length j (
  bif stillM (getM s.1 (Int.toNat j)) then .leaf (.inl (hd_k 12 5000 c (W64 (j + 1)) s)) else inN (nB c) j (inO s.1.length j (
  bif (stpV (getB (blX c.g) (Int.toNat j)) (getM s.1 (Int.toNat j))).2.1 != 0 then .leaf (.inr (rt_k 5000 (stpV (getB (blX c.g) (Int.toNat j)) (getM s.1 (Int.toNat j))).2.1)) else
  inO s.1.length j (.leaf (.inl (hd_k 12 5000 c (W64 (j + 1)) (setA s.1 (Int.toNat j) (stpV (getB (blX c.g) (Int.toNat j)) (getM s.1 (Int.toNat j))).1, s.2.1, s.2.2)))))))) else .leaf (.inr (ex_k 2 5000 c s))
def st_t1 (g : (Lt_k 12 5000).T) : TK 12 5000 := st_t1' (rc 12 5000 g) g.1.2.2.2.2.2.2.1 (rs 12 5000 g)
def fu_t (i nx : Nat) (g : (Lt_k i nx).T) : Nat := (blX g.2.1).length + 1
theorem l_t1 : LoopOk Tryz.prog 69 lb_t1 (loopSum (Lt_k 12 5000) (E_k 5000) (finX [.ret, .exit 2] st_t1 (fu_t 12 5000))) := loopOk_x0 X_r4_ok 7 _ _ _ (E_k_nx (by decide)) [.ret, .exit 2] st_t1 (fu_t 12 5000) (fun g => by kernel_rfl)
def st_t2' (c : RT) (j : Int) (s : S2) : TK 15 6000 := bif decide (j < (nB c : Int)) then inO s.2.1.length j (bif !getA s.2.1 (Int.toNat j) (dflt .b) then inO s.1.length j (
  bif !onB (lwG c.g) (getM s.1 (Int.toNat j)).1 then inO s.2.1.length j (inO s.1.length j (appK s.2.2 (kn c.t c.st 2 j 0) fun ks => .leaf (.inl (hd_k 15 6000 c (W64 (j + 1)) (setA s.1 (Int.toNat j) (outM (getM s.1 (Int.toNat j))), setA s.2.1 (Int.toNat j) true, ks)))))
  else .leaf (.inl (hd_k 15 6000 c (W64 (j + 1)) s))) else .leaf (.inl (hd_k 15 6000 c (W64 (j + 1)) s))) else .leaf (.inr (ex_k 4 6000 c s))
def st_t2 (g : (Lt_k 15 6000).T) : TK 15 6000 := st_t2' (rc 15 6000 g) g.1.2.2.2.2.2.2.1 (rs 15 6000 g)
theorem l_t2 : LoopOk Tryz.prog 69 lb_t2 (loopSum (Lt_k 15 6000) (E_k 6000) (finX [.exit 4] st_t2 (fu_t 15 6000))) := loopOk_x0 X_r4_ok 7 _ _ _ (E_k_nx (by decide)) [.exit 4] st_t2 (fu_t 15 6000) (fun g => by kernel_rfl)
def L_t4 : Lay := { keys := [2, 3, 4, 8, 10, 11, 19, 20], ks := [.p 4 0 0 0, .p 5 0 0 0, .p 6 0 0 0, .d (.sl cDisc), kKn, .d cI, .d cI, .d cI], bs := bsR, n := 233, nx := 10000, marks := [] }
def R_t4 : Lay := { keys := [2, 3, 4, 8, 10, 11, 19], ks := [.p 4 0 0 0, .p 5 0 0 0, .p 6 0 0 0, .d (.sl cDisc), kKn, .d cI, .d cI], bs := bsR, n := 233, nx := 10000, marks := [] }
def E_t4 : XE → Lay := fun e => match e with | .ret => Rf_tk4 | _ => R_t4
theorem E_t4_nx (e : XE) : L_t4.nx ≤ (E_t4 e).nx := by cases e <;> first | exact Nat.le_refl _ | exact (by decide : (10000 : Nat) ≤ 12000)
def hd_t4 (c : RT) (i k : Int) (s : S2) : L_t4.T := (((), (), (), c.ps, s.2.2, c.st, i, k, ()), bR c s)
def ex_t4 (c : RT) (i : Int) (s : S2) : Left' E_t4 := ⟨.exit 8, (((), (), (), c.ps, s.2.2, c.st, i, ()), bR c s)⟩
def rt_t4 (e : Int) : Left' E_t4 := ⟨.ret, (((), [], e, ()), (r0, ()))⟩
abbrev TT4 := Tree (L_t4.T ⊕ Left' E_t4)
def gmCx (g : SKTs kGr) : TCT cBnc := (g.2.2.2.2.2.2.2.2.2.2.2.2.1, g.2.2.2.2.2.2.2.2.2.2.2.2.2.1, ())
def row_t4 (c : RT) (i k : Int) (s : S2) (r : TCTs [cMot, cI]) : TT4 :=
  bif r.2.1 == 4 then .leaf (.inr (rt_t4 r.2.1)) else bif r.2.1 == 0 then inO s.1.length i (appK s.2.2 (kn c.t c.st 1 i k) fun ks => .leaf (.inl (hd_t4 c i (W64 (k + 1)) (setA s.1 (Int.toNat i) r.1, s.2.1, ks)))) else .leaf (.inl (hd_t4 c i (W64 (k + 1)) s))
def cnt_t4 (c : RT) (i k : Int) (s : S2) : TT4 := inO s.1.length i (bif stillM (getM s.1 (Int.toNat i)) then .leaf (.inl (hd_t4 c i (W64 (k + 1)) s)) else
  inN (nB c) i (inO s.1.length i (inN c.ps.length k (row_t4 c i k s (bmV (getB (blX c.g) (Int.toNat i)) (getM s.1 (Int.toNat i)) (getD4 c.ps (Int.toNat k)) (gmCx c.g))))))
def st_t4' (c : RT) (i k : Int) (s : S2) : TT4 := bif decide (k < (c.ps.length : Int)) then inO s.2.1.length i (bif !getA s.2.1 (Int.toNat i) (dflt .b) then bif i == c.w then bif !!decide (c.fl > 0) then .leaf (.inl (hd_t4 c i (W64 (k + 1)) s)) else cnt_t4 c i k s else cnt_t4 c i k s
  else .leaf (.inl (hd_t4 c i (W64 (k + 1)) s))) else .leaf (.inr (ex_t4 c i s))
def rc4 (g : L_t4.T) : RT := ⟨g.2.1, g.2.2.2.1, g.2.2.1.2.2.1, g.2.2.1.2.2.2.1, g.2.2.1.2.2.2.2.1, g.1.2.2.2.1, g.1.2.2.2.2.2.1⟩
def rs4 (g : L_t4.T) : S2 := (g.2.2.1.1, g.2.2.1.2.1, g.1.2.2.2.2.1)
def st_t4 (g : L_t4.T) : TT4 := st_t4' (rc4 g) g.1.2.2.2.2.2.2.1 g.1.2.2.2.2.2.2.2.1 (rs4 g)
def fu_t4 (g : L_t4.T) : Nat := (g.1.2.2.2.1 : Dss).length + 1
def sm_t4 : St → Tree (XE × St) := loopSum L_t4 E_t4 (finX [.ret, .exit 8] st_t4 fu_t4)
theorem l_t4 : LoopOk Tryz.prog 69 lb_t4 sm_t4 := loopOk_x0 X_r4_ok 7 _ _ _ E_t4_nx [.ret, .exit 8] st_t4 fu_t4 (fun g => by kernel_rfl)
def y_t4 (c : RT) (i : Int) (s : S2) : Option (Left' E_t4) := iter st_t4 (c.ps.length + 1) (hd_t4 c i 0 s)
def nx_t3 (r : R_t4.T) : (Lt_k 19 9000).T := (((), (), (), r.1.2.2.2.1, r.1.2.2.2.2.1, r.1.2.2.2.2.2.1, W64 (r.1.2.2.2.2.2.2.1 + 1), ()), r.2)
def rf_t3 (r : Rf_tk4.T) : Left' (E_k 9000) := ⟨.ret, r⟩
def ct_t3 (y : Option (Left' E_t4)) : TK 19 9000 := bif isE .ret y then .leaf (.inr (rf_t3 (valE .ret y))) else bif isE (.exit 8) y then .leaf (.inl (nx_t3 (valE (.exit 8) y))) else .fail
def st_t3' (c : RT) (i : Int) (s : S2) : TK 19 9000 := bif decide (i < (nB c : Int)) then ct_t3 (y_t4 c i s) else .leaf (.inr (ex_k 6 9000 c s))
def st_t3 (g : (Lt_k 19 9000).T) : TK 19 9000 := st_t3' (rc 19 9000 g) g.1.2.2.2.2.2.2.1 (rs 19 9000 g)
def Lt_t3 : LoopT := fun k => bif Nat.beq k 35 then some sm_t4 else none
theorem loops_t3 : loopsOf lb_t3 = [lb_t4] := by kernel_rfl
theorem key_t4 : keyOf lb_t4 = 35 := by kernel_rfl
theorem l_t3 : LoopOk Tryz.prog 69 lb_t3 (loopSum (Lt_k 19 9000) (E_k 9000) (finX [.ret, .exit 6] st_t3 (fu_t 19 9000))) := loopOk_x X_r4_ok 7 _ Lt_t3 (fun d hd f hf => by
    rw [loops_t3, List.mem_singleton] at hd
    subst hd
    rw [key_t4] at hf
    cases hf
    exact l_t4) _ _ (E_k_nx (by decide)) [.ret, .exit 6] st_t3 (fu_t 19 9000) (fun g => by kernel_rfl)
end St
end V
end Go.Proofs.YtkiaifmbbnnliaaGreat
