import Derived.Test.YtkiaifmbbnnliaaGreatUf
namespace Go.Proofs.YtkiaifmbbnnliaaGreat
open Go.RowKit
namespace V
theorem is_Step : FnIs Tryz.prog (162, Tryz.f162) := ⟨Tryz.func162, by kernel_rfl, by kernel_rfl⟩
theorem is_steps : FnIs Tryz.prog (187, Tryz.f187) := ⟨Tryz.func187, by kernel_rfl, by kernel_rfl⟩
theorem is_rollstep : FnIs Tryz.prog (200, Tryz.f200) := ⟨Tryz.func200, by kernel_rfl, by kernel_rfl⟩
theorem is_rollstep1 : FnIs Tryz.prog (205, Tryz.f205) := ⟨Tryz.func205, by kernel_rfl, by kernel_rfl⟩
theorem is_each : FnIs Tryz.prog (180, Tryz.f180) := ⟨Tryz.func180, by kernel_rfl, by kernel_rfl⟩
theorem is_each1 : FnIs Tryz.prog (197, Tryz.f197) := ⟨Tryz.func197, by kernel_rfl, by kernel_rfl⟩
theorem is_each2 : FnIs Tryz.prog (198, Tryz.f198) := ⟨Tryz.func198, by kernel_rfl, by kernel_rfl⟩
theorem q_each1 : PureOk Tryz.prog 197 (ptrAt 0) := q_ptr (ctx_ok mixed puOk_nil (fns_cons is_each1 fns_nil)) 2 (fun id row st col => by kernel_rfl)
theorem q_each2 : PureOk Tryz.prog 198 (ptrAt 1) := q_ptr (ctx_ok mixed puOk_nil (fns_cons is_each2 fns_nil)) 2 (fun id row st col => by kernel_rfl)
def plS : List (Nat × PureT) := (197, ptrAt 0) :: (198, ptrAt 1) :: (206, s_Divide) :: plK
theorem puS : PuOk Tryz.prog plS := puOk_cons is_each1.plain q_each1 (puOk_cons is_each2.plain q_each2 (puOk_cons is_Divide.plain q_Divide puK))
abbrev RMot := TCTs [cMot, cI]
abbrev noMot : TCT cMot := ((0, 0, ()), (0, 0, ()), (0, 0, ()), ())
def sX (a : Bm) : Int := a.px + DW (a.mx + a.rx) (64 * a.m)
def sY (a : Bm) : Int := a.py + DW (a.my + a.ry) (64 * a.m)
def StepR (a : Bm) : RMot := bif !a.ok then (noMot, 2, ()) else bif !fpt (sX a) (sY a) then (noMot, 4, ()) else
  (((sX a, sY a, ()), (a.mx, a.my, ()), (DR (a.mx + a.rx) (64 * a.m), DR (a.my + a.ry) (64 * a.m), ()), ()), 0, ())
def T_Step (a : Bm) : Tree RMot :=
  bif okE a.ok != 0 then .leaf (noMot, okE a.ok, ()) else
  bif !u_ck (W64 (a.px + DvW (W64 (a.mx + a.rx)) (W64 (64 * a.m)))) (W64 (a.py + DvW (W64 (a.my + a.ry)) (W64 (64 * a.m)))) == 0 then .leaf (noMot, 4, ()) else
  .leaf (((W64 (a.px + DvW (W64 (a.mx + a.rx)) (W64 (64 * a.m))), W64 (a.py + DvW (W64 (a.my + a.ry)) (W64 (64 * a.m))), ()), (a.mx, a.my, ()),
    (DvR (W64 (a.mx + a.rx)) (W64 (64 * a.m)), DvR (W64 (a.my + a.ry)) (W64 (64 * a.m)), ()), ()), 0, ())
structure StepW (a : Bm) : Prop where
  w1 : W64 (a.mx + a.rx) = a.mx + a.rx
  w2 : W64 (a.my + a.ry) = a.my + a.ry
  w3 : W64 (64 * a.m) = 64 * a.m
  d1 : dvOk (a.mx + a.rx) (64 * a.m) = true
  d2 : dvOk (a.my + a.ry) (64 * a.m) = true
  x : W64 (a.px + DW (a.mx + a.rx) (64 * a.m)) = sX a
  y : W64 (a.py + DW (a.my + a.ry) (64 * a.m)) = sY a
  v1 : DvW (a.mx + a.rx) (64 * a.m) = DW (a.mx + a.rx) (64 * a.m)
  v2 : DvW (a.my + a.ry) (64 * a.m) = DW (a.my + a.ry) (64 * a.m)
  v3 : DvR (a.mx + a.rx) (64 * a.m) = DR (a.mx + a.rx) (64 * a.m)
  v4 : DvR (a.my + a.ry) (64 * a.m) = DR (a.my + a.ry) (64 * a.m)
theorem stepW {a : Bm} (h : a.Fit) : StepW a := by
  obtain ⟨m1, m2, r1, r2, p, px1, px2, py1, py2, mx1, mx2, my1, my2, rx1, rx2, ry1, ry2⟩ := h
  have ⟨b1, b2⟩ := dw_bd (a.mx + a.rx) (64 * a.m) 33554432 (by omega) (by omega) (by omega) (by omega)
  have ⟨b3, b4⟩ := dw_bd (a.my + a.ry) (64 * a.m) 33554432 (by omega) (by omega) (by omega) (by omega)
  have ⟨c1, c2, _⟩ := dv_ok (a.mx + a.rx) (64 * a.m) (by omega) (by omega) (by omega) (by omega)
  have ⟨c3, c4, _⟩ := dv_ok (a.my + a.ry) (64 * a.m) (by omega) (by omega) (by omega) (by omega)
  exact ⟨wrap_id (by omega) (by omega), wrap_id (by omega) (by omega), wrap_id (by omega) (by omega), decide_eq_true (by omega), decide_eq_true (by omega),
    wrap_id (by omega) (by omega), wrap_id (by omega) (by omega), c1, c3, c2, c4⟩
theorem T_Step_ok (a : Bm) : (T_Step a).sat (fun y => y = StepR a) := by
  unfold T_Step StepR okE
  cases ha : a.ok with
  | false => exact rfl
  | true =>
    have w := stepW (Bm.fit ha)
    rw [w.w1, w.w2, w.w3, w.v1, w.v2, w.v3, w.v4, w.x, w.y]
    unfold u_ck
    cases fpt (sX a) (sY a) <;> exact rfl
abbrev etaS (y : TCT cMot) : TCT cMot := ((y.1.1, y.1.2.1, ()), (y.2.1.1, y.2.1.2.1, ()), (y.2.2.1.1, y.2.2.1.2.1, ()), ())
abbrev etaM (y : RMot) : RMot := (etaS y.1, y.2.1, ())
abbrev s_Step : PureT := spec [cBall, cMot] [cMot, cI] (fun _ => true) (fun x => etaM (StepR (bm x.1 x.2.1)))
theorem q_Step : PureOk Tryz.prog 162 s_Step := q_by (ctx_ok mixed puS (fns_cons is_Step (fns_cons is_steps (fns_cons is_rollstep (fns_cons is_rollstep1 (fns_cons is_each fns_nil)))))) 8
  (fun x => T_Step (bm x.1 x.2.1)) (fun x => by kernel_rfl) fun _ _ _ => T_Step_ok _
end V
end Go.Proofs.YtkiaifmbbnnliaaGreat
