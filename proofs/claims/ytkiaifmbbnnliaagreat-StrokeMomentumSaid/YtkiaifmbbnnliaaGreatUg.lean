import Derived.Test.YtkiaifmbbnnliaaGreatUf
namespace Go.Proofs.YtkiaifmbbnnliaaGreat
open Go.RowKit
namespace V
theorem is_Step : FnIs Tryz.prog (162, Tryz.f162) := ⟨Tryz.func162, by kernel_rfl, by kernel_rfl⟩
theorem is_steps : FnIs Tryz.prog (187, Tryz.f187) := ⟨Tryz.func187, by kernel_rfl, by kernel_rfl⟩
theorem is_rollstep : FnIs Tryz.prog (200, Tryz.f200) := ⟨Tryz.func200, by kernel_rfl, by kernel_rfl⟩
theorem is_rollstep1 : FnIs Tryz.prog (205, Tryz.f205) := ⟨Tryz.func205, by kernel_rfl, by kernel_rfl⟩
theorem is_each : FnIs Tryz.prog (180, Tryz.f180) := ⟨Tryz.func180, by kernel_rfl, by kernel_rfl⟩
theorem is_each1 : FnIs Tryz.prog (197, Tryz.f197) := ⟨Tryz.func197, by kernel_rfl, by kernel_rfl⟩
theorem is_each2 : FnIs Tryz.prog (198, Tryz.f198) := ⟨Tryz.func198, by kernel_rfl, by kernel_rfl⟩
theorem is_rStep : FnIs Tryz.prog (126, Tryz.f126) := ⟨Tryz.func126, by kernel_rfl, by kernel_rfl⟩
theorem Adt : A7 Tryz.prog 197 (Qu 0) := Ay3 (Ad Ab A9 (fns_cons is_each1 A2)) 2 (fun id row st col => by kernel_rfl)
theorem Adu : A7 Tryz.prog 198 (Qu 1) := Ay3 (Ad Ab A9 (fns_cons is_each2 A2)) 2 (fun id row st col => by kernel_rfl)
def plS : List (Nat × PureT) := (197, Qu 0) :: (198, Qu 1) :: (206, A6b) :: plK
theorem puS : Bu Tryz.prog plS := A0 is_each1.plain Adt (A0 is_each2.plain Adu (A0 is_bD.plain Ank puK))
abbrev Aaj := TCTs [Ai, cI]
abbrev Dx : TCT Ai := ((0, 0, ()), (0, 0, ()), (0, 0, ()), ())
def sX (a : Bm) : Int := a.px + DW (a.mx + a.rx) (64 * a.m)
def sY (a : Bm) : Int := a.py + DW (a.my + a.ry) (64 * a.m)
def Lh (a : Bm) : Aaj := bif !a.ok then (Dx, 2, ()) else bif !fpt (sX a) (sY a) then (Dx, 4, ()) else
 (((sX a, sY a, ()), (a.mx, a.my, ()), (DR (a.mx + a.rx) (64 * a.m), DR (a.my + a.ry) (64 * a.m), ()), ()), 0, ())
def Aak (a : Bm) : Tree Aaj :=
 bif okE a.ok != 0 then .leaf (Dx, okE a.ok, ()) else
 bif !Q1 (W64 (a.px + DvW (W64 (a.mx + a.rx)) (W64 (64 * a.m)))) (W64 (a.py + DvW (W64 (a.my + a.ry)) (W64 (64 * a.m)))) == 0 then .leaf (Dx, 4, ()) else
 .leaf (((W64 (a.px + DvW (W64 (a.mx + a.rx)) (W64 (64 * a.m))), W64 (a.py + DvW (W64 (a.my + a.ry)) (W64 (64 * a.m))), ()), (a.mx, a.my, ()),
  (DvR (W64 (a.mx + a.rx)) (W64 (64 * a.m)), DvR (W64 (a.my + a.ry)) (W64 (64 * a.m)), ()), ()), 0, ())
def A2m (a : Bm) : Tree Aaj :=
 bif okE a.ok != 0 then .leaf (Dx, 2, ()) else
 bif F4 (W64 (a.mx + a.rx)) (W64 (64 * a.m)) then bif F4 (W64 (a.my + a.ry)) (W64 (64 * a.m)) then
 bif !fpt (W64 (a.px + DW (W64 (a.mx + a.rx)) (W64 (64 * a.m)))) (W64 (a.py + DW (W64 (a.my + a.ry)) (W64 (64 * a.m)))) then .leaf (Dx, 4, ()) else
 .leaf (((W64 (a.px + DW (W64 (a.mx + a.rx)) (W64 (64 * a.m))), W64 (a.py + DW (W64 (a.my + a.ry)) (W64 (64 * a.m))), ()), (a.mx, a.my, ()),
  (DR (W64 (a.mx + a.rx)) (W64 (64 * a.m)), DR (W64 (a.my + a.ry)) (W64 (64 * a.m)), ()), ()), 0, ()) else .fail else .fail
structure StepW (a : Bm) : Prop where
 w1 : W64 (a.mx + a.rx) = a.mx + a.rx
 w2 : W64 (a.my + a.ry) = a.my + a.ry
 w3 : W64 (64 * a.m) = 64 * a.m
 d1 : F4 (a.mx + a.rx) (64 * a.m) = true
 d2 : F4 (a.my + a.ry) (64 * a.m) = true
 x : W64 (a.px + DW (a.mx + a.rx) (64 * a.m)) = sX a
 y : W64 (a.py + DW (a.my + a.ry) (64 * a.m)) = sY a
 v1 : DvW (a.mx + a.rx) (64 * a.m) = DW (a.mx + a.rx) (64 * a.m)
 v2 : DvW (a.my + a.ry) (64 * a.m) = DW (a.my + a.ry) (64 * a.m)
 v3 : DvR (a.mx + a.rx) (64 * a.m) = DR (a.mx + a.rx) (64 * a.m)
 v4 : DvR (a.my + a.ry) (64 * a.m) = DR (a.my + a.ry) (64 * a.m)
theorem Axv {a : Bm} (h : a.Fit) : StepW a := by
 obtain ⟨m1, m2, r1, r2, p, px1, px2, py1, py2, mx1, mx2, my1, my2, rx1, rx2, ry1, ry2⟩ := h
 have ⟨b1, b2⟩ := A5q (a.mx + a.rx) (64 * a.m) 33554432 (by omega) (by omega) (by omega) (by omega)
 have ⟨b3, b4⟩ := A5q (a.my + a.ry) (64 * a.m) 33554432 (by omega) (by omega) (by omega) (by omega)
 have ⟨c1, c2, _⟩ := An3 (a.mx + a.rx) (64 * a.m) (by omega) (by omega) (by omega) (by omega)
 have ⟨c3, c4, _⟩ := An3 (a.my + a.ry) (64 * a.m) (by omega) (by omega) (by omega) (by omega)
 exact ⟨A6 (by omega) (by omega), A6 (by omega) (by omega), A6 (by omega) (by omega), decide_eq_true (by omega), decide_eq_true (by omega),
  A6 (by omega) (by omega), A6 (by omega) (by omega), c1, c3, c2, c4⟩
theorem Ag9 (a : Bm) : (Aak a).sat (fun y => y = Lh a) := by
 unfold Aak Lh okE
 cases ha : a.ok with
 | false => exact rfl
 | true =>
  have w := Axv (Bm.fit ha)
  rw [w.w1, w.w2, w.w3, w.v1, w.v2, w.v3, w.v4, w.x, w.y]
  unfold Q1
  cases fpt (sX a) (sY a) <;> exact rfl
theorem Aal (a : Bm) : (A2m a).sat (fun y => y = Lh a) := by
 unfold A2m Lh okE
 cases ha : a.ok with
 | false => exact rfl
 | true =>
  have w := Axv (Bm.fit ha)
  rw [w.w1, w.w2, w.w3, w.d1, w.d2, w.x, w.y]
  cases fpt (sX a) (sY a) <;> exact rfl
abbrev Y8 (y : TCT Ai) : TCT Ai := ((y.1.1, y.1.2.1, ()), (y.2.1.1, y.2.1.2.1, ()), (y.2.2.1.1, y.2.2.1.2.1, ()), ())
abbrev B6w (y : Aaj) : Aaj := (Y8 y.1, y.2.1, ())
abbrev A2n : PureT := B4 [A3, Ai] [Ai, cI] (fun _ => true) (fun x => B6w (Lh (bm x.1 x.2.1)))
theorem B2d : A7 Tryz.prog 162 A2n := B2 (Ad Ab puS (fns_cons is_Step (fns_cons is_steps (fns_cons is_rollstep (fns_cons is_rollstep1 (fns_cons is_each A2)))))) 8
 (fun x => Aak (bm x.1 x.2.1)) (fun x => by kernel_rfl) fun _ _ _ => Ag9 _
def B6x : List (Nat × PureT) := (156, A6h) :: Aoo
theorem B6y : Bu Tryz.prog B6x := A0 is_bP.plain Aoc Aop
theorem Avd : A7 Tryz.prog 126 A2n := B2 (Ad Ab B6y (fns_cons is_rStep A2)) 8
 (fun x => A2m (bm x.1 x.2.1)) (fun x => by kernel_rfl) fun _ _ _ => Aal _
end V
end Go.Proofs.YtkiaifmbbnnliaaGreat
