import Derived.Test.YtkiaifmbbnnliaaGreatUg
namespace Go.Proofs.YtkiaifmbbnnliaaGreat
open Go.RowKit
namespace V
theorem is_Bounce : FnIs Tryz.prog (153, Tryz.f153) := ⟨Tryz.func153, by kernel_rfl, by kernel_rfl⟩
theorem is_Bounce1 : FnIs Tryz.prog (181, Tryz.f181) := ⟨Tryz.func181, by kernel_rfl, by kernel_rfl⟩
theorem is_rBounce : FnIs Tryz.prog (158, Tryz.f158) := ⟨Tryz.func158, by kernel_rfl, by kernel_rfl⟩
theorem is_Bump : FnIs Tryz.prog (163, Tryz.f163) := ⟨Tryz.func163, by kernel_rfl, by kernel_rfl⟩
theorem is_rBump : FnIs Tryz.prog (127, Tryz.f127) := ⟨Tryz.func127, by kernel_rfl, by kernel_rfl⟩
def plN : List (Nat × PureT) := (197, Qu 0) :: (198, Qu 1) :: (179, A2l) :: (188, Jb) :: plK
theorem puN : Bu Tryz.prog plN := A0 is_each1.plain Adt (A0 is_each2.plain Adu (A0 is_Kick.plain B2c (A0 is_bI.plain Sr puK)))
def B6z : List (Nat × PureT) := (182, A2l) :: (164, Jb) :: Aoo
theorem B2e : Bu Tryz.prog B6z := A0 is_rKick.plain Avc (A0 Ti.plain A2c Aop)
abbrev Aga := TCTs [Ai, Ai, cI]
abbrev Ba5 (y : Aga) : Aga := (Y8 y.1, Y8 y.2.1, y.2.2.1, ())
def Bm.moved (a : Bm) (x y : Int) : TCT Ai := ((a.px, a.py, ()), (x, y, ()), (a.rx, a.ry, ()), ())
def Gb (a b : Bm) (k : O8) : Aga :=
 bif k.2.1 != 0 then (Dx, Dx, k.2.1, ()) else
 bif !Au (W64 (a.mx - k.1.1)) (W64 (a.my - k.1.2.1)) then (Dx, Dx, 4, ()) else
 bif !Au (W64 (b.mx + k.1.1)) (W64 (b.my + k.1.2.1)) then (Dx, Dx, 4, ()) else
 (a.moved (W64 (a.mx - k.1.1)) (W64 (a.my - k.1.2.1)), b.moved (W64 (b.mx + k.1.1)) (W64 (b.my + k.1.2.1)), 0, ())
def B7 (a b : Bm) (re dr : Int) : Aga := Gb a b (Qb a b re dr)
def Adv (a b : Bm) (k : O8) : Tree Aga :=
 bif k.2.1 != 0 then .leaf (Dx, Dx, k.2.1, ()) else
 bif !Au (W64 (a.mx - k.1.1)) (W64 (a.my - k.1.2.1)) then .leaf (Dx, Dx, 4, ()) else
 bif !Au (W64 (b.mx + k.1.1)) (W64 (b.my + k.1.2.1)) then .leaf (Dx, Dx, 4, ()) else
 .leaf (a.moved (W64 (a.mx - k.1.1)) (W64 (a.my - k.1.2.1)), b.moved (W64 (b.mx + k.1.1)) (W64 (b.my + k.1.2.1)), 0, ())
theorem A6q (a b : Bm) (k : O8) : (Adv a b k).sat (fun y => y = Gb a b k) := by
 unfold Adv Gb
 cases k.2.1 != 0 <;> cases Au (W64 (a.mx - k.1.1)) (W64 (a.my - k.1.2.1)) <;> cases Au (W64 (b.mx + k.1.1)) (W64 (b.my + k.1.2.1)) <;> exact rfl
abbrev Qc : PureT := B4 [A3, Ai, A3, Ai, Dz] [Ai, Ai, cI] (fun _ => true) (fun x => Ba5 (B7 (bm x.1 x.2.1) (bm x.2.2.1 x.2.2.2.1) x.2.2.2.2.1.1 x.2.2.2.2.1.2.1))
theorem Aoq : A7 Tryz.prog 153 Qc := B2 (Ad Ab puN (fns_cons is_Bounce (fns_cons is_Bounce1 (fns_cons is_each A2)))) 6
 (fun x => Adv (bm x.1 x.2.1) (bm x.2.2.1 x.2.2.2.1) (Qb (bm x.1 x.2.1) (bm x.2.2.1 x.2.2.2.1) x.2.2.2.2.1.1 x.2.2.2.2.1.2.1)) (fun x => by kernel_rfl) fun _ _ _ => A6q _ _ _
theorem Agb : A7 Tryz.prog 158 Qc := B2 (Ad Ab B2e (fns_cons is_rBounce A2)) 6
 (fun x => Adv (bm x.1 x.2.1) (bm x.2.2.1 x.2.2.2.1) (Qb (bm x.1 x.2.1) (bm x.2.2.1 x.2.2.2.1) x.2.2.2.2.1.1 x.2.2.2.2.1.2.1)) (fun x => by kernel_rfl) fun _ _ _ => A6q _ _ _
def dN (a : Bm) (qx qy : Int) : Int := a.mx * (qx - a.px) + a.my * (qy - a.py)
def A6r (a : Bm) (qx qy q re dr : Int) : Aaj :=
 bif !(a.ok && (Iv qx qy q && Gh re dr)) then (Dx, 2, ()) else bif !F0 a.px a.py qx qy (a.r + q) then (Dx, 5, ()) else bif decide (dN a qx qy ≤ 0) then (Dx, 10, ()) else
 bif !Au (W64 (a.mx - (kK (qx - a.px) (qy - a.py) a.mx a.my re dr 1).1)) (W64 (a.my - (kK (qx - a.px) (qy - a.py) a.mx a.my re dr 1).2)) then (Dx, 4, ()) else
 (a.moved (W64 (a.mx - (kK (qx - a.px) (qy - a.py) a.mx a.my re dr 1).1)) (W64 (a.my - (kK (qx - a.px) (qy - a.py) a.mx a.my re dr 1).2)), 0, ())
def A2o (a : Bm) (qx qy q re dr : Int) : Tree Aaj :=
 bif okE a.ok != 0 then .leaf (Dx, 2, ()) else bif Ro qx qy q != 0 then .leaf (Dx, 2, ()) else bif okE (Gh re dr) != 0 then .leaf (Dx, 2, ()) else
 bif fpt a.px a.py && (fpt qx qy && decide (0 ≤ W64 (a.r + q) ∧ W64 (a.r + q) ≤ 131072)) then
 bif !F0 a.px a.py qx qy (W64 (a.r + q)) then .leaf (Dx, 5, ()) else
 bif decide (W64 (W64 (W64 (qx - a.px) * a.mx) + W64 (W64 (qy - a.py) * a.my)) ≤ 0) then .leaf (Dx, 10, ()) else
 bif kOk (W64 (qx - a.px)) (W64 (qy - a.py)) a.mx a.my 1 then
 bif !Au (W64 (a.mx - (kK (W64 (qx - a.px)) (W64 (qy - a.py)) a.mx a.my re dr 1).1)) (W64 (a.my - (kK (W64 (qx - a.px)) (W64 (qy - a.py)) a.mx a.my re dr 1).2)) then .leaf (Dx, 4, ()) else
 .leaf (a.moved (W64 (a.mx - (kK (W64 (qx - a.px)) (W64 (qy - a.py)) a.mx a.my re dr 1).1)) (W64 (a.my - (kK (W64 (qx - a.px)) (W64 (qy - a.py)) a.mx a.my re dr 1).2)), 0, ())
 else .fail else .fail
theorem A00 (a : Bm) (qx qy q re dr : Int) : (A2o a qx qy q re dr).sat (fun y => y = A6r a qx qy q re dr) := by
 unfold A2o A6r okE Ro
 cases ha : a.ok with
 | false => exact rfl
 | true => cases hb : Iv qx qy q with
  | false => exact rfl
  | true => cases hc : Gh re dr with
   | false => exact rfl
   | true =>
    have fa := Bm.fit ha
    unfold Iv at hb
    simp only [Bool.and_eq_true, Bool.not_eq_true'] at hb
    obtain ⟨hp, hq⟩ := hb
    have hq' := Dk hq
    have hp' := hp
    unfold fpt at hp'
    obtain ⟨q1, q2, q3, q4⟩ := of_decide_eq_true hp'
    have p1 := fa.px1; have p2 := fa.px2; have p3 := fa.py1; have p4 := fa.py2
    have c1 := fa.r1; have c2 := fa.r2
    have ⟨e1, e2⟩ := C6 (A := 16777216) (B := 8388608) (b := qx - a.px) fa.mx1 fa.mx2 (by omega) (by omega)
    have ⟨e3, e4⟩ := C6 (A := 16777216) (B := 8388608) (b := qy - a.py) fa.my1 fa.my2 (by omega) (by omega)
    have wr : W64 (a.r + q) = a.r + q := A6 (by omega) (by omega)
    have wx : W64 (qx - a.px) = qx - a.px := A6 (by omega) (by omega)
    have wy : W64 (qy - a.py) = qy - a.py := A6 (by omega) (by omega)
    have wd : W64 (W64 (a.mx * (qx - a.px)) + W64 (a.my * (qy - a.py))) = dN a qx qy := by
     rw [show W64 (a.mx * (qx - a.px)) = _ from A6 (by omega) (by omega), show W64 (a.my * (qy - a.py)) = _ from A6 (by omega) (by omega)]
     exact A6 (by omega) (by omega)
    rw [wr, wx, wy, Int.mul_comm (qx - a.px) a.mx, Int.mul_comm (qy - a.py) a.my, wd, fa.p, hp, decide_eq_true (show 0 ≤ a.r + q ∧ a.r + q ≤ 131072 by omega)]
    cases hcl : F0 a.px a.py qx qy (a.r + q) with
    | false => exact rfl
    | true =>
     by_cases hd : dN a qx qy ≤ 0
     ·rw [decide_eq_true hd]; exact rfl
     ·have hs : 1001 * 1001 ≤ (a.r + q) * (a.r + q) := Df (by omega) (by omega)
      have hcl' := hcl
      unfold F0 at hcl'
      have hsq := (of_decide_eq_true hcl').2
      have ⟨g1, g2⟩ := C6 (a := qx - a.px) (b := qx - a.px) (A := 8388608) (B := 8388608) (by omega) (by omega) (by omega) (by omega)
      have ⟨g3, g4⟩ := C6 (a := qy - a.py) (b := qy - a.py) (A := 8388608) (B := 8388608) (by omega) (by omega) (by omega) (by omega)
      have hk : kQ (qx - a.px) (qy - a.py) = sq a.px a.py qx qy := by
       unfold kQ
       rw [show W64 ((qx - a.px) * (qx - a.px)) = _ from A6 (by omega) (by omega), show W64 ((qy - a.py) * (qy - a.py)) = _ from A6 (by omega) (by omega)]
       exact A6 (by omega) (by omega)
      have hok : kOk (qx - a.px) (qy - a.py) a.mx a.my 1 = true := by
       unfold kOk kD
       rw [hk, wd]
       exact decide_eq_true ⟨by omega, by decide, by omega⟩
      rw [decide_eq_false hd, hok]
      cases Au (W64 (a.mx - (kK (qx - a.px) (qy - a.py) a.mx a.my re dr 1).1)) (W64 (a.my - (kK (qx - a.px) (qy - a.py) a.mx a.my re dr 1).2)) <;> exact rfl
abbrev A2p : PureT := B4 [A3, Ai, Al, Dz] [Ai, cI] (fun _ => true) (fun x => B6w (A6r (bm x.1 x.2.1) x.2.2.1.1.1 x.2.2.1.1.2.1 x.2.2.1.2.1 x.2.2.2.1.1 x.2.2.2.1.2.1))
theorem B2f : A7 Tryz.prog 163 A2p := B2 (Ad Ab puN (fns_cons is_Bump A2)) 6
 (fun x => A2o (bm x.1 x.2.1) x.2.2.1.1.1 x.2.2.1.1.2.1 x.2.2.1.2.1 x.2.2.2.1.1 x.2.2.2.1.2.1) (fun x => by kernel_rfl) fun _ _ _ => A00 _ _ _ _ _ _
theorem Ave : A7 Tryz.prog 127 A2p := B2 (Ad Ab B2e (fns_cons is_rBump A2)) 6
 (fun x => A2o (bm x.1 x.2.1) x.2.2.1.1.1 x.2.2.1.1.2.1 x.2.2.1.2.1 x.2.2.2.1.1 x.2.2.2.1.2.1) (fun x => by kernel_rfl) fun _ _ _ => A00 _ _ _ _ _ _
end V
end Go.Proofs.YtkiaifmbbnnliaaGreat
