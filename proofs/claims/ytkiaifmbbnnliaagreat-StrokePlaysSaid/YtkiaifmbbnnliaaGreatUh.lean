import Derived.Test.YtkiaifmbbnnliaaGreatUg
namespace Go.Proofs.YtkiaifmbbnnliaaGreat
open Go.RowKit
namespace V
theorem is_Bounce : FnIs Tryz.prog (153, Tryz.f153) := ⟨Tryz.func153, by kernel_rfl, by kernel_rfl⟩
theorem is_Bounce1 : FnIs Tryz.prog (181, Tryz.f181) := ⟨Tryz.func181, by kernel_rfl, by kernel_rfl⟩
theorem is_rBounce : FnIs Tryz.prog (158, Tryz.f158) := ⟨Tryz.func158, by kernel_rfl, by kernel_rfl⟩
theorem is_Bump : FnIs Tryz.prog (163, Tryz.f163) := ⟨Tryz.func163, by kernel_rfl, by kernel_rfl⟩
theorem is_rBump : FnIs Tryz.prog (127, Tryz.f127) := ⟨Tryz.func127, by kernel_rfl, by kernel_rfl⟩
def plN : List (Nat × PureT) := (197, Qz 0) :: (198, Qz 1) :: (179, A3q) :: (188, Jb) :: plK
theorem puN : By Tryz.prog plN := A0 is_each1.plain Ah4 (A0 is_each2.plain Ah5 (A0 is_Kick.plain B99 (A0 is_bY.plain T4 puK)))
def Bf3 : List (Nat × PureT) := (182, A3q) :: (164, Jb) :: Atn
theorem B9b : By Tryz.prog Bf3 := A0 is_rKick.plain B0g (A0 Ty.plain A3h Ato)
abbrev Aju := TCTs [Aj, Aj, cI]
abbrev Bis (y : Aju) : Aju := (Py y.1, Py y.2.1, y.2.2.1, ())
def Bm.moved (a : Bm) (x y : Int) : TCT Aj := ((a.px, a.py, ()), (x, y, ()), (a.rx, a.ry, ()), ())
def K9 (a b : Bm) (k : Qf) : Aju :=
 bif k.2.1 != 0 then (Eb, Eb, k.2.1, ()) else
 bif !Ay (W64 (a.mx - k.1.1)) (W64 (a.my - k.1.2.1)) then (Eb, Eb, 4, ()) else
 bif !Ay (W64 (b.mx + k.1.1)) (W64 (b.my + k.1.2.1)) then (Eb, Eb, 4, ()) else
 (a.moved (W64 (a.mx - k.1.1)) (W64 (a.my - k.1.2.1)), b.moved (W64 (b.mx + k.1.1)) (W64 (b.my + k.1.2.1)), 0, ())
def Bw (a b : Bm) (re dr : Int) : Aju := K9 a b (T7 a b re dr)
def Ah6 (a b : Bm) (k : Qf) : Tree Aju :=
 bif k.2.1 != 0 then .leaf (Eb, Eb, k.2.1, ()) else
 bif !Ay (W64 (a.mx - k.1.1)) (W64 (a.my - k.1.2.1)) then .leaf (Eb, Eb, 4, ()) else
 bif !Ay (W64 (b.mx + k.1.1)) (W64 (b.my + k.1.2.1)) then .leaf (Eb, Eb, 4, ()) else
 .leaf (a.moved (W64 (a.mx - k.1.1)) (W64 (a.my - k.1.2.1)), b.moved (W64 (b.mx + k.1.1)) (W64 (b.my + k.1.2.1)), 0, ())
theorem A89 (a b : Bm) (k : Qf) : (Ah6 a b k).sat (fun y => y = K9 a b k) := by
 unfold Ah6 K9
 cases k.2.1 != 0 <;> cases Ay (W64 (a.mx - k.1.1)) (W64 (a.my - k.1.2.1)) <;> cases Ay (W64 (b.mx + k.1.1)) (W64 (b.my + k.1.2.1)) <;> exact rfl
abbrev Qh : PureT := B9 [A4, Aj, A4, Aj, D5] [Aj, Aj, cI] (fun _ => true) (fun x => Bis (Bw (bm x.1 x.2.1) (bm x.2.2.1 x.2.2.2.1) x.2.2.2.2.1.1 x.2.2.2.2.1.2.1))
theorem Atp : A7 Tryz.prog 153 Qh := B6 (Ad Ab puN (fns_cons is_Bounce (fns_cons is_Bounce1 (fns_cons is_each A2)))) 6
 (fun x => Ah6 (bm x.1 x.2.1) (bm x.2.2.1 x.2.2.2.1) (T7 (bm x.1 x.2.1) (bm x.2.2.1 x.2.2.2.1) x.2.2.2.2.1.1 x.2.2.2.2.1.2.1)) (fun x => by kernel_rfl) fun _ _ _ => A89 _ _ _
theorem Ajv : A7 Tryz.prog 158 Qh := B6 (Ad Ab B9b (fns_cons is_rBounce A2)) 6
 (fun x => Ah6 (bm x.1 x.2.1) (bm x.2.2.1 x.2.2.2.1) (T7 (bm x.1 x.2.1) (bm x.2.2.1 x.2.2.2.1) x.2.2.2.2.1.1 x.2.2.2.2.1.2.1)) (fun x => by kernel_rfl) fun _ _ _ => A89 _ _ _
def dN (a : Bm) (qx qy : Int) : Int := a.mx * (qx - a.px) + a.my * (qy - a.py)
def A8a (a : Bm) (qx qy q re dr : Int) : Acq :=
 bif !(a.ok && (Iw qx qy q && Hr re dr)) then (Eb, 2, ()) else bif !Fi a.px a.py qx qy (a.r + q) then (Eb, 5, ()) else bif decide (dN a qx qy ≤ 0) then (Eb, 10, ()) else
 bif !Ay (W64 (a.mx - (kK (qx - a.px) (qy - a.py) a.mx a.my re dr 1).1)) (W64 (a.my - (kK (qx - a.px) (qy - a.py) a.mx a.my re dr 1).2)) then (Eb, 4, ()) else
 (a.moved (W64 (a.mx - (kK (qx - a.px) (qy - a.py) a.mx a.my re dr 1).1)) (W64 (a.my - (kK (qx - a.px) (qy - a.py) a.mx a.my re dr 1).2)), 0, ())
def A3t (a : Bm) (qx qy q re dr : Int) : Tree Acq :=
 bif okE a.ok != 0 then .leaf (Eb, 2, ()) else bif Rv qx qy q != 0 then .leaf (Eb, 2, ()) else bif okE (Hr re dr) != 0 then .leaf (Eb, 2, ()) else
 bif fpt a.px a.py && (fpt qx qy && decide (0 ≤ W64 (a.r + q) ∧ W64 (a.r + q) ≤ 131072)) then
 bif !Fi a.px a.py qx qy (W64 (a.r + q)) then .leaf (Eb, 5, ()) else
 bif decide (W64 (W64 (W64 (qx - a.px) * a.mx) + W64 (W64 (qy - a.py) * a.my)) ≤ 0) then .leaf (Eb, 10, ()) else
 bif kOk (W64 (qx - a.px)) (W64 (qy - a.py)) a.mx a.my 1 then
 bif !Ay (W64 (a.mx - (kK (W64 (qx - a.px)) (W64 (qy - a.py)) a.mx a.my re dr 1).1)) (W64 (a.my - (kK (W64 (qx - a.px)) (W64 (qy - a.py)) a.mx a.my re dr 1).2)) then .leaf (Eb, 4, ()) else
 .leaf (a.moved (W64 (a.mx - (kK (W64 (qx - a.px)) (W64 (qy - a.py)) a.mx a.my re dr 1).1)) (W64 (a.my - (kK (W64 (qx - a.px)) (W64 (qy - a.py)) a.mx a.my re dr 1).2)), 0, ())
 else .fail else .fail
theorem A16 (a : Bm) (qx qy q re dr : Int) : (A3t a qx qy q re dr).sat (fun y => y = A8a a qx qy q re dr) := by
 unfold A3t A8a okE Rv
 cases ha : a.ok with
 | false => exact rfl
 | true => cases hb : Iw qx qy q with
  | false => exact rfl
  | true => cases hc : Hr re dr with
   | false => exact rfl
   | true =>
    have fa := Bm.fit ha
    unfold Iw at hb
    simp only [Bool.and_eq_true, Bool.not_eq_true'] at hb
    obtain ⟨hp, hq⟩ := hb
    have hq' := E8 hq
    have hp' := hp
    unfold fpt at hp'
    obtain ⟨q1, q2, q3, q4⟩ := of_decide_eq_true hp'
    have p1 := fa.px1; have p2 := fa.px2; have p3 := fa.py1; have p4 := fa.py2
    have c1 := fa.r1; have c2 := fa.r2
    have ⟨e1, e2⟩ := Ca (A := 16777216) (B := 8388608) (b := qx - a.px) fa.mx1 fa.mx2 (by omega) (by omega)
    have ⟨e3, e4⟩ := Ca (A := 16777216) (B := 8388608) (b := qy - a.py) fa.my1 fa.my2 (by omega) (by omega)
    have wr : W64 (a.r + q) = a.r + q := A5 (by omega) (by omega)
    have wx : W64 (qx - a.px) = qx - a.px := A5 (by omega) (by omega)
    have wy : W64 (qy - a.py) = qy - a.py := A5 (by omega) (by omega)
    have wd : W64 (W64 (a.mx * (qx - a.px)) + W64 (a.my * (qy - a.py))) = dN a qx qy := by
     rw [show W64 (a.mx * (qx - a.px)) = _ from A5 (by omega) (by omega), show W64 (a.my * (qy - a.py)) = _ from A5 (by omega) (by omega)]
     exact A5 (by omega) (by omega)
    rw [wr, wx, wy, Int.mul_comm (qx - a.px) a.mx, Int.mul_comm (qy - a.py) a.my, wd, fa.p, hp, decide_eq_true (show 0 ≤ a.r + q ∧ a.r + q ≤ 131072 by omega)]
    cases hcl : Fi a.px a.py qx qy (a.r + q) with
    | false => exact rfl
    | true =>
     by_cases hd : dN a qx qy ≤ 0
     ·rw [decide_eq_true hd]; exact rfl
     ·have hs : 1001 * 1001 ≤ (a.r + q) * (a.r + q) := E4 (by omega) (by omega)
      have hcl' := hcl
      unfold Fi at hcl'
      have hsq := (of_decide_eq_true hcl').2
      have ⟨g1, g2⟩ := Ca (a := qx - a.px) (b := qx - a.px) (A := 8388608) (B := 8388608) (by omega) (by omega) (by omega) (by omega)
      have ⟨g3, g4⟩ := Ca (a := qy - a.py) (b := qy - a.py) (A := 8388608) (B := 8388608) (by omega) (by omega) (by omega) (by omega)
      have hk : kQ (qx - a.px) (qy - a.py) = sq a.px a.py qx qy := by
       unfold kQ
       rw [show W64 ((qx - a.px) * (qx - a.px)) = _ from A5 (by omega) (by omega), show W64 ((qy - a.py) * (qy - a.py)) = _ from A5 (by omega) (by omega)]
       exact A5 (by omega) (by omega)
      have hok : kOk (qx - a.px) (qy - a.py) a.mx a.my 1 = true := by
       unfold kOk kD
       rw [hk, wd]
       exact decide_eq_true ⟨by omega, by decide, by omega⟩
      rw [decide_eq_false hd, hok]
      cases Ay (W64 (a.mx - (kK (qx - a.px) (qy - a.py) a.mx a.my re dr 1).1)) (W64 (a.my - (kK (qx - a.px) (qy - a.py) a.mx a.my re dr 1).2)) <;> exact rfl
abbrev A3u : PureT := B9 [A4, Aj, Al, D5] [Aj, cI] (fun _ => true) (fun x => Bf0 (A8a (bm x.1 x.2.1) x.2.2.1.1.1 x.2.2.1.1.2.1 x.2.2.1.2.1 x.2.2.2.1.1 x.2.2.2.1.2.1))
theorem B9c : A7 Tryz.prog 163 A3u := B6 (Ad Ab puN (fns_cons is_Bump A2)) 6
 (fun x => A3t (bm x.1 x.2.1) x.2.2.1.1.1 x.2.2.1.1.2.1 x.2.2.1.2.1 x.2.2.2.1.1 x.2.2.2.1.2.1) (fun x => by kernel_rfl) fun _ _ _ => A16 _ _ _ _ _ _
theorem B0i : A7 Tryz.prog 127 A3u := B6 (Ad Ab B9b (fns_cons is_rBump A2)) 6
 (fun x => A3t (bm x.1 x.2.1) x.2.2.1.1.1 x.2.2.1.1.2.1 x.2.2.1.2.1 x.2.2.2.1.1 x.2.2.2.1.2.1) (fun x => by kernel_rfl) fun _ _ _ => A16 _ _ _ _ _ _
end V
end Go.Proofs.YtkiaifmbbnnliaaGreat
