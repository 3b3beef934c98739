import Derived.Test.YtkiaifmbbnnliaaGreatUe
namespace Go.Proofs.YtkiaifmbbnnliaaGreat
open Go.RowKit
namespace V
theorem C6 {a b A B : Int} (h1 : -A ≤ a) (h2 : a ≤ A) (h3 : -B ≤ b) (h4 : b ≤ B) : -(A * B) ≤ a * b ∧ a * b ≤ A * B := by
 have e : (a * b).natAbs ≤ A.natAbs * B.natAbs := by
  rw [Int.natAbs_mul]
  exact Nat.mul_le_mul (by omega) (by omega)
 have f : ((A.natAbs * B.natAbs : Nat) : Int) = A * B := by
  rw [Int.natCast_mul, Int.natAbs_of_nonneg (by omega), Int.natAbs_of_nonneg (by omega)]
 omega
structure Bm where
 m : Int
 r : Int
 px : Int
 py : Int
 mx : Int
 my : Int
 rx : Int
 ry : Int
def Bm.ok (a : Bm) : Bool := Q9 a.m a.r a.px a.py a.mx a.my a.rx a.ry
abbrev bm (b : TCT A3) (s : TCT Ai) : Bm := ⟨b.1, b.2.1, s.1.1, s.1.2.1, s.2.1.1, s.2.1.2.1, s.2.2.1.1, s.2.2.1.2.1⟩
structure Bm.Fit (a : Bm) : Prop where
 m1 : 400 ≤ a.m
 m2 : a.m ≤ 500
 r1 : 1000 ≤ a.r
 r2 : a.r ≤ 4096
 p : fpt a.px a.py = true
 px1 : -4194304 ≤ a.px
 px2 : a.px ≤ 4194304
 py1 : -4194304 ≤ a.py
 py2 : a.py ≤ 4194304
 mx1 : -16777216 ≤ a.mx
 mx2 : a.mx ≤ 16777216
 my1 : -16777216 ≤ a.my
 my2 : a.my ≤ 16777216
 rx1 : -(32 * a.m) ≤ a.rx
 rx2 : a.rx ≤ 32 * a.m - 1
 ry1 : -(32 * a.m) ≤ a.ry
 ry2 : a.ry ≤ 32 * a.m - 1
theorem Bm.fit {a : Bm} (h : a.ok = true) : a.Fit := by
 unfold Bm.ok Q9 K5 Au at h
 simp only [Bool.and_eq_true, Bool.not_eq_true'] at h
 obtain ⟨⟨h1, h2⟩, h3, ⟨h4, h5⟩, h6, h7⟩ := h
 have := Dk h1; have := Dk h2; have := Dk h4; have := Dk h5; have := Dk h6; have := Dk h7
 have h3' := h3
 unfold fpt at h3'
 obtain ⟨k1, k2, k3, k4⟩ := of_decide_eq_true h3'
 exact ⟨by omega, by omega, by omega, by omega, h3, k1, k2, k3, k4, by omega, by omega, by omega, by omega, by omega, by omega, by omega, by omega⟩
def uX (a b : Bm) : Int := b.m * a.mx - a.m * b.mx
def uY (a b : Bm) : Int := b.m * a.my - a.m * b.my
def nX (a b : Bm) : Int := b.px - a.px
def nY (a b : Bm) : Int := b.py - a.py
def uN (a b : Bm) : Int := uX a b * nX a b + uY a b * nY a b
abbrev O8 := TCTs [cPt, cI]
def Qb (a b : Bm) (re dr : Int) : O8 :=
 bif !(a.ok && (b.ok && Gh re dr)) then ((0, 0, ()), 2, ()) else
 bif !F0 a.px a.py b.px b.py (a.r + b.r) then ((0, 0, ()), 5, ()) else
 bif decide (uN a b ≤ 0) then ((0, 0, ()), 10, ()) else
 (((kK (nX a b) (nY a b) (uX a b) (uY a b) re dr (a.m + b.m)).1, (kK (nX a b) (nY a b) (uX a b) (uY a b) re dr (a.m + b.m)).2, ()), 0, ())
structure Pair (a b : Bm) : Prop where
 ux1 : -16777216000 ≤ uX a b
 ux2 : uX a b ≤ 16777216000
 uy1 : -16777216000 ≤ uY a b
 uy2 : uY a b ≤ 16777216000
 wux : W64 (W64 (b.m * a.mx) - W64 (a.m * b.mx)) = uX a b
 wuy : W64 (W64 (b.m * a.my) - W64 (a.m * b.my)) = uY a b
 wnx : W64 (b.px - a.px) = nX a b
 wny : W64 (b.py - a.py) = nY a b
 wr : W64 (a.r + b.r) = a.r + b.r
 wm : W64 (a.m + b.m) = a.m + b.m
 cl : (fpt a.px a.py && (fpt b.px b.py && decide (0 ≤ a.r + b.r ∧ a.r + b.r ≤ 131072))) = true
 dot : W64 (W64 (uX a b * nX a b) + W64 (uY a b * nY a b)) = uN a b
theorem pair {a b : Bm} (ha : a.Fit) (hb : b.Fit) : Pair a b := by
 have ⟨a1, a2⟩ := C6 (A := 500) (B := 16777216) (show -500 ≤ b.m by have := hb.m1; omega) hb.m2 ha.mx1 ha.mx2
 have ⟨a3, a4⟩ := C6 (A := 500) (B := 16777216) (show -500 ≤ a.m by have := ha.m1; omega) ha.m2 hb.mx1 hb.mx2
 have ⟨b1, b2⟩ := C6 (A := 500) (B := 16777216) (show -500 ≤ b.m by have := hb.m1; omega) hb.m2 ha.my1 ha.my2
 have ⟨b3, b4⟩ := C6 (A := 500) (B := 16777216) (show -500 ≤ a.m by have := ha.m1; omega) ha.m2 hb.my1 hb.my2
 have hx1 : -16777216000 ≤ uX a b := by unfold uX; omega
 have hx2 : uX a b ≤ 16777216000 := by unfold uX; omega
 have hy1 : -16777216000 ≤ uY a b := by unfold uY; omega
 have hy2 : uY a b ≤ 16777216000 := by unfold uY; omega
 have p1 := ha.px1; have p2 := ha.px2; have p3 := ha.py1; have p4 := ha.py2
 have q1 := hb.px1; have q2 := hb.px2; have q3 := hb.py1; have q4 := hb.py2
 have c1 := ha.r1; have c2 := ha.r2; have c3 := hb.r1; have c4 := hb.r2
 have d1 := ha.m1; have d2 := ha.m2; have d3 := hb.m1; have d4 := hb.m2
 have ⟨e1, e2⟩ := C6 (A := 16777216000) (B := 8388608) hx1 hx2 (show -8388608 ≤ nX a b by unfold nX; omega) (show nX a b ≤ 8388608 by unfold nX; omega)
 have ⟨e3, e4⟩ := C6 (A := 16777216000) (B := 8388608) hy1 hy2 (show -8388608 ≤ nY a b by unfold nY; omega) (show nY a b ≤ 8388608 by unfold nY; omega)
 refine ⟨hx1, hx2, hy1, hy2, ?_, ?_, A6 (by omega) (by omega), A6 (by omega) (by omega), A6 (by omega) (by omega), A6 (by omega) (by omega), ?_, ?_⟩
 ·rw [show W64 (b.m * a.mx) = _ from A6 (by omega) (by omega), show W64 (a.m * b.mx) = _ from A6 (by omega) (by omega)]
  exact A6 (by omega) (by omega)
 ·rw [show W64 (b.m * a.my) = _ from A6 (by omega) (by omega), show W64 (a.m * b.my) = _ from A6 (by omega) (by omega)]
  exact A6 (by omega) (by omega)
 ·rw [ha.p, hb.p, decide_eq_true (show 0 ≤ a.r + b.r ∧ a.r + b.r ≤ 131072 by omega)]; rfl
 ·rw [show W64 (uX a b * nX a b) = _ from A6 (by omega) (by omega), show W64 (uY a b * nY a b) = _ from A6 (by omega) (by omega)]
  exact A6 (by omega) (by omega)
theorem B6v {a b : Bm} (ha : a.Fit) (hb : b.Fit) : kQ (nX a b) (nY a b) = sq a.px a.py b.px b.py := by
 have p1 := ha.px1; have p2 := ha.px2; have p3 := ha.py1; have p4 := ha.py2
 have q1 := hb.px1; have q2 := hb.px2; have q3 := hb.py1; have q4 := hb.py2
 have ⟨e1, e2⟩ := C6 (A := 8388608) (B := 8388608) (show -8388608 ≤ nX a b by unfold nX; omega) (show nX a b ≤ 8388608 by unfold nX; omega) (show -8388608 ≤ nX a b by unfold nX; omega) (show nX a b ≤ 8388608 by unfold nX; omega)
 have ⟨e3, e4⟩ := C6 (A := 8388608) (B := 8388608) (show -8388608 ≤ nY a b by unfold nY; omega) (show nY a b ≤ 8388608 by unfold nY; omega) (show -8388608 ≤ nY a b by unfold nY; omega) (show nY a b ≤ 8388608 by unfold nY; omega)
 unfold kQ
 rw [show W64 (nX a b * nX a b) = _ from A6 (by omega) (by omega), show W64 (nY a b * nY a b) = _ from A6 (by omega) (by omega)]
 exact A6 (by omega) (by omega)
theorem Ag8 {px py qx qy s : Int} (h : F0 px py qx qy s = true) (hs : 2000 ≤ s) : 3515625 ≤ sq px py qx qy := by
 unfold F0 at h
 have h1 := (of_decide_eq_true h).2
 have h2 : 2000 * 2000 ≤ s * s := Df (by omega) hs
 omega
theorem Avb {a b : Bm} (ha : a.Fit) (hb : b.Fit) (hc : F0 a.px a.py b.px b.py (a.r + b.r) = true) (hd : ¬ uN a b ≤ 0) : kOk (nX a b) (nY a b) (uX a b) (uY a b) (a.m + b.m) = true := by
 have h1 := Ag8 hc (by have := ha.r1; have := hb.r1; omega)
 have h2 := B6v ha hb
 have h3 := (pair ha hb).dot
 have d1 := ha.m1; have d2 := ha.m2; have d3 := hb.m1; have d4 := hb.m2
 unfold kOk kD
 rw [h2, h3, show W64 (1000 * (a.m + b.m)) = 1000 * (a.m + b.m) from A6 (by omega) (by omega)]
 exact decide_eq_true ⟨by omega, by omega, by omega⟩
def A2k (a b : Bm) (re dr : Int) : Tree O8 :=
 bif okE a.ok != 0 then .leaf ((0, 0, ()), 2, ()) else bif okE b.ok != 0 then .leaf ((0, 0, ()), 2, ()) else bif okE (Gh re dr) != 0 then .leaf ((0, 0, ()), 2, ()) else
 bif fpt a.px a.py && (fpt b.px b.py && decide (0 ≤ W64 (a.r + b.r) ∧ W64 (a.r + b.r) ≤ 131072)) then
  bif !F0 a.px a.py b.px b.py (W64 (a.r + b.r)) then .leaf ((0, 0, ()), 5, ()) else
  bif decide (W64 (W64 (W64 (b.px - a.px) * W64 (W64 (b.m * a.mx) - W64 (a.m * b.mx))) + W64 (W64 (b.py - a.py) * W64 (W64 (b.m * a.my) - W64 (a.m * b.my)))) ≤ 0) then .leaf ((0, 0, ()), 10, ()) else
  bif kOk (W64 (b.px - a.px)) (W64 (b.py - a.py)) (W64 (W64 (b.m * a.mx) - W64 (a.m * b.mx))) (W64 (W64 (b.m * a.my) - W64 (a.m * b.my))) (W64 (a.m + b.m)) then
   .leaf (((kK (W64 (b.px - a.px)) (W64 (b.py - a.py)) (W64 (W64 (b.m * a.mx) - W64 (a.m * b.mx))) (W64 (W64 (b.m * a.my) - W64 (a.m * b.my))) re dr (W64 (a.m + b.m))).1,
    (kK (W64 (b.px - a.px)) (W64 (b.py - a.py)) (W64 (W64 (b.m * a.mx) - W64 (a.m * b.mx))) (W64 (W64 (b.m * a.my) - W64 (a.m * b.my))) re dr (W64 (a.m + b.m))).2, ()), 0, ())
  else .fail
 else .fail
theorem Zz (a b : Bm) (re dr : Int) : (A2k a b re dr).sat (fun y => y = Qb a b re dr) := by
 unfold A2k Qb okE
 cases ha : a.ok with
 | false => exact rfl
 | true => cases hb : b.ok with
  | false => exact rfl
  | true => cases hc : Gh re dr with
   | false => exact rfl
   | true =>
    have fa := Bm.fit ha
    have fb := Bm.fit hb
    have P := pair fa fb
    rw [P.wr, P.cl, P.wux, P.wuy, P.wnx, P.wny, P.wm, Int.mul_comm (nX a b) (uX a b), Int.mul_comm (nY a b) (uY a b), P.dot]
    cases hcl : F0 a.px a.py b.px b.py (a.r + b.r) with
    | false => exact rfl
    | true =>
     by_cases hd : uN a b ≤ 0
     ·rw [decide_eq_true hd]; exact rfl
     ·rw [decide_eq_false hd, Avb fa fb hcl hd]; exact rfl
abbrev Ba4 (y : O8) : O8 := ((y.1.1, y.1.2.1, ()), y.2.1, ())
abbrev A2l : PureT := B4 [A3, Ai, A3, Ai, Dz] [cPt, cI] (fun _ => true) (fun x => Ba4 (Qb (bm x.1 x.2.1) (bm x.2.2.1 x.2.2.2.1) x.2.2.2.2.1.1 x.2.2.2.2.1.2.1))
theorem is_Kick : FnIs Tryz.prog (179, Tryz.f179) := ⟨Tryz.func179, by kernel_rfl, by kernel_rfl⟩
theorem is_meet : FnIs Tryz.prog (196, Tryz.f196) := ⟨Tryz.func196, by kernel_rfl, by kernel_rfl⟩
theorem is_rKick : FnIs Tryz.prog (182, Tryz.f182) := ⟨Tryz.func182, by kernel_rfl, by kernel_rfl⟩
def plK : List (Nat × PureT) := (191, Nh) :: (79, Dl) :: (82, E8) :: (143, A6m) :: plC
theorem puK : Bu Tryz.prog plK := A0 is_newKick.plain Ag6 (A0 is_CheckBounce.plain Ju (A0 is_CheckMotion.plain O7 (A0 is_rcheck.plain Aoj puC)))
theorem B2c : A7 Tryz.prog 179 A2l := B2 (Ad Ab puK (fns_cons is_Kick (fns_cons is_meet A2))) 6
 (fun x => A2k (bm x.1 x.2.1) (bm x.2.2.1 x.2.2.2.1) x.2.2.2.2.1.1 x.2.2.2.2.1.2.1) (fun x => by kernel_rfl) fun _ _ _ => Zz _ _ _ _
def Aoo : List (Nat × PureT) := (199, Aol) :: (168, Nh) :: (81, Dl) :: (128, E8) :: Av7
theorem Aop : Bu Tryz.prog Aoo := A0 is_urge.plain B2b (A0 is_rkick.plain Ava (A0 is_rCheckBounce.plain M8 (A0 is_rCheckMotion.plain M9 B29)))
theorem Avc : A7 Tryz.prog 182 A2l := B2 (Ad Ab Aop (fns_cons is_rKick A2)) 6
 (fun x => A2k (bm x.1 x.2.1) (bm x.2.2.1 x.2.2.2.1) x.2.2.2.2.1.1 x.2.2.2.2.1.2.1) (fun x => by kernel_rfl) fun _ _ _ => Zz _ _ _ _
end V
end Go.Proofs.YtkiaifmbbnnliaaGreat
