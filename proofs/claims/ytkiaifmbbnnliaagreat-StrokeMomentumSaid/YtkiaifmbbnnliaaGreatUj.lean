import Derived.Test.YtkiaifmbbnnliaaGreatUi
namespace Go.Proofs.YtkiaifmbbnnliaaGreat
open Go.RowKit
namespace V
theorem is_Slow : FnIs Tryz.prog (161, Tryz.f161) := ⟨Tryz.func161, by kernel_rfl, by kernel_rfl⟩
theorem is_rSlow : FnIs Tryz.prog (72, Tryz.f72) := ⟨Tryz.func72, by kernel_rfl, by kernel_rfl⟩
theorem is_Slowed : FnIs Tryz.prog (130, Tryz.f130) := ⟨Tryz.func130, by kernel_rfl, by kernel_rfl⟩
def slN (x y : Int) : Int := rt (64 * (x * x + y * y))
def Jd (x y l : Int) : TCTs [cPt, cI] :=
 bif !Au x y then ((0, 0, ()), 2, ()) else bif Aw l 0 33554432 then ((0, 0, ()), 3, ()) else bif decide (slN x y ≤ 8 * l) then ((0, 0, ()), 0, ()) else
 (((x * (slN x y - 8 * l)).tdiv (slN x y), (y * (slN x y - 8 * l)).tdiv (slN x y), ()), 0, ())
def slQ (x y : Int) : Int := W64 (64 * W64 (W64 (x * x) + W64 (y * y)))
def slP (x y l n : Int) : TCTs [cPt, cI] := ((W64 ((W64 (x * W64 (n - W64 (8 * l)))).tdiv n), W64 ((W64 (y * W64 (n - W64 (8 * l)))).tdiv n), ()), 0, ())
def Aam (x y l : Int) : Tree (TCTs [cPt, cI]) :=
 bif !Au x y then .leaf ((0, 0, ()), 2, ()) else bif Aw l 0 33554432 then .leaf ((0, 0, ()), 3, ()) else
 bif decide (W64 (RtV (slQ x y) - W64 (8 * l)) ≤ 0) then .leaf ((0, 0, ()), 0, ()) else
 bif RtV (slQ x y) != 0 then bif RtV (slQ x y) != 0 then .leaf (slP x y l (RtV (slQ x y))) else .fail else .fail
def A2q (x y l : Int) : Tree (TCTs [cPt, cI]) :=
 bif !Au x y then .leaf ((0, 0, ()), 2, ()) else bif !!Aw l 0 33554432 then .leaf ((0, 0, ()), 3, ()) else
 bif decide (0 ≤ slQ x y ∧ slQ x y ≤ 4611686018427387904) then
 bif decide (W64 (8 * l) ≥ rt (slQ x y)) then .leaf ((0, 0, ()), 0, ()) else
 bif rt (slQ x y) != 0 then bif rt (slQ x y) != 0 then .leaf (slP x y l (rt (slQ x y))) else .fail else .fail else .fail
theorem A6s {a n A : Int} (h1 : -A ≤ a) (h2 : a ≤ A) : -A ≤ a.tdiv n ∧ a.tdiv n ≤ A := by
 have t1 := Int.natAbs_tdiv a n
 have t3 := Nat.div_le_self a.natAbs n.natAbs
 have t4 : (a.tdiv n).natAbs ≤ a.natAbs := t1 ▸ t3
 generalize a.tdiv n = z at *
 omega
structure SlW (x y l : Int) : Prop where
 q : slQ x y = 64 * (x * x + y * y)
 q0 : 0 ≤ 64 * (x * x + y * y)
 q1 : 64 * (x * x + y * y) ≤ 36028797018963968
 v : RtV (64 * (x * x + y * y)) = slN x y
 n0 : 0 ≤ slN x y
 n1 : slN x y ≤ 268435456
 l0 : W64 (8 * l) = 8 * l
 d : W64 (slN x y - 8 * l) = slN x y - 8 * l
 p : 8 * l < slN x y → slP x y l (slN x y) = (((x * (slN x y - 8 * l)).tdiv (slN x y), (y * (slN x y - 8 * l)).tdiv (slN x y), ()), 0, ())
theorem B70 {x y l : Int} (h : Au x y = true) (k : Aw l 0 33554432 = false) : SlW x y l := by
 unfold Au at h
 simp only [Bool.and_eq_true, Bool.not_eq_true'] at h
 have := Dk h.1; have := Dk h.2; have := Dk k
 have ⟨a1, a2⟩ := C6 (a := x) (b := x) (A := 16777216) (B := 16777216) (by omega) (by omega) (by omega) (by omega)
 have ⟨b1, b2⟩ := C6 (a := y) (b := y) (A := 16777216) (B := 16777216) (by omega) (by omega) (by omega) (by omega)
 have c1 : 0 ≤ x * x := by rcases Int.le_total 0 x with c | c; exact Int.mul_nonneg c c; exact Int.mul_nonneg_of_nonpos_of_nonpos c c
 have c2 : 0 ≤ y * y := by rcases Int.le_total 0 y with c | c; exact Int.mul_nonneg c c; exact Int.mul_nonneg_of_nonpos_of_nonpos c c
 have q : slQ x y = 64 * (x * x + y * y) := by
  unfold slQ
  rw [show W64 (x * x) = x * x from A6 (by omega) (by omega), show W64 (y * y) = y * y from A6 (by omega) (by omega), show W64 (x * x + y * y) = x * x + y * y from A6 (by omega) (by omega)]
  exact A6 (by omega) (by omega)
 have q0 : 0 ≤ 64 * (x * x + y * y) := by omega
 have ⟨n0, n3, _⟩ := Ga _ q0
 have n1 : rt (64 * (x * x + y * y)) ≤ 268435456 := Axr _ _ q0 (by omega) (by omega)
 have e1 : W64 (8 * l) = 8 * l := A6 (by omega) (by omega)
 have e2 : W64 (slN x y - 8 * l) = slN x y - 8 * l := by unfold slN; exact A6 (by omega) (by omega)
 refine ⟨q, q0, by omega, ?_, n0, n1, e1, e2, fun g => ?_⟩
 ·unfold RtV Afw slN
  rw [if_pos (by simp; omega)]
 ·unfold slP
  have n1' : slN x y ≤ 268435456 := n1
  have n0' : 0 ≤ slN x y := n0
  rw [e1, e2]
  have ⟨f1, f2⟩ := C6 (a := x) (b := slN x y - 8 * l) (A := 16777216) (B := 268435456) (by omega) (by omega) (by omega) (by omega)
  have ⟨f3, f4⟩ := C6 (a := y) (b := slN x y - 8 * l) (A := 16777216) (B := 268435456) (by omega) (by omega) (by omega) (by omega)
  rw [show W64 (x * (slN x y - 8 * l)) = x * (slN x y - 8 * l) from A6 (by omega) (by omega), show W64 (y * (slN x y - 8 * l)) = y * (slN x y - 8 * l) from A6 (by omega) (by omega)]
  have ⟨t1, t2⟩ := A6s (n := slN x y) f1 f2
  have ⟨t3, t4⟩ := A6s (n := slN x y) f3 f4
  rw [show W64 ((x * (slN x y - 8 * l)).tdiv (slN x y)) = (x * (slN x y - 8 * l)).tdiv (slN x y) from A6 (by omega) (by omega), show W64 ((y * (slN x y - 8 * l)).tdiv (slN x y)) = (y * (slN x y - 8 * l)).tdiv (slN x y) from A6 (by omega) (by omega)]
theorem Agc (x y l : Int) : (Aam x y l).sat (fun r => r = Jd x y l) := by
 unfold Aam Jd
 cases h : Au x y with
 | false => exact rfl
 | true =>
  cases k : Aw l 0 33554432 with
  | true => exact rfl
  | false =>
   have w := B70 h k
   rw [w.q, w.v, w.l0, w.d]
   have := w.n0
   rcases Int.lt_or_le (8 * l) (slN x y) with g | g
   ·have := Dk k
    rw [show decide (slN x y - 8 * l ≤ 0) = false by simp; omega, show decide (slN x y ≤ 8 * l) = false by simp; omega, show (slN x y != 0) = true by simp; omega, w.p g]
    exact rfl
   ·rw [show decide (slN x y - 8 * l ≤ 0) = true by simp; omega, show decide (slN x y ≤ 8 * l) = true by simp; omega]
    exact rfl
theorem Aan (x y l : Int) : (A2q x y l).sat (fun r => r = Jd x y l) := by
 unfold A2q Jd
 cases h : Au x y with
 | false => exact rfl
 | true =>
  cases k : Aw l 0 33554432 with
  | true => exact rfl
  | false =>
   have w := B70 h k
   have := w.n0; have := w.q0; have := w.q1
   rw [w.q, w.l0, show decide (0 ≤ 64 * (x * x + y * y) ∧ 64 * (x * x + y * y) ≤ 4611686018427387904) = true by simp only [decide_eq_true_eq]; omega, show rt (64 * (x * x + y * y)) = slN x y from rfl]
   rcases Int.lt_or_le (8 * l) (slN x y) with g | g
   ·have := Dk k
    rw [show decide (8 * l ≥ slN x y) = false by simp; omega, show (slN x y != 0) = true by simp; omega, w.p g]
    exact rfl
   ·rw [show decide (8 * l ≥ slN x y) = true by simp; omega]
    exact rfl
abbrev A2r : PureT := B4 [cPt, cI] [cPt, cI] (fun _ => true) (fun x => (((Jd x.1.1 x.1.2.1 x.2.1).1.1, (Jd x.1.1 x.1.2.1 x.2.1).1.2.1, ()), (Jd x.1.1 x.1.2.1 x.2.1).2.1, ()))
def Ba6 : List (Nat × PureT) := (185, Anq) :: plK
theorem Ba7 : Bu Tryz.prog Ba6 := A0 is_bE.plain B1q puK
def Ba8 : List (Nat × PureT) := (154, Ao6) :: B6x
theorem Ba9 : Bu Tryz.prog Ba8 := A0 is_bQ.plain B23 B6y
theorem B2g : A7 Tryz.prog 161 A2r := B2 (Ad Ab Ba7 (fns_cons is_Slow A2)) 7
 (fun x => Aam x.1.1 x.1.2.1 x.2.1) (fun x => by kernel_rfl) fun _ _ _ => Agc _ _ _
theorem Avf : A7 Tryz.prog 72 A2r := B2 (Ad Ab Ba9 (fns_cons is_rSlow (fns_cons is_Slowed A2))) 7
 (fun x => A2q x.1.1 x.1.2.1 x.2.1) (fun x => by kernel_rfl) fun _ _ _ => Aan _ _ _
end V
end Go.Proofs.YtkiaifmbbnnliaaGreat
