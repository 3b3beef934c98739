/- What may come of a kick, and of a bounce, of two balls: the cases. -/
import Derived.Test.YtmmhbianajpdgaaNb
import Derived.Test.YtmmhbianajpdgaaOa
import Derived.Test.YtmmhbianajpdgaaUi
namespace Go.Proofs.Ytmmhbianajpdgaa
open Go.RowKit
namespace V
theorem mul_in {m x B : Int} (h : 0 ≤ m) (h1 : -B ≤ x) (h2 : x ≤ B) : -(B * m) ≤ m * x ∧ m * x ≤ B * m := by
  have a := Int.mul_le_mul_of_nonneg_left h1 h
  have b := Int.mul_le_mul_of_nonneg_left h2 h
  rw [Int.mul_neg, Int.mul_comm m B] at a
  rw [Int.mul_comm m B] at b
  exact ⟨a, b⟩
theorem ufit {a b : Bm} (ha : a.Fit) (hb : b.Fit) : UFit (uX a b) (uY a b) (a.m + b.m) := by
  have m1 := ha.m1; have m2 := hb.m1
  have ⟨a1, a2⟩ := mul_in (m := b.m) (by omega) ha.mx1 ha.mx2
  have ⟨a3, a4⟩ := mul_in (m := a.m) (by omega) hb.mx1 hb.mx2
  have ⟨b1, b2⟩ := mul_in (m := b.m) (by omega) ha.my1 ha.my2
  have ⟨b3, b4⟩ := mul_in (m := a.m) (by omega) hb.my1 hb.my2
  have e : 16777216 * (a.m + b.m) = 16777216 * a.m + 16777216 * b.m := Int.mul_add ..
  refine ⟨?_, ?_, ?_, ?_⟩ <;> simp only [uX, uY] <;> omega
def KP (a b : Bm) (re dr : Int) : Int × Int := kK (nX a b) (nY a b) (uX a b) (uY a b) re dr (a.m + b.m)
/-- what is known where two balls kick each other -/
structure KF (a b : Bm) (re dr x y : Int) : Prop where
  fa : a.Fit
  fb : b.Fit
  bnc : bncB re dr = true
  cl : closeB a.px a.py b.px b.py (a.r + b.r) = true
  pos : 0 < uN a b
  kb : KB (nX a b) (nY a b) (uX a b) (uY a b) re dr (a.m + b.m)
  ke : KEnd (pN1 (nX a b) (nY a b) (uX a b) (uY a b) re dr) (pN2 (nX a b) (nY a b) (uX a b) (uY a b) re dr) (a.m + b.m) (uX a b) (uY a b) x y
  hx : x = (KP a b re dr).1
  hy : y = (KP a b re dr).2
theorem kick_cases {a b : Bm} {re dr : Int} {P : RKick → Prop} (h1 : (a.ok && (b.ok && bncB re dr)) = false → P ((0, 0, ()), 2, ()))
    (h2 : a.Fit → b.Fit → bncB re dr = true → closeB a.px a.py b.px b.py (a.r + b.r) = false → P ((0, 0, ()), 5, ()))
    (h3 : a.Fit → b.Fit → bncB re dr = true → closeB a.px a.py b.px b.py (a.r + b.r) = true → uN a b ≤ 0 → P ((0, 0, ()), 10, ()))
    (h4 : ∀ x y, KF a b re dr x y → P ((x, y, ()), 0, ())) : P (KickR a b re dr) := by
  unfold KickR
  cases h : (a.ok && (b.ok && bncB re dr)) with
  | false => exact h1 h
  | true =>
    simp only [Bool.and_eq_true] at h
    obtain ⟨ha, hb, hx⟩ := h
    have fa := Bm.fit ha
    have fb := Bm.fit hb
    cases hc : closeB a.px a.py b.px b.py (a.r + b.r) with
    | false => exact h2 fa fb hx hc
    | true =>
      by_cases hd : uN a b ≤ 0
      · rw [decide_eq_true hd]; exact h3 fa fb hx hc hd
      · rw [decide_eq_false hd]
        have kb := (kfit fa fb hc hx).kb (ufit fa fb)
        exact h4 _ _ ⟨fa, fb, hx, hc, by omega, kb, k_end kb, rfl, rfl⟩
def Bm.mv (a : Bm) (x y : Int) : Bm := { a with mx := x, my := y }
theorem mv_fit {a : Bm} {x y : Int} (h : a.Fit) (k : strongB x y = true) : (a.mv x y).Fit := by
  unfold strongB at k
  simp only [Bool.and_eq_true, Bool.not_eq_true'] at k
  have k1 := out_no k.1
  have k2 := out_no k.2
  exact { h with mx1 := k1.1, mx2 := k1.2, my1 := k2.1, my2 := k2.2 }
theorem bnc_cases {a b : Bm} {re dr : Int} {P : RKick → RBnc → Prop} (h1 : (a.ok && (b.ok && bncB re dr)) = false → P ((0, 0, ()), 2, ()) (noMot, noMot, 2, ()))
    (h2 : a.Fit → b.Fit → bncB re dr = true → closeB a.px a.py b.px b.py (a.r + b.r) = false → P ((0, 0, ()), 5, ()) (noMot, noMot, 5, ()))
    (h3 : a.Fit → b.Fit → bncB re dr = true → closeB a.px a.py b.px b.py (a.r + b.r) = true → uN a b ≤ 0 → P ((0, 0, ()), 10, ()) (noMot, noMot, 10, ()))
    (h4 : ∀ x y, KF a b re dr x y → (strongB (a.mx - x) (a.my - y) && strongB (b.mx + x) (b.my + y)) = false → P ((x, y, ()), 0, ()) (noMot, noMot, 4, ()))
    (h5 : ∀ x y, KF a b re dr x y → (a.mv (a.mx - x) (a.my - y)).Fit → (b.mv (b.mx + x) (b.my + y)).Fit → P ((x, y, ()), 0, ()) (a.moved (a.mx - x) (a.my - y), b.moved (b.mx + x) (b.my + y), 0, ())) : P (KickR a b re dr) (BounceR a b re dr) := by
  unfold BounceR
  refine kick_cases (P := fun k => P k (BncOf a b k)) h1 h2 h3 fun x y K => ?_
  have x1 := K.ke.x1; have x2 := K.ke.x2; have y1 := K.ke.y1; have y2 := K.ke.y2
  have a1 := K.fa.mx1; have a2 := K.fa.mx2; have a3 := K.fa.my1; have a4 := K.fa.my2
  have b1 := K.fb.mx1; have b2 := K.fb.mx2; have b3 := K.fb.my1; have b4 := K.fb.my2
  unfold BncOf
  simp only
  rw [show W64 (a.mx - x) = _ from wrap_id (by omega) (by omega), show W64 (a.my - y) = _ from wrap_id (by omega) (by omega), show W64 (b.mx + x) = _ from wrap_id (by omega) (by omega), show W64 (b.my + y) = _ from wrap_id (by omega) (by omega)]
  cases s1 : strongB (a.mx - x) (a.my - y) with
  | false => exact h4 x y K (by rw [s1]; rfl)
  | true => cases s2 : strongB (b.mx + x) (b.my + y) with
    | false => exact h4 x y K (by rw [s1, s2]; rfl)
    | true => exact h5 x y K (mv_fit K.fa s1) (mv_fit K.fb s2)
/-- the work after a bounce is not more -/
theorem work_less {a b : Bm} {re dr x y : Int} (K : KF a b re dr x y) : workN (a.mv (a.mx - x) (a.my - y)) (b.mv (b.mx + x) (b.my + y)) ≤ workN a b := by
  have e := K.ke.e
  have i : workN a b - workN (a.mv (a.mx - x) (a.my - y)) (b.mv (b.mx + x) (b.my + y)) = 2 * (uX a b * x + uY a b * y) - (a.m + b.m) * (x * x + y * y) := by
    unfold workN Bm.mv uX uY
    grind
  omega
theorem work_nn {a b : Bm} (ha : a.Fit) (hb : b.Fit) : 0 ≤ workN a b := by
  have m1 := ha.m1; have m2 := hb.m1
  have a1 := sq_nn a.mx; have a2 := sq_nn a.my; have a3 := sq_nn b.mx; have a4 := sq_nn b.my
  exact Int.add_nonneg (Int.mul_nonneg (by omega) (by omega)) (Int.mul_nonneg (by omega) (by omega))
end V
end Go.Proofs.Ytmmhbianajpdgaa
