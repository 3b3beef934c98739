/- Two balls that roll for a tick: plain maths. -/
import Derived.Test.YtialgmhhkbdegaaWe
namespace Go.Proofs.Ytialgmhhkbdegaa
open Ev
namespace Roll
theorem tri {ax ay ex ey A E : Int} (hA : 0 ≤ A) (hE : 0 ≤ E) (h1 : ax * ax + ay * ay ≤ A * A) (h2 : ex * ex + ey * ey ≤ E * E) : (ax + ex) * (ax + ex) + (ay + ey) * (ay + ey) ≤ (A + E) * (A + E) := by
  have c : (ax * ex + ay * ey) * (ax * ex + ay * ey) + (ax * ey - ay * ex) * (ax * ey - ay * ex) = (ax * ax + ay * ay) * (ex * ex + ey * ey) := by grind
  have n := nn_sq (ax * ey - ay * ex)
  have e0 : 0 ≤ ex * ex + ey * ey := by have := nn_sq ex; have := nn_sq ey; omega
  have m1 : (ax * ax + ay * ay) * (ex * ex + ey * ey) ≤ A * A * (ex * ex + ey * ey) := Int.mul_le_mul_of_nonneg_right h1 e0
  have m2 : A * A * (ex * ex + ey * ey) ≤ A * A * (E * E) := Int.mul_le_mul_of_nonneg_left h2 (nn_sq A)
  have e1 : A * A * (E * E) = (A * E) * (A * E) := by grind
  have hAE : 0 ≤ A * E := Int.mul_nonneg hA hE
  have hd : ax * ex + ay * ey ≤ A * E := by
    by_cases h : ax * ex + ay * ey ≤ A * E
    · exact h
    · exfalso
      have hlt : A * E + 1 ≤ ax * ex + ay * ey := by omega
      have := sq_le (a := A * E + 1) (b := ax * ex + ay * ey) (by omega) hlt
      have e2 : (A * E + 1) * (A * E + 1) = (A * E) * (A * E) + 2 * (A * E) + 1 := by grind
      omega
  have e3 : (ax + ex) * (ax + ex) + (ay + ey) * (ay + ey) = (ax * ax + ay * ay) + 2 * (ax * ex + ay * ey) + (ex * ex + ey * ey) := by grind
  have e4 : (A + E) * (A + E) = A * A + 2 * (A * E) + E * E := by grind
  omega
theorem hit_iff {x y m : Int} (hm : 0 ≤ m) : hit x y m = true ↔ x * x + y * y ≤ m * m := by
  unfold hit outB
  constructor
  · intro h
    simp only [Bool.and_eq_true] at h
    exact of_decide_eq_true h.2
  · intro h
    have a : ∀ z w : Int, z * z + w * w ≤ m * m → -m ≤ z ∧ z ≤ m := by
      intro z w h
      have n := nn_sq w
      constructor
      · by_cases k : -m ≤ z
        · exact k
        · exfalso
          have := sq_le (a := m + 1) (b := -z) (by omega) (by omega)
          have e1 : (m + 1) * (m + 1) = m * m + 2 * m + 1 := by grind
          have e2 : (-z) * (-z) = z * z := by grind
          omega
      · by_cases k : z ≤ m
        · exact k
        · exfalso
          have := sq_le (a := m + 1) (b := z) (by omega) (by omega)
          have e1 : (m + 1) * (m + 1) = m * m + 2 * m + 1 := by grind
          omega
    have ax := a x y h
    have ay := a y x (by omega)
    rw [decide_eq_false (show ¬ x < -m by omega), decide_eq_false (show ¬ m < x by omega), decide_eq_false (show ¬ y < -m by omega), decide_eq_false (show ¬ m < y by omega), decide_eq_true h]
    rfl
theorem fN_at (dx dy m : Int) : ∀ (f : Nat) (x y : Int), fN dx dy m f x y < f → hit (x + (fN dx dy m f x y : Int) * dx) (y + (fN dx dy m f x y : Int) * dy) m = true
  | 0, _, _, h => absurd h (Nat.not_lt_zero _)
  | f + 1, x, y, h => by
    cases hh : hit x y m with
    | true =>
      rw [fN_hit hh]
      simpa using hh
    | false =>
      rw [fN_miss hh] at h ⊢
      have ih := fN_at dx dy m f (x + dx) (y + dy) (by omega)
      have e1 : x + ((fN dx dy m f (x + dx) (y + dy) + 1 : Nat) : Int) * dx = x + dx + (fN dx dy m f (x + dx) (y + dy) : Int) * dx := by
        rw [Int.natCast_add]; grind
      have e2 : y + ((fN dx dy m f (x + dx) (y + dy) + 1 : Nat) : Int) * dy = y + dy + (fN dx dy m f (x + dx) (y + dy) : Int) * dy := by
        rw [Int.natCast_add]; grind
      rw [e1, e2]
      exact ih
theorem fN_none (dx dy m : Int) : ∀ (f : Nat) (x y : Int), ¬ fN dx dy m f x y < f → ∀ j : Nat, j < f → hit (x + (j : Int) * dx) (y + (j : Int) * dy) m = false
  | 0, _, _, _, _, h => absurd h (Nat.not_lt_zero _)
  | f + 1, x, y, h, j, hj => by
    cases hh : hit x y m with
    | true => rw [fN_hit hh] at h; omega
    | false =>
      rw [fN_miss hh] at h
      cases j with
      | zero => simpa using hh
      | succ j =>
        have ih := fN_none dx dy m f (x + dx) (y + dy) (by omega) j (by omega)
        have e1 : x + ((j + 1 : Nat) : Int) * dx = x + dx + (j : Int) * dx := by rw [Int.natCast_add]; grind
        have e2 : y + ((j + 1 : Nat) : Int) * dy = y + dy + (j : Int) * dy := by rw [Int.natCast_add]; grind
        rw [e1, e2]
        exact ih
/-- where a ball is after k parts of 16, in one coordinate: what is missed, in parts -/
theorem part_of {x0 v k x : Int} {r : Int} (e : D * (x - x0) = k * (1800 * v) - r) (hr : -14400 ≤ r ∧ r ≤ 14400) : ∃ q : Int, 16 * x = 16 * x0 + k * v - q ∧ -8 ≤ q ∧ q ≤ 8 := by
  refine ⟨k * v - 16 * (x - x0), by omega, ?_⟩
  have h : r = 1800 * (k * v - 16 * (x - x0)) := by
    have e2 : k * (1800 * v) = 1800 * (k * v) := by grind
    rw [e2] at e
    simp only [D] at e
    omega
  constructor <;> omega
/-- two balls after k parts: how far they are from each other, by how far both ways are -/
theorem both {px py vx vy qx qy wx wy k sx sy tx ty r1 r2 r3 r4 : Int} (e1 : D * (sx - px) = k * (1800 * vx) - r1) (e2 : D * (sy - py) = k * (1800 * vy) - r2) (e3 : D * (tx - qx) = k * (1800 * wx) - r3) (e4 : D * (ty - qy) = k * (1800 * wy) - r4)
    (h1 : -14400 ≤ r1 ∧ r1 ≤ 14400) (h2 : -14400 ≤ r2 ∧ r2 ≤ 14400) (h3 : -14400 ≤ r3 ∧ r3 ≤ 14400) (h4 : -14400 ≤ r4 ∧ r4 ≤ 14400) :
    ∃ ux uy ex ey : Int, ux = 16 * (px - qx) + k * (vx - wx) ∧ uy = 16 * (py - qy) + k * (vy - wy) ∧ 16 * (sx - tx) = ux + ex ∧ 16 * (sy - ty) = uy + ey ∧ ex * ex + ey * ey ≤ 32 * 32 := by
  obtain ⟨q1, a1, b1, c1⟩ := part_of e1 h1
  obtain ⟨q2, a2, b2, c2⟩ := part_of e2 h2
  obtain ⟨q3, a3, b3, c3⟩ := part_of e3 h3
  obtain ⟨q4, a4, b4, c4⟩ := part_of e4 h4
  have m1 : k * (vx - wx) = k * vx - k * wx := Int.mul_sub ..
  have m2 : k * (vy - wy) = k * vy - k * wy := Int.mul_sub ..
  refine ⟨_, _, q3 - q1, q4 - q2, rfl, rfl, by omega, by omega, ?_⟩
  have s1 := sq_le (a := q3 - q1) (b := 16) (by omega) (by omega)
  have s2 := sq_le (a := q4 - q2) (b := 16) (by omega) (by omega)
  omega
theorem near_touch {ux uy ex ey dx dy : Int} (h1 : 16 * dx = ux + ex) (h2 : 16 * dy = uy + ey) (he : ex * ex + ey * ey ≤ 32 * 32) {s : Int} (hs : 2 ≤ s) (hu : ux * ux + uy * uy ≤ (s - 2) * 16 * ((s - 2) * 16)) : dx * dx + dy * dy ≤ s * s := by
  have t := tri (A := (s - 2) * 16) (E := 32) (by omega) (by decide) hu he
  rw [← h1, ← h2] at t
  have e1 : 16 * dx * (16 * dx) + 16 * dy * (16 * dy) = 256 * (dx * dx + dy * dy) := by grind
  have e2 : ((s - 2) * 16 + 32) * ((s - 2) * 16 + 32) = 256 * (s * s) := by grind
  omega
theorem far_apart {ux uy ex ey dx dy : Int} (h1 : 16 * dx = ux + ex) (h2 : 16 * dy = uy + ey) (he : ex * ex + ey * ey ≤ 32 * 32) {s : Int} (hs : 0 ≤ s) (hu : ¬ ux * ux + uy * uy ≤ (s + 2) * 16 * ((s + 2) * 16)) : s * s < dx * dx + dy * dy := by
  by_cases h : dx * dx + dy * dy ≤ s * s
  · exfalso
    apply hu
    have e0 : 16 * dx * (16 * dx) + 16 * dy * (16 * dy) = 256 * (dx * dx + dy * dy) := by grind
    have e1 : (16 * s) * (16 * s) = 256 * (s * s) := by grind
    have e2 : (-ex) * (-ex) + (-ey) * (-ey) = ex * ex + ey * ey := by grind
    have t := tri (ax := 16 * dx) (ay := 16 * dy) (ex := -ex) (ey := -ey) (A := 16 * s) (E := 32) (by omega) (by decide) (by omega) (by omega)
    have f1 : 16 * dx + -ex = ux := by omega
    have f2 : 16 * dy + -ey = uy := by omega
    rw [f1, f2] at t
    have e3 : (16 * s + 32) * (16 * s + 32) = (s + 2) * 16 * ((s + 2) * 16) := by grind
    omega
  · omega
end Roll
end Go.Proofs.Ytialgmhhkbdegaa
