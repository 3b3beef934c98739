/- A ball that is not slowed rolls straight: plain maths. -/
import Derived.Test.YtialgmhhkbdegaaTl
namespace Go.Proofs.Ytialgmhhkbdegaa
open Ev
namespace Roll
/-- the units of a place that a momentum makes in a step -/
abbrev D : Int := 28800
/-- a place after k steps, in one coordinate: what is missed is at most half a unit -/
def At (x0 m : Int) (k : Int) (x : Int) : Prop := ∃ r : Int, D * (x - x0) = k * m - r ∧ -14400 ≤ r ∧ r ≤ 14400
theorem nn_sq (a : Int) : 0 ≤ a * a := by
  rcases Int.le_total 0 a with h | h
  · exact Int.mul_nonneg h h
  · rw [show a * a = (-a) * (-a) by grind]
    exact Int.mul_nonneg (by omega) (by omega)
theorem sq_le {a b : Int} (h1 : -b ≤ a) (h2 : a ≤ b) : a * a ≤ b * b := by
  have h : 0 ≤ (b - a) * (b + a) := Int.mul_nonneg (by omega) (by omega)
  grind
/-- what both places miss, together -/
theorem miss {N k R r : Int} (hk : 0 ≤ k ∧ k ≤ N) (hR : -14400 ≤ R ∧ R ≤ 14400) (hr : -14400 ≤ r ∧ r ≤ 14400) : -(N * D) ≤ k * R - N * r ∧ k * R - N * r ≤ N * D := by
  have a1 : k * R ≤ k * 14400 := Int.mul_le_mul_of_nonneg_left hR.2 hk.1
  have a2 : k * (-14400) ≤ k * R := Int.mul_le_mul_of_nonneg_left hR.1 hk.1
  have b1 : N * r ≤ N * 14400 := Int.mul_le_mul_of_nonneg_left hr.2 (by omega)
  have b2 : N * (-14400) ≤ N * r := Int.mul_le_mul_of_nonneg_left hr.1 (by omega)
  simp only [D]
  omega
/-- two parts of a way, and the places where a ball is -/
structure Two (N k ax ay px py wx wy : Int) : Prop where
  hk : 0 ≤ k ∧ k ≤ N
  ex : N * D * px = k * D * ax + wx
  ey : N * D * py = k * D * ay + wy
  lx : -(N * D) ≤ wx ∧ wx ≤ N * D
  ly : -(N * D) ≤ wy ∧ wy ≤ N * D
theorem two_of {x0 y0 mx my N k bx bY px py : Int} (hk : 0 ≤ k ∧ k ≤ N) (h1 : At x0 mx N bx) (h2 : At y0 my N bY) (h3 : At x0 mx k px) (h4 : At y0 my k py) : ∃ wx wy, Two N k (bx - x0) (bY - y0) (px - x0) (py - y0) wx wy := by
  obtain ⟨R1, e1, R1a, R1b⟩ := h1
  obtain ⟨R2, e2, R2a, R2b⟩ := h2
  obtain ⟨r1, e3, r1a, r1b⟩ := h3
  obtain ⟨r2, e4, r2a, r2b⟩ := h4
  refine ⟨k * R1 - N * r1, k * R2 - N * r2, hk, ?_, ?_, miss hk ⟨R1a, R1b⟩ ⟨r1a, r1b⟩, miss hk ⟨R2a, R2b⟩ ⟨r2a, r2b⟩⟩
  · have c1 : N * (D * (px - x0)) = N * (k * mx - r1) := by rw [e3]
    have c2 : k * (D * (bx - x0)) = k * (N * mx - R1) := by rw [e1]
    grind
  · have c1 : N * (D * (py - y0)) = N * (k * my - r2) := by rw [e4]
    have c2 : k * (D * (bY - y0)) = k * (N * my - R2) := by rw [e2]
    grind
theorem le_of_mul {a b c : Int} (hc : 0 < c) (h : c * a ≤ c * b) : a ≤ b := Int.le_of_mul_le_mul_left h hc
section
variable {N k ax ay px py wx wy : Int}
theorem w_le (h : Two N k ax ay px py wx wy) : wx * wx + wy * wy ≤ 2 * ((N * D) * (N * D)) := by
  have a := sq_le h.lx.1 h.lx.2
  have b := sq_le h.ly.1 h.ly.2
  omega
theorem cross_le (h : Two N k ax ay px py wx wy) (hN : 0 < N) : (ax * py - px * ay) * (ax * py - px * ay) ≤ 2 * (ax * ax + ay * ay) := by
  have hD : 0 < (N * D) * (N * D) := Int.mul_pos (Int.mul_pos hN (by decide)) (Int.mul_pos hN (by decide))
  refine le_of_mul hD ?_
  have e : (N * D) * (ax * py - px * ay) = ax * wy - wx * ay := by
    have h1 := h.ex
    have h2 := h.ey
    have c1 : (N * D * py) * ax = (k * D * ay + wy) * ax := by rw [h2]
    have c2 : (N * D * px) * ay = (k * D * ax + wx) * ay := by rw [h1]
    grind
  have e2 : (N * D) * (N * D) * ((ax * py - px * ay) * (ax * py - px * ay)) = (ax * wy - wx * ay) * (ax * wy - wx * ay) := by
    rw [← e]; grind
  have c : (ax * wy - wx * ay) * (ax * wy - wx * ay) + (ax * wx + ay * wy) * (ax * wx + ay * wy) = (ax * ax + ay * ay) * (wx * wx + wy * wy) := by grind
  have n := nn_sq (ax * wx + ay * wy)
  have a0 : 0 ≤ ax * ax + ay * ay := by have := nn_sq ax; have := nn_sq ay; omega
  have m : (ax * ax + ay * ay) * (wx * wx + wy * wy) ≤ (ax * ax + ay * ay) * (2 * ((N * D) * (N * D))) := Int.mul_le_mul_of_nonneg_left (w_le h) a0
  rw [e2]
  have : (N * D) * (N * D) * (2 * (ax * ax + ay * ay)) = (ax * ax + ay * ay) * (2 * ((N * D) * (N * D))) := by grind
  omega
theorem near_le (h : Two N k ax ay px py wx wy) (hN : 0 < N) (ha : ax * px + ay * py ≤ 0) : px * px + py * py ≤ 2 := by
  have hD1 : 0 < N * D := Int.mul_pos hN (by decide)
  have hD : 0 < (N * D) * (N * D) := Int.mul_pos hD1 hD1
  refine le_of_mul hD ?_
  have e : (N * D) * (N * D) * (px * px + py * py) = (k * D * ax + wx) * (k * D * ax + wx) + (k * D * ay + wy) * (k * D * ay + wy) := by
    rw [← h.ex, ← h.ey]; grind
  have e2 : (N * D) * (ax * px + ay * py) = k * D * (ax * ax + ay * ay) + (ax * wx + ay * wy) := by
    have c1 : (N * D * px) * ax = (k * D * ax + wx) * ax := by rw [h.ex]
    have c2 : (N * D * py) * ay = (k * D * ay + wy) * ay := by rw [h.ey]
    grind
  have l : (N * D) * (ax * px + ay * py) ≤ 0 := by
    have := Int.mul_le_mul_of_nonneg_left ha (Int.le_of_lt hD1)
    omega
  have hk : 0 ≤ k * D := Int.mul_nonneg h.hk.1 (by decide)
  have l2 : (k * D) * (k * D * (ax * ax + ay * ay) + (ax * wx + ay * wy)) ≤ 0 := by
    rw [← e2]
    have := Int.mul_le_mul_of_nonneg_left l hk
    omega
  have n : 0 ≤ (k * D) * (k * D) * (ax * ax + ay * ay) := Int.mul_nonneg (nn_sq _) (by have := nn_sq ax; have := nn_sq ay; omega)
  have w := w_le h
  rw [e]
  have e3 : (k * D * ax + wx) * (k * D * ax + wx) + (k * D * ay + wy) * (k * D * ay + wy) = 2 * ((k * D) * (k * D * (ax * ax + ay * ay) + (ax * wx + ay * wy))) - (k * D) * (k * D) * (ax * ax + ay * ay) + (wx * wx + wy * wy) := by grind
  rw [e3]
  omega
/-- seen from the other end -/
theorem Two.swap (h : Two N k ax ay px py wx wy) : Two N (N - k) (-ax) (-ay) (px - ax) (py - ay) wx wy := by
  refine ⟨by have := h.hk; omega, ?_, ?_, h.lx, h.ly⟩
  · have := h.ex; grind
  · have := h.ey; grind
end
/-- how the place of a ball that rolls lies to its way -/
theorem lies_le {x0 y0 mx my N k bx bY px py : Int} (hk : 0 ≤ k ∧ k ≤ N) (h1 : At x0 mx N bx) (h2 : At y0 my N bY) (h3 : At x0 mx k px) (h4 : At y0 my k py) (h0 : N = 0 → px = x0 ∧ py = y0) : LsV x0 y0 bx bY px py 2 ≤ 0 := by
  have sg : ∀ z : Int, z ≤ 0 → z.sign ≤ 0 := fun z h => by
    rcases Int.lt_trichotomy z 0 with h2 | h2 | h2
    · rw [Int.sign_eq_neg_one_of_neg h2]; decide
    · rw [h2]; decide
    · omega
  by_cases hN : N = 0
  · obtain ⟨rfl, rfl⟩ := h0 hN
    unfold LsV
    have e : alg px py bx bY px py = 0 := by unfold alg; grind
    rw [e]
    have e2 : sq px py px py = 0 := by unfold sq; grind
    rw [e2]
    show ((0 : Int) - 2 * 2).sign ≤ 0
    decide
  have hN : 0 < N := by omega
  obtain ⟨wx, wy, h⟩ := two_of hk h1 h2 h3 h4
  unfold LsV
  by_cases c1 : alg x0 y0 bx bY px py ≤ 0
  · rw [decide_eq_true c1, cond_true]
    have := near_le h hN (by unfold alg at c1; exact c1)
    refine sg _ ?_
    unfold sq
    have e : (px - x0) * (px - x0) + (py - y0) * (py - y0) = (x0 - px) * (x0 - px) + (y0 - py) * (y0 - py) := by grind
    omega
  · rw [decide_eq_false c1, cond_false]
    by_cases c2 : sq x0 y0 bx bY ≤ alg x0 y0 bx bY px py
    · rw [decide_eq_true c2, cond_true]
      have := near_le h.swap hN (by unfold alg sq at c2; grind)
      refine sg _ ?_
      unfold sq
      have e : (px - x0 - (bx - x0)) * (px - x0 - (bx - x0)) + (py - y0 - (bY - y0)) * (py - y0 - (bY - y0)) = (px - bx) * (px - bx) + (py - bY) * (py - bY) := by grind
      rw [e] at this
      omega
    · rw [decide_eq_false c2, cond_false]
      refine sg _ ?_
      have := cross_le h hN
      have n1 := nn_sq (bx - x0)
      have n2 := nn_sq (bY - y0)
      have e1 : lft x0 y0 bx bY px py = (bx - x0) * (py - y0) - (px - x0) * (bY - y0) := rfl
      rw [e1]
      have e2 : 2 * 2 * sq x0 y0 bx bY = 4 * ((bx - x0) * (bx - x0) + (bY - y0) * (bY - y0)) := by unfold sq; grind
      rw [e2]
      omega
/-- a step of a ball -/
theorem At.step {x0 m k x : Int} {r : Int} (h : D * (x - x0) = k * m - r) {w r' : Int} (e : m + r = w * D + r') (hr : -14400 ≤ r' ∧ r' ≤ 14400) : D * (x + w - x0) = (k + 1) * m - r' := by
  grind
end Roll
end Go.Proofs.Ytialgmhhkbdegaa
