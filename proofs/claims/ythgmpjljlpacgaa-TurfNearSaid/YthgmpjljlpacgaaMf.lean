/- Plain mathematics: how a place lies to a segment (LsV): from both ends, moved, and seen from points of the segment. No program is named. -/
import Derived.Test.YthgmpjljlpacgaaTk
namespace Go.Proofs.Ythgmpjljlpacgaa

theorem ls_back (ax ay bx bY px py r : Int) : LsV bx bY ax ay px py r = LsV ax ay bx bY px py r := by
  have e1 : alg bx bY ax ay px py = sq ax ay bx bY - alg ax ay bx bY px py := by unfold alg sq; grind
  have e2 : sq bx bY ax ay = sq ax ay bx bY := by unfold sq; grind
  have e3 : lft bx bY ax ay px py * lft bx bY ax ay px py = lft ax ay bx bY px py * lft ax ay bx bY px py := by unfold lft; grind
  have e4 := sq_alg ax ay bx bY px py
  have n1 := self_nn (bx - ax)
  have n2 := self_nn (bY - ay)
  have hs : sq ax ay bx bY = (bx - ax) * (bx - ax) + (bY - ay) * (bY - ay) := rfl
  unfold LsV
  rw [e1, e2, e3]
  by_cases h1 : alg ax ay bx bY px py ≤ 0
  · by_cases h2 : sq ax ay bx bY - alg ax ay bx bY px py ≤ 0
    · rw [decide_eq_true h1, decide_eq_true h2, show sq bx bY px py = sq ax ay px py by omega]; rfl
    · rw [decide_eq_true h1, decide_eq_false h2, decide_eq_true (show sq ax ay bx bY ≤ sq ax ay bx bY - alg ax ay bx bY px py by omega)]; rfl
  · by_cases h2 : sq ax ay bx bY ≤ alg ax ay bx bY px py
    · rw [decide_eq_false h1, decide_eq_true h2, decide_eq_true (show sq ax ay bx bY - alg ax ay bx bY px py ≤ 0 by omega)]; rfl
    · rw [decide_eq_false h1, decide_eq_false h2, decide_eq_false (show ¬ sq ax ay bx bY - alg ax ay bx bY px py ≤ 0 by omega), decide_eq_false (show ¬ sq ax ay bx bY ≤ sq ax ay bx bY - alg ax ay bx bY px py by omega)]; rfl

theorem ls_move (ax ay bx bY px py r u v : Int) : LsV (ax + u) (ay + v) (bx + u) (bY + v) (px + u) (py + v) r = LsV ax ay bx bY px py r := by
  have d : ∀ x y z : Int, x + z - (y + z) = x - y := by intros; omega
  unfold LsV alg sq lft
  simp only [d]

/-- 15 times the way from p to a point at k 15ths, squared -/
def farQ (ax ay bx bY px py k : Int) : Int := (15 * (ax - px) + k * (bx - ax)) * (15 * (ax - px) + k * (bx - ax)) + (15 * (ay - py) + k * (bY - ay)) * (15 * (ay - py) + k * (bY - ay))
theorem sign_nn {x : Int} (h : 0 ≤ x.sign) : 0 ≤ x := by
  rcases Int.lt_or_le x 0 with k | k
  · rw [Int.sign_eq_neg_one_of_neg k] at h; omega
  · exact k
theorem sign_pos' {x : Int} (h : 0 < x.sign) : 0 < x := by
  rcases Int.lt_trichotomy x 0 with k | k | k
  · rw [Int.sign_eq_neg_one_of_neg k] at h; omega
  · rw [k] at h; simp at h
  · exact k
theorem far_ls (ax ay bx bY px py r k : Int) (hk0 : 0 ≤ k) (hk : k ≤ 15) : (0 ≤ LsV ax ay bx bY px py r → 225 * (r * r) ≤ farQ ax ay bx bY px py k) ∧ (0 < LsV ax ay bx bY px py r → 225 * (r * r) < farQ ax ay bx bY px py k) := by
  have eF : farQ ax ay bx bY px py k = 225 * sq ax ay px py - 30 * (k * alg ax ay bx bY px py) + k * k * sq ax ay bx bY := by unfold farQ sq alg; grind
  have e4 := sq_alg ax ay bx bY px py
  have hL : 0 ≤ sq ax ay bx bY := by unfold sq; have := self_nn (bx - ax); have := self_nn (bY - ay); omega
  have eG : sq ax ay bx bY * sq ax ay px py = alg ax ay bx bY px py * alg ax ay bx bY px py + lft ax ay bx bY px py * lft ax ay bx bY px py := by unfold sq alg lft; grind
  have hkk := self_nn k
  have hkL : 0 ≤ k * k * sq ax ay bx bY := Int.mul_nonneg hkk hL
  unfold LsV
  generalize sq ax ay bx bY = L at *
  generalize alg ax ay bx bY px py = al at *
  generalize lft ax ay bx bY px py * lft ax ay bx bY px py = F at *
  generalize sq ax ay px py = S at *
  generalize sq bx bY px py = T at *
  generalize farQ ax ay bx bY px py k = Q at *
  by_cases h1 : al ≤ 0
  · rw [decide_eq_true h1, cond_true]
    have hka : k * al ≤ 0 := Int.mul_nonpos_of_nonneg_of_nonpos hk0 h1
    exact ⟨fun h => by have := sign_nn h; omega, fun h => by have := sign_pos' h; omega⟩
  · by_cases h2 : L ≤ al
    · rw [decide_eq_false h1, decide_eq_true h2, cond_false, cond_true]
      have hd : Q - 225 * T = (15 - k) * (30 * al - L * (15 + k)) := by rw [eF, e4]; grind
      have hx : 0 ≤ (15 - k) * (30 * al - L * (15 + k)) := by
        refine Int.mul_nonneg (by omega) ?_
        have := Int.mul_le_mul_of_nonneg_left (show 15 + k ≤ 30 by omega) hL
        omega
      exact ⟨fun h => by have := sign_nn h; omega, fun h => by have := sign_pos' h; omega⟩
    · rw [decide_eq_false h1, decide_eq_false h2, cond_false, cond_false]
      have hLp : 0 < L := by omega
      have hd : L * Q = 225 * F + (15 * al - k * L) * (15 * al - k * L) := by
        have : L * Q = 225 * (L * S) - 30 * (k * al) * L + k * k * L * L := by rw [eF]; grind
        rw [this, eG]; grind
      have hsq := self_nn (15 * al - k * L)
      refine ⟨fun h => ?_, fun h => ?_⟩
      · have h' := sign_nn h
        refine Int.le_of_mul_le_mul_left (a := L) ?_ hLp
        have : L * (225 * (r * r)) = 225 * (r * r * L) := by grind
        omega
      · have h' := sign_pos' h
        refine Int.lt_of_mul_lt_mul_left (a := L) ?_ (by omega)
        have : L * (225 * (r * r)) = 225 * (r * r * L) := by grind
        omega
end Go.Proofs.Ythgmpjljlpacgaa
