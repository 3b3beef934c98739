/- A segment and a ring: where both meet. Plain mathematics. -/
import Derived.Test.YthgmpjljlpacgaaQg
namespace Go.Proofs.Ythgmpjljlpacgaa
open Go.RowKit
namespace V
/-- a place on the way from a to b, D times as far from 0, seen from c as far as from 0 -/
def onU (a b c N D : Int) : Int := D * (a - c) + N * (b - a)
theorem sq_le {a b : Int} (h1 : 0 ≤ b) (h2 : a * a ≤ b * b) : a ≤ b := by
  refine Int.not_lt.1 fun h => ?_
  have k := Int.mul_lt_mul_of_pos_left h (show 0 < b + 1 by omega)
  have k2 := Int.mul_le_mul_of_nonneg_left (Int.le_of_lt h) (show 0 ≤ a by omega)
  have k3 := Int.mul_le_mul_of_nonneg_right (Int.le_of_lt h) h1
  have e : a * b < a * a := Int.mul_lt_mul_of_pos_left h (by omega)
  omega
/-- what is near a segment's point is nearer than the radius: the segment cuts -/
theorem near_cut {ax ay bx bY px py r N D : Int} (hD : 0 < D) (h0 : 0 ≤ N) (h1 : N ≤ D)
    (h : onU ax bx px N D * onU ax bx px N D + onU ay bY py N D * onU ay bY py N D < D * D * (r * r)) : LsV ax ay bx bY px py r < 0 := by
  have eF : onU ax bx px N D * onU ax bx px N D + onU ay bY py N D * onU ay bY py N D = D * D * sq ax ay px py - 2 * (D * (N * alg ax ay bx bY px py)) + N * N * sq ax ay bx bY := by unfold onU sq alg; grind
  have e4 := sq_alg ax ay bx bY px py
  have hL : 0 ≤ sq ax ay bx bY := by unfold sq; have := self_nn (bx - ax); have := self_nn (bY - ay); omega
  have eG : sq ax ay bx bY * sq ax ay px py = alg ax ay bx bY px py * alg ax ay bx bY px py + lft ax ay bx bY px py * lft ax ay bx bY px py := by unfold sq alg lft; grind
  rw [eF] at h
  unfold LsV
  generalize sq ax ay bx bY = L at *
  generalize alg ax ay bx bY px py = al at *
  generalize lft ax ay bx bY px py * lft ax ay bx bY px py = F at *
  generalize sq ax ay px py = S at *
  generalize sq bx bY px py = T at *
  have hDD : 0 < D * D := Int.mul_pos hD hD
  by_cases c1 : al ≤ 0
  · rw [decide_eq_true c1, cond_true]
    have k1 : D * (N * al) ≤ 0 := Int.mul_nonpos_of_nonneg_of_nonpos (Int.le_of_lt hD) (Int.mul_nonpos_of_nonneg_of_nonpos h0 c1)
    have k2 : 0 ≤ N * N * L := Int.mul_nonneg (self_nn N) hL
    have k3 : D * D * S < D * D * (r * r) := by omega
    have k4 : S < r * r := Int.lt_of_mul_lt_mul_left k3 (by omega)
    rw [sign_lt k4]; decide
  · by_cases c2 : L ≤ al
    · rw [decide_eq_false c1, decide_eq_true c2, cond_false, cond_true]
      have e5 : D * D * S - 2 * (D * (N * al)) + N * N * L = D * D * T + (D - N) * (2 * (D * (al - L)) + (D - N) * L) := by rw [e4]; grind
      have k1 : 0 ≤ (D - N) * (2 * (D * (al - L)) + (D - N) * L) := by
        refine Int.mul_nonneg (by omega) ?_
        have a1 := Int.mul_nonneg (show 0 ≤ D by omega) (show 0 ≤ al - L by omega)
        have a2 := Int.mul_nonneg (show 0 ≤ D - N by omega) hL
        omega
      have k3 : D * D * T < D * D * (r * r) := by omega
      have k4 : T < r * r := Int.lt_of_mul_lt_mul_left k3 (by omega)
      rw [sign_lt k4]; decide
    · rw [decide_eq_false c1, decide_eq_false c2, cond_false, cond_false]
      have hLp : 0 < L := by omega
      have k1 := Int.mul_lt_mul_of_pos_left h hLp
      have e6 : L * (D * D * S - 2 * (D * (N * al)) + N * N * L) = D * D * F + (D * al - N * L) * (D * al - N * L) := by
        have : L * (D * D * S - 2 * (D * (N * al)) + N * N * L) = D * D * (L * S) - 2 * (D * (N * al)) * L + N * N * L * L := by grind
        rw [this, eG]; grind
      have k2 := self_nn (D * al - N * L)
      have e7 : L * (D * D * (r * r)) = D * D * (r * r * L) := by grind
      have k3 : D * D * F < D * D * (r * r * L) := by omega
      have k4 : F < r * r * L := Int.lt_of_mul_lt_mul_left k3 (by omega)
      rw [sign_lt k4]; decide
/-- a segment that is nearer than a radius has a point that is -/
theorem cut_near {ax ay bx bY px py r : Int} (h : LsV ax ay bx bY px py r < 0) : ∃ N D : Int, 0 < D ∧ 0 ≤ N ∧ N ≤ D ∧
    onU ax bx px N D * onU ax bx px N D + onU ay bY py N D * onU ay bY py N D < D * D * (r * r) := by
  have eF : ∀ N D : Int, onU ax bx px N D * onU ax bx px N D + onU ay bY py N D * onU ay bY py N D = D * D * sq ax ay px py - 2 * (D * (N * alg ax ay bx bY px py)) + N * N * sq ax ay bx bY := by intro N D; unfold onU sq alg; grind
  have e4 := sq_alg ax ay bx bY px py
  have eG : sq ax ay bx bY * sq ax ay px py = alg ax ay bx bY px py * alg ax ay bx bY px py + lft ax ay bx bY px py * lft ax ay bx bY px py := by unfold sq alg lft; grind
  have neg : ∀ {a b : Int}, (a - b).sign < 0 → a < b := by
    intro a b k
    rcases Int.lt_trichotomy a b with j | j | j
    · exact j
    · rw [sign_eq j] at k; omega
    · rw [sign_gt j] at k; omega
  unfold LsV at h
  simp only [eF]
  generalize sq ax ay bx bY = L at *
  generalize alg ax ay bx bY px py = al at *
  generalize lft ax ay bx bY px py * lft ax ay bx bY px py = F at *
  generalize sq ax ay px py = S at *
  generalize sq bx bY px py = T at *
  by_cases c1 : al ≤ 0
  · rw [decide_eq_true c1, cond_true] at h
    have := neg h
    exact ⟨0, 1, by omega, by omega, by omega, by omega⟩
  · by_cases c2 : L ≤ al
    · rw [decide_eq_false c1, decide_eq_true c2, cond_false, cond_true] at h
      have := neg h
      exact ⟨1, 1, by omega, by omega, by omega, by omega⟩
    · rw [decide_eq_false c1, decide_eq_false c2, cond_false, cond_false] at h
      have h' := neg h
      refine ⟨al, L, by omega, by omega, by omega, ?_⟩
      have e1 : L * L * S - 2 * (L * (al * al)) + al * al * L = L * (L * S - al * al) := by grind
      rw [e1, eG]
      have e2 : L * L * (r * r) = L * (r * r * L) := by grind
      rw [e2]
      exact Int.mul_lt_mul_of_pos_left (by omega) (by omega)
/-- how far a point of the way is on the left of a side -/
theorem lft_mix (px py qx qy ax ay bx bY cx cy N D : Int) : (D - N) * lft px py qx qy ax ay + N * lft px py qx qy bx bY =
    (qx - px) * (onU ay bY cy N D - D * (py - cy)) - (onU ax bx cx N D - D * (px - cx)) * (qy - py) := by unfold lft onU; grind
/-- a vertex seen from the point: along, and across -/
def vN (u v D x y : Int) : Int := D * (u * x + v * y) - (u * u + v * v)
def vC (u v D x y : Int) : Int := D * (u * y - v * x)
theorem v_cross (u v D px py qx qy : Int) : (u * u + v * v) * (D * ((qx - px) * (v - D * py) - (u - D * px) * (qy - py))) = vN u v D px py * vC u v D qx qy - vC u v D px py * vN u v D qx qy := by unfold vN vC; grind
theorem v_out {u v D R x y : Int} (h1 : D * D * (R * R) ≤ u * u + v * v) (h2 : x * x + y * y ≤ R * R) : vN u v D x y ≤ 0 ∧ (vN u v D x y = 0 → vC u v D x y = 0) := by
  have hU : 0 ≤ u * u + v * v := by have := self_nn u; have := self_nn v; omega
  have e : D * (u * x + v * y) * (D * (u * x + v * y)) + vC u v D x y * vC u v D x y = (u * u + v * v) * (D * D * (x * x + y * y)) := by unfold vC; grind
  have hc := self_nn (vC u v D x y)
  have k1 : D * D * (x * x + y * y) ≤ u * u + v * v := Int.le_trans (Int.mul_le_mul_of_nonneg_left h2 (self_nn D)) h1
  have k2 : (u * u + v * v) * (D * D * (x * x + y * y)) ≤ (u * u + v * v) * (u * u + v * v) := Int.mul_le_mul_of_nonneg_left k1 hU
  have k3 : D * (u * x + v * y) ≤ u * u + v * v := sq_le hU (by omega)
  refine ⟨by unfold vN; omega, fun h => ?_⟩
  have h4 : D * (u * x + v * y) = u * u + v * v := by unfold vN at h; omega
  rw [h4] at e
  have h5 : vC u v D x y * vC u v D x y = 0 := by omega
  exact (Int.mul_eq_zero.1 h5).elim id id
/-- a closed way of places that lie in a disc: no point outside of the disc lies on the left of all its parts -/
theorem ring_in {n : Nat} {V : Nat → Int × Int} {u v D R : Int} (hn : 0 < n) (hD : 0 < D) (hR : 0 < R) (hV : ∀ i, i < n → (V i).1 * (V i).1 + (V i).2 * (V i).2 ≤ R * R)
    (hl : ∀ i, i < n → V i = V ((i + 1) % n) ∨ 0 < ((V ((i + 1) % n)).1 - (V i).1) * (v - D * (V i).2) - (u - D * (V i).1) * ((V ((i + 1) % n)).2 - (V i).2))
    (hx : ∃ i, i < n ∧ V i ≠ V ((i + 1) % n)) : u * u + v * v < D * D * (R * R) := by
  refine Int.not_le.1 fun h1 => ?_
  have hDR : 0 < D * D * (R * R) := Int.mul_pos (Int.mul_pos hD hD) (Int.mul_pos hR hR)
  have hU : 0 < u * u + v * v := by omega
  have hc : ∀ i, i < n → vN u v D (V i).1 (V i).2 ≤ 0 ∧ (vN u v D (V i).1 (V i).2 = 0 → vC u v D (V i).1 (V i).2 = 0) := fun i hi => v_out h1 (hV i hi)
  have hs : ∀ i, i < n → V i = V ((i + 1) % n) ∨ 0 < vN u v D (V i).1 (V i).2 * vC u v D (V ((i + 1) % n)).1 (V ((i + 1) % n)).2 - vC u v D (V i).1 (V i).2 * vN u v D (V ((i + 1) % n)).1 (V ((i + 1) % n)).2 := by
    intro i hi
    rcases hl i hi with h | h
    · exact .inl h
    · right
      rw [← v_cross]
      exact Int.mul_pos hU (Int.mul_pos hD h)
  generalize hA : (fun i => vN u v D (V i).1 (V i).2) = A at *
  generalize hB : (fun i => vC u v D (V i).1 (V i).2) = B at *
  have eA : ∀ i, vN u v D (V i).1 (V i).2 = A i := fun i => congrFun hA i
  have eB : ∀ i, vC u v D (V i).1 (V i).2 = B i := fun i => congrFun hB i
  simp only [eA, eB] at hc hs
  have hsA : ∀ {i j}, V i = V j → A i = A j ∧ B i = B j := by
    intro i j h
    rw [← eA, ← eA, ← eB, ← eB, h]; exact ⟨rfl, rfl⟩
  have hst : ∀ i, i < n → V i = V ((i + 1) % n) ∨ (A i < 0 ∧ A ((i + 1) % n) < 0 ∧ B ((i + 1) % n) * (0 - A i) < B i * (0 - A ((i + 1) % n))) := by
    intro i hi
    rcases hs i hi with h | h
    · exact .inl h
    · right
      have hj : (i + 1) % n < n := Nat.mod_lt _ hn
      obtain ⟨c1, c2⟩ := hc i hi
      obtain ⟨c3, c4⟩ := hc _ hj
      generalize A i = a at *
      generalize B i = b at *
      generalize A ((i + 1) % n) = a' at *
      generalize B ((i + 1) % n) = b' at *
      have n1 : a ≠ 0 := by
        intro h0
        rw [h0, c2 h0] at h; simp at h
      have n2 : a' ≠ 0 := by
        intro h0
        rw [h0, c4 h0] at h; simp at h
      refine ⟨by omega, by omega, ?_⟩
      have e1 : b' * (0 - a) = 0 - a * b' := by grind
      have e2 : b * (0 - a') = 0 - b * a' := by grind
      omega
  obtain ⟨k, hk, hne⟩ := hx
  obtain ⟨k1, k2, k3⟩ := (hst k hk).resolve_left hne
  have chain : ∀ j, A ((k + 1 + j) % n) < 0 ∧ B ((k + 1 + j) % n) * (0 - A ((k + 1) % n)) ≤ B ((k + 1) % n) * (0 - A ((k + 1 + j) % n)) := by
    intro j
    induction j with
    | zero => exact ⟨k2, Int.le_refl _⟩
    | succ j ih =>
      have hm : (k + 1 + j) % n < n := Nat.mod_lt _ hn
      have em : ((k + 1 + j) % n + 1) % n = (k + 1 + (j + 1)) % n := by rw [Nat.mod_add_mod]; rfl
      have := hst _ hm
      rw [em] at this
      rcases this with h | ⟨h1, h2, h3⟩
      · obtain ⟨q1, q2⟩ := hsA h
        rw [← q1, ← q2]; exact ih
      · refine ⟨h2, ?_⟩
        exact frac_le (b := 0 - A ((k + 1 + (j + 1)) % n)) (d := 0 - A ((k + 1 + j) % n)) (f := 0 - A ((k + 1) % n)) (by omega) (by omega) (by omega) (Int.le_of_lt h3) ih.2
  have := chain (n - 1)
  have em : (k + 1 + (n - 1)) % n = k := by rw [show k + 1 + (n - 1) = k + n by omega, Nat.add_mod_right, Nat.mod_eq_of_lt hk]
  rw [em] at this
  omega
/-- a point that is nearer than each side's line -/
theorem in_side {dx dy A u v D r : Int} (hD : 0 < D) (hA : 0 < A) (h1 : r * r * (dx * dx + dy * dy) ≤ A * A) (h2 : u * u + v * v < D * D * (r * r)) : 0 < D * A + (dx * v - u * dy) := by
  have hd : 0 ≤ dx * dx + dy * dy := by have := self_nn dx; have := self_nn dy; omega
  have e : (dx * v - u * dy) * (dx * v - u * dy) + (dx * u + dy * v) * (dx * u + dy * v) = (dx * dx + dy * dy) * (u * u + v * v) := by grind
  have k := self_nn (dx * u + dy * v)
  have hDA : 0 < D * A := Int.mul_pos hD hA
  refine Int.not_le.1 fun hc => ?_
  have k2 : D * A ≤ 0 - (dx * v - u * dy) := by omega
  have k3 : D * A * (D * A) ≤ (0 - (dx * v - u * dy)) * (0 - (dx * v - u * dy)) := Int.mul_le_mul k2 k2 (by omega) (by omega)
  have e3 : (0 - (dx * v - u * dy)) * (0 - (dx * v - u * dy)) = (dx * v - u * dy) * (dx * v - u * dy) := by grind
  have e4 : D * A * (D * A) = D * D * (A * A) := by grind
  have k5 : D * D * (r * r * (dx * dx + dy * dy)) ≤ D * D * (A * A) := Int.mul_le_mul_of_nonneg_left h1 (self_nn D)
  have e6 : D * D * (r * r * (dx * dx + dy * dy)) = (dx * dx + dy * dy) * (D * D * (r * r)) := by grind
  by_cases h0 : dx * dx + dy * dy = 0
  · rw [h0] at e
    have : 0 < D * D * (A * A) := Int.mul_pos (Int.mul_pos hD hD) (Int.mul_pos hA hA)
    omega
  · have k7 := Int.mul_lt_mul_of_pos_left h2 (show 0 < dx * dx + dy * dy by omega)
    omega
/-! a part of the segment that is on the left of all sides -/
theorem good_part {L : List XY} {s : PS} (I : FI L s) (h : endF s = true) : ∃ N D : Int, 0 < D ∧ 0 ≤ N ∧ N ≤ D ∧ ∀ p ∈ L, 0 < (D - N) * p.1 + N * p.2 := by
  have f1 := I.f1pos
  have t1 := I.t1pos
  have hlt : s.f0 * s.t1 < s.t0 * s.f1 := by
    unfold endF at h
    rw [Bool.and_eq_true, Bool.or_eq_true] at h
    rcases h.2 with h | h
    · exact of_decide_eq_true h
    · rw [Bool.and_eq_true, Bool.not_eq_true', Bool.not_eq_true'] at h
      obtain ⟨a, b⟩ := I.l3 h.1
      obtain ⟨c, d⟩ := I.u3 h.2
      rw [a, b, c, d]; decide
  have hf : 0 ≤ s.f0 ∧ s.f0 ≤ s.f1 := by
    cases h0 : s.o0 with
    | true => obtain ⟨p, hp, p1, p2, p3⟩ := I.l1 h0; have := I.nb p hp; omega
    | false => have := I.l3 h0; omega
  have ht : 0 ≤ s.t0 ∧ s.t0 ≤ s.t1 := by
    cases h0 : s.o1 with
    | true => obtain ⟨p, hp, p1, p2, p3⟩ := I.u1 h0; have := I.nb p hp; omega
    | false => have := I.u3 h0; omega
  have m1 : 0 < s.f1 * s.t1 := Int.mul_pos f1 t1
  have m2 : 0 ≤ s.f0 * s.t1 := Int.mul_nonneg hf.1 (by omega)
  have m3 : 0 ≤ s.t0 * s.f1 := Int.mul_nonneg ht.1 (by omega)
  have m4 : s.f0 * s.t1 ≤ s.f1 * s.t1 := Int.mul_le_mul_of_nonneg_right hf.2 (by omega)
  have m5 : s.t0 * s.f1 ≤ s.t1 * s.f1 := Int.mul_le_mul_of_nonneg_right ht.2 (by omega)
  have e5 : s.t1 * s.f1 = s.f1 * s.t1 := Int.mul_comm _ _
  refine ⟨s.f0 * s.t1 + s.t0 * s.f1, 2 * (s.f1 * s.t1), by omega, by omega, by omega, fun p hp => ?_⟩
  have hb := I.nb p hp
  by_cases hx : p.1 ≤ 0
  · have l2 := I.l2 (I.o0.2 ⟨p, hp, hx⟩) p hp hx
    have k1 := Int.mul_le_mul_of_nonneg_right l2 (show 0 ≤ s.t1 by omega)
    have k2 := Int.mul_lt_mul_of_pos_right hlt (show 0 < p.2 - p.1 by omega)
    have e : (2 * (s.f1 * s.t1) - (s.f0 * s.t1 + s.t0 * s.f1)) * p.1 + (s.f0 * s.t1 + s.t0 * s.f1) * p.2 = s.f0 * s.t1 * (p.2 - p.1) + s.t0 * s.f1 * (p.2 - p.1) - 2 * ((0 - p.1) * s.f1 * s.t1) := by grind
    have e2 : s.f0 * (p.2 - p.1) * s.t1 = s.f0 * s.t1 * (p.2 - p.1) := by grind
    rw [e]; omega
  · by_cases hy : p.2 ≤ 0
    · have u2 := I.u2 (I.o1.2 ⟨p, hp, hy⟩) p hp hy
      have k1 := Int.mul_le_mul_of_nonneg_right u2 (show 0 ≤ s.f1 by omega)
      have k2 := Int.mul_lt_mul_of_pos_right hlt (show 0 < p.1 - p.2 by omega)
      have e : (2 * (s.f1 * s.t1) - (s.f0 * s.t1 + s.t0 * s.f1)) * p.1 + (s.f0 * s.t1 + s.t0 * s.f1) * p.2 = 2 * (p.1 * s.t1 * s.f1) - s.f0 * s.t1 * (p.1 - p.2) - s.t0 * s.f1 * (p.1 - p.2) := by grind
      have e2 : s.t0 * (p.1 - p.2) * s.f1 = s.t0 * s.f1 * (p.1 - p.2) := by grind
      rw [e]; omega
    · have k1 := Int.mul_nonneg (show 0 ≤ 2 * (s.f1 * s.t1) - (s.f0 * s.t1 + s.t0 * s.f1) by omega) (show 0 ≤ p.1 by omega)
      by_cases h0 : s.f0 * s.t1 + s.t0 * s.f1 = 0
      · have := Int.mul_pos m1 (show 0 < p.1 by omega)
        rw [h0] at k1 ⊢
        have e : (2 * (s.f1 * s.t1) - 0) * p.1 + 0 * p.2 = 2 * (s.f1 * s.t1 * p.1) := by grind
        omega
      · have := Int.mul_pos (show 0 < s.f0 * s.t1 + s.t0 * s.f1 by omega) (show 0 < p.2 by omega)
        omega
theorem part_good {L : List XY} {N D : Int} (hD : 0 < D) (h0 : 0 ≤ N) (h1 : N ≤ D) (h : ∀ p ∈ L, 0 < (D - N) * p.1 + N * p.2) : Good L := by
  have hb : Both L := by
    rintro p hp ⟨p1, p2⟩
    have k1 := Int.mul_nonpos_of_nonneg_of_nonpos (show 0 ≤ D - N by omega) p1
    have k2 := Int.mul_nonpos_of_nonneg_of_nonpos h0 p2
    have := h p hp
    omega
  refine ⟨hb, fun p hp q hq hp1 hq2 => ?_⟩
  have b1 := hb p hp
  have b2 := hb q hq
  have k1 := h p hp
  have k2 := h q hq
  have e1 : (D - N) * p.1 + N * p.2 = N * (p.2 - p.1) - (0 - p.1) * D := by grind
  have e2 : (D - N) * q.1 + N * q.2 = q.1 * D - N * (q.1 - q.2) := by grind
  exact frac_lt' (a := 0 - p.1) (b := p.2 - p.1) (c := N) (d := D) (e := q.1) (f := q.1 - q.2) (by omega) hD (by omega) (by omega) (by omega)
theorem mem_xyL {c : PC} {l : List (TCT cPt)} (f : Nat) : ∀ (i j : Nat), i ≤ j → j < i + f → sameB (getA l j (dflt cPt)) (getA l ((j + 1) % l.length) (dflt cPt)) = false →
    (lfP (getA l j (dflt cPt)) (getA l ((j + 1) % l.length) (dflt cPt)) c.ax c.ay, lfP (getA l j (dflt cPt)) (getA l ((j + 1) % l.length) (dflt cPt)) c.bx c.bY) ∈ xyL c l f i := by
  induction f with
  | zero => intro i j h1 h2; omega
  | succ f ih =>
    intro i j h1 h2 hs
    rw [xyL]
    by_cases hij : i = j
    · subst hij
      rw [hs]; exact List.mem_cons_self
    · have := ih (i + 1) j (by omega) (by omega) hs
      cases sameB (getA l i (dflt cPt)) (getA l ((i + 1) % l.length) (dflt cPt)) with
      | true => exact this
      | false => exact List.mem_cons_of_mem _ this
theorem xyL_mem {c : PC} {l : List (TCT cPt)} (f : Nat) : ∀ (i : Nat) (p : XY), p ∈ xyL c l f i → ∃ j, i ≤ j ∧ j < i + f ∧ sameB (getA l j (dflt cPt)) (getA l ((j + 1) % l.length) (dflt cPt)) = false ∧
    p = (lfP (getA l j (dflt cPt)) (getA l ((j + 1) % l.length) (dflt cPt)) c.ax c.ay, lfP (getA l j (dflt cPt)) (getA l ((j + 1) % l.length) (dflt cPt)) c.bx c.bY) := by
  induction f with
  | zero => intro i p h; exact nomatch h
  | succ f ih =>
    intro i p hp
    rw [xyL] at hp
    cases hs : sameB (getA l i (dflt cPt)) (getA l ((i + 1) % l.length) (dflt cPt)) with
    | true =>
      rw [hs] at hp
      obtain ⟨j, j1, j2, j3⟩ := ih (i + 1) p hp
      exact ⟨j, by omega, by omega, j3⟩
    | false =>
      rw [hs, cond_false] at hp
      rcases List.mem_cons.1 hp with rfl | hp
      · exact ⟨i, by omega, by omega, hs, rfl⟩
      · obtain ⟨j, j1, j2, j3⟩ := ih (i + 1) p hp
        exact ⟨j, by omega, by omega, j3⟩
theorem sameB_iff {p q : TCT cPt} : sameB p q = true ↔ p = q := by
  obtain ⟨a, b, _⟩ := p
  obtain ⟨c, d, _⟩ := q
  unfold sameB
  rw [Bool.and_eq_true, Bool.and_eq_true]
  constructor
  · rintro ⟨h1, h2, _⟩
    have h1 := eq_of_beq h1
    have h2 := eq_of_beq h2
    simp only at h1 h2
    rw [h1, h2]
  · intro h
    injection h with h1 h2
    injection h2 with h2 _
    exact ⟨beq_iff_eq.2 h1, beq_iff_eq.2 h2, rfl⟩
theorem sub_can {a b c : Int} (h : a - c = b - c) : a = b := by omega
theorem sub_both (a b c : Int) : a - c - (b - c) = a - b := by omega
/-- a list of places, seen from one -/
def seen (l : List (TCT cPt)) (cx cy : Int) (i : Nat) : Int × Int := ((getA l i (dflt cPt)).1 - cx, (getA l i (dflt cPt)).2.1 - cy)
theorem seen_eq {l : List (TCT cPt)} {cx cy : Int} {i j : Nat} : seen l cx cy i = seen l cx cy j ↔ getA l i (dflt cPt) = getA l j (dflt cPt) := by
  unfold seen
  constructor
  · intro h
    injection h with h1 h2
    refine sameB_iff.1 ?_
    unfold sameB
    rw [show (getA l i (dflt cPt)).1 = (getA l j (dflt cPt)).1 from sub_can h1, show (getA l i (dflt cPt)).2.1 = (getA l j (dflt cPt)).2.1 from sub_can h2, beq_self_eq_true, beq_self_eq_true]; rfl
  · intro h; rw [h]
theorem side_seen (c : PC) (l : List (TCT cPt)) (cx cy N D : Int) (i j : Nat) :
    (D - N) * lfP (getA l i (dflt cPt)) (getA l j (dflt cPt)) c.ax c.ay + N * lfP (getA l i (dflt cPt)) (getA l j (dflt cPt)) c.bx c.bY =
    ((seen l cx cy j).1 - (seen l cx cy i).1) * (onU c.ay c.bY cy N D - D * (seen l cx cy i).2) - (onU c.ax c.bx cx N D - D * (seen l cx cy i).1) * ((seen l cx cy j).2 - (seen l cx cy i).2) := by
  unfold lfP
  rw [lft_mix (cx := cx) (cy := cy)]
  unfold seen
  simp only
  generalize (getA l i (dflt cPt)).1 = a
  generalize (getA l i (dflt cPt)).2.1 = b
  generalize (getA l j (dflt cPt)).1 = d
  generalize (getA l j (dflt cPt)).2.1 = e
  rw [show d - cx - (a - cx) = d - a from sub_both _ _ _, show e - cy - (b - cy) = e - b from sub_both _ _ _]
/-- what passes a list of places in a disc cuts the disc -/
theorem pass_cut {c : PC} {l : List (TCT cPt)} {cx cy r : Int} (hr : 0 < r) (hl : 0 < l.length) (hV : ∀ i, i < l.length → (seen l cx cy i).1 * (seen l cx cy i).1 + (seen l cx cy i).2 * (seen l cx cy i).2 ≤ r * r) (h : passF c l = true) : LsV c.ax c.ay c.bx c.bY cx cy r < 0 := by
  unfold passF at h
  rw [pasR_fold] at h
  cases hp : foldP (xyL c l l.length 0) ps0 with
  | none => rw [hp] at h; exact absurd h (by decide)
  | some s =>
    have I := foldP_FI _ [] ps0 s ps0_FI hp
    rw [List.nil_append] at I
    rw [hp] at h
    have he : endF s = true := (Bool.and_eq_true _ _ ▸ h).2
    obtain ⟨N, D, hD, h0, h1, hg⟩ := good_part I he
    have hne := (endF_good I).1 he
    refine near_cut hD h0 h1 ?_
    refine ring_in hl hD hr hV ?_ ?_
    · intro i hi
      by_cases hs : sameB (getA l i (dflt cPt)) (getA l ((i + 1) % l.length) (dflt cPt)) = true
      · exact .inl (seen_eq.2 (sameB_iff.1 hs))
      · right
        have := hg _ (mem_xyL l.length 0 i (by omega) (by omega) (by simpa using hs))
        rwa [side_seen] at this
    · obtain ⟨p, hp⟩ := List.exists_mem_of_ne_nil _ hne.1
      obtain ⟨j, _, j2, j3, _⟩ := xyL_mem _ _ _ hp
      refine ⟨j, by omega, fun he => ?_⟩
      rw [sameB_iff.2 (seen_eq.1 he)] at j3
      exact absurd j3 (by decide)
/-- what comes near enough to the middle passes -/
theorem near_pass {c : PC} {l : List (TCT cPt)} {cx cy r : Int} (hl : 0 < l.length)
    (hV : ∀ i, i < l.length → 0 < (seen l cx cy i).1 * (seen l cx cy ((i + 1) % l.length)).2 - (seen l cx cy ((i + 1) % l.length)).1 * (seen l cx cy i).2 ∧
      r * r * (((seen l cx cy ((i + 1) % l.length)).1 - (seen l cx cy i).1) * ((seen l cx cy ((i + 1) % l.length)).1 - (seen l cx cy i).1) + ((seen l cx cy ((i + 1) % l.length)).2 - (seen l cx cy i).2) * ((seen l cx cy ((i + 1) % l.length)).2 - (seen l cx cy i).2)) ≤
        ((seen l cx cy i).1 * (seen l cx cy ((i + 1) % l.length)).2 - (seen l cx cy ((i + 1) % l.length)).1 * (seen l cx cy i).2) * ((seen l cx cy i).1 * (seen l cx cy ((i + 1) % l.length)).2 - (seen l cx cy ((i + 1) % l.length)).1 * (seen l cx cy i).2))
    (h : LsV c.ax c.ay c.bx c.bY cx cy r < 0) : passF c l = true := by
  obtain ⟨N, D, hD, h0, h1, hu⟩ := cut_near h
  unfold passF
  rw [pasR_fold, pass_good]
  constructor
  · have h0' := (hV 0 hl).1
    have hs : sameB (getA l 0 (dflt cPt)) (getA l ((0 + 1) % l.length) (dflt cPt)) = false := by
      cases hc : sameB (getA l 0 (dflt cPt)) (getA l ((0 + 1) % l.length) (dflt cPt)) with
      | false => rfl
      | true =>
        rw [← seen_eq.2 (sameB_iff.1 hc)] at h0'
        omega
    exact List.ne_nil_of_mem (mem_xyL (c := c) l.length 0 0 (by omega) (by omega) hs)
  · refine part_good hD h0 h1 fun p hp => ?_
    obtain ⟨j, _, j2, _, rfl⟩ := xyL_mem _ _ _ hp
    obtain ⟨a1, a2⟩ := hV j (by omega)
    simp only
    rw [side_seen (cx := cx) (cy := cy)]
    have := in_side hD a1 a2 hu
    generalize (seen l cx cy j).1 = x at *
    generalize (seen l cx cy j).2 = y at *
    generalize (seen l cx cy ((j + 1) % l.length)).1 = z at *
    generalize (seen l cx cy ((j + 1) % l.length)).2 = w at *
    generalize onU c.ax c.bx cx N D = u at *
    generalize onU c.ay c.bY cy N D = v at *
    have e : (z - x) * (v - D * y) - (u - D * x) * (w - y) = D * (x * w - z * y) + ((z - x) * v - u * (w - y)) := by grind
    omega
end V
end Go.Proofs.Ythgmpjljlpacgaa
