/- Plain mathematics of places: squares of distances, and places at a length towards another one. No program is named. -/
import Derived.Test.YtmmhbianajpdgaaMb
import Derived.Test.YtmmhbianajpdgaaMc
namespace Go.Proofs.Ytmmhbianajpdgaa
def sq (ax ay bx bY : Int) : Int := (bx - ax) * (bx - ax) + (bY - ay) * (bY - ay)
theorem self_nn (x : Int) : 0 ≤ x * x := by
  rcases Int.le_total 0 x with h | h
  · exact Int.mul_nonneg h h
  · exact Int.mul_nonneg_of_nonpos_of_nonpos h h
theorem int_sq_self {x : Int} (h : x ≠ 0) : 1 ≤ x * x := by
  rcases Int.lt_or_gt_of_ne h with k | k
  · have := Int.mul_pos_of_neg_of_neg k k; omega
  · have := Int.mul_pos k k; omega
theorem sq_pos {px py qx qy : Int} (h : ¬ (px = qx ∧ py = qy)) : 1 ≤ sq px py qx qy := by
  have b3 := self_nn (qx - px)
  have b4 := self_nn (qy - py)
  unfold sq
  by_cases hx : px = qx
  · have hy : py ≠ qy := fun h' => h ⟨hx, h'⟩
    have := int_sq_self (x := qy - py) (by omega)
    omega
  · have := int_sq_self (x := qx - px) (by omega)
    omega

theorem sq_le_of_le {a b : Int} (h : 0 ≤ a) (k : a ≤ b) : a * a ≤ b * b := Int.mul_le_mul k k h (by omega)
theorem le_of_sq {a b : Int} (hb : 0 ≤ b) (h : a * a ≤ b * b) : a ≤ b := by
  rcases Int.lt_or_le b a with k | k
  · have h1 := Int.mul_lt_mul_of_pos_left k (show 0 < a by omega)
    have h2 := Int.mul_le_mul_of_nonneg_right (show b ≤ a by omega) hb
    omega
  · exact k
theorem abs_mul_le (a r d : Int) (h1 : -d ≤ 2 * r) (h2 : 2 * r ≤ d) : 2 * (a * r) ≤ d * max a (-a) ∧ -(d * max a (-a)) ≤ 2 * (a * r) := by
  rcases Int.le_total 0 a with h | h
  · have e : max a (-a) = a := by omega
    rw [e]
    have p1 := Int.mul_le_mul_of_nonneg_left h2 h
    have p2 := Int.mul_le_mul_of_nonneg_left h1 h
    have e1 : a * (2 * r) = 2 * (a * r) := by grind
    have e2 : a * -d = -(d * a) := by grind
    have e3 : a * d = d * a := by grind
    omega
  · have e : max a (-a) = -a := by omega
    rw [e]
    have p1 := Int.mul_le_mul_of_nonneg_left h2 (show 0 ≤ -a by omega)
    have p2 := Int.mul_le_mul_of_nonneg_left h1 (show 0 ≤ -a by omega)
    have e1 : -a * (2 * r) = -(2 * (a * r)) := by grind
    have e2 : -a * -d = -(d * -a) := by grind
    have e3 : -a * d = d * -a := by grind
    omega

/-- what the rounded parts of a way of length n are: as long as was asked for, but for 2 -/
theorem tow (X Y n d : Int) (hT1 : d * d ≤ 4096 * (X * X + Y * Y)) (hT2 : 4096 * (X * X + Y * Y) < (d + 1) * (d + 1)) (hn : 0 ≤ n) (hd4 : 4 * n ≤ d) (hd : 1 ≤ d) (hd8 : 8 ≤ d) :
    let U := DW (64 * n * X) d
    let V := DW (64 * n * Y) d
    U * U + V * V ≤ (n + 2) * (n + 2) ∧ (2 ≤ n → (n - 2) * (n - 2) ≤ U * U + V * V) ∧ (4 ≤ n → 0 < U * X + V * Y) := by
  intro U V
  obtain ⟨e1, l1, u1⟩ := dw_spec (64 * n * X) d hd
  obtain ⟨e2, l2, u2⟩ := dw_spec (64 * n * Y) d hd
  have hP : (64 * n * X) * (64 * n * X) + (64 * n * Y) * (64 * n * Y) = n * n * (4096 * (X * X + Y * Y)) := by grind
  have hdot : 64 * n * (U * X + V * Y) = U * (64 * n * X) + V * (64 * n * Y) := by grind
  show _ ∧ _ ∧ (4 ≤ n → 0 < U * X + V * Y)
  have hU : U = DW (64 * n * X) d := rfl
  have hV : V = DW (64 * n * Y) d := rfl
  rw [← hU] at e1
  rw [← hV] at e2
  clear_value U V
  generalize DR (64 * n * X) d = r1 at e1 l1 u1
  generalize DR (64 * n * Y) d = r2 at e2 l2 u2
  generalize U * X + V * Y = Q at hdot ⊢
  generalize 4096 * (X * X + Y * Y) = T at hT1 hT2 hP
  generalize 64 * n * X = a at *
  generalize 64 * n * Y = b at *
  clear hU hV
  have hnn := self_nn n
  have F1 : n * n * (d * d) ≤ a * a + b * b := by rw [hP]; exact Int.mul_le_mul_of_nonneg_left hT1 hnn
  have F2 : a * a + b * b ≤ n * n * ((d + 1) * (d + 1)) := by rw [hP]; exact Int.mul_le_mul_of_nonneg_left (by omega) hnn
  obtain ⟨s1, s2⟩ := abs_mul_le a r1 d l1 (by omega)
  obtain ⟨s3, s4⟩ := abs_mul_le b r2 d l2 (by omega)
  have ea : max a (-a) * max a (-a) = a * a := by
    rcases Int.le_total 0 a with h | h
    · rw [show max a (-a) = a by omega]
    · rw [show max a (-a) = -a by omega, Int.neg_mul_neg]
  have eb : max b (-b) * max b (-b) = b * b := by
    rcases Int.le_total 0 b with h | h
    · rw [show max b (-b) = b by omega]
    · rw [show max b (-b) = -b by omega, Int.neg_mul_neg]
  have pa : 0 ≤ max a (-a) := by omega
  have pb : 0 ≤ max b (-b) := by omega
  generalize max a (-a) = A at *
  generalize max b (-b) = B at *
  -- A + B is at most 3/2 n (d + 1)
  have hm : 2 * (A + B) ≤ 3 * (n * (d + 1)) := by
    have hnd : 0 ≤ n * (d + 1) := Int.mul_nonneg hn (by omega)
    refine le_of_sq (by omega) ?_
    have g1 := self_nn (A - B)
    have g2 : (A - B) * (A - B) = A * A + B * B - 2 * (A * B) := by grind
    have g3 : 2 * (A + B) * (2 * (A + B)) = 4 * (A * A) + 4 * (B * B) + 8 * (A * B) := by grind
    have g4 : 3 * (n * (d + 1)) * (3 * (n * (d + 1))) = 9 * (n * n * ((d + 1) * (d + 1))) := by grind
    have g5 : 0 ≤ n * n * ((d + 1) * (d + 1)) := Int.mul_nonneg hnn (self_nn _)
    omega
  have hm2 : 2 * (d * (A + B)) ≤ 3 * (n * (d * d)) + 3 * (n * d) := by
    have := Int.mul_le_mul_of_nonneg_left hm (show 0 ≤ d by omega)
    have g1 : d * (2 * (A + B)) = 2 * (d * (A + B)) := by grind
    have g2 : d * (3 * (n * (d + 1))) = 3 * (n * (d * d)) + 3 * (n * d) := by grind
    omega
  have hdAB : d * (A + B) = d * A + d * B := by grind
  have q1 : 4 * (r1 * r1) ≤ d * d := by
    have := mul_bd (a := 2 * r1) (b := 2 * r1) (A := d) (B := d) (by omega) (by omega) (by omega) (by omega)
    have g : 2 * r1 * (2 * r1) = 4 * (r1 * r1) := by grind
    omega
  have q2 : 4 * (r2 * r2) ≤ d * d := by
    have := mul_bd (a := 2 * r2) (b := 2 * r2) (A := d) (B := d) (by omega) (by omega) (by omega) (by omega)
    have g : 2 * r2 * (2 * r2) = 4 * (r2 * r2) := by grind
    omega
  have q3 := self_nn r1
  have q4 := self_nn r2
  have hD : d * d * (U * U + V * V) = (a * a + b * b) - 2 * (a * r1) - 2 * (b * r2) + (r1 * r1 + r2 * r2) := by
    have x1 : U * d = a - r1 := by omega
    have x2 : V * d = b - r2 := by omega
    have x3 : d * d * (U * U + V * V) = (U * d) * (U * d) + (V * d) * (V * d) := by grind
    rw [x3, x1, x2]; grind
  have hdd := int_sq_self (x := d) (by omega)
  have hnd : 0 ≤ n * d := Int.mul_nonneg hn (by omega)
  have hndd : n * d ≤ n * (d * d) := Int.mul_le_mul_of_nonneg_left (by
    have := Int.mul_le_mul_of_nonneg_left (show 1 ≤ d from hd) (show 0 ≤ d by omega); omega) hn
  have K1 : 4 * (n * n * d) ≤ n * (d * d) := by
    have := Int.mul_le_mul_of_nonneg_left hd4 hnd
    have g1 : n * d * (4 * n) = 4 * (n * n * d) := by grind
    have g2 : n * d * d = n * (d * d) := by grind
    omega
  have K2 : 4 * (n * n) ≤ n * d := by
    have := Int.mul_le_mul_of_nonneg_left hd4 hn
    have g1 : n * (4 * n) = 4 * (n * n) := by grind
    omega
  have X2 : n * n * ((d + 1) * (d + 1)) = n * n * (d * d) + 2 * (n * n * d) + n * n := by grind
  refine ⟨?_, fun h2 => ?_, fun h4 => ?_⟩
  · refine Int.le_of_mul_le_mul_left (a := d * d) ?_ (by omega)
    have g : d * d * ((n + 2) * (n + 2)) = n * n * (d * d) + 4 * (n * (d * d)) + 4 * (d * d) := by grind
    omega
  · refine Int.le_of_mul_le_mul_left (a := d * d) ?_ (by omega)
    have g : d * d * ((n - 2) * (n - 2)) = n * n * (d * d) - 4 * (n * (d * d)) + 4 * (d * d) := by grind
    have K4 : 2 * (d * d) ≤ n * (d * d) := Int.mul_le_mul_of_nonneg_right h2 (by omega)
    have K5 : 3 * (n * d) ≤ n * (d * d) := by
      have := Int.mul_le_mul_of_nonneg_left (show 3 ≤ d by omega) hnd
      have g1 : n * d * d = n * (d * d) := by grind
      omega
    omega
  · have hQ : d * (U * a + V * b) = (a * a + b * b) - a * r1 - b * r2 := by
      have x1 : U * d = a - r1 := by omega
      have x2 : V * d = b - r2 := by omega
      have x3 : d * (U * a + V * b) = (U * d) * a + (V * d) * b := by grind
      rw [x3, x1, x2]; grind
    have K6 : 4 * (n * (d * d)) ≤ n * n * (d * d) := by
      have := Int.mul_le_mul_of_nonneg_right h4 (show 0 ≤ n * (d * d) by omega)
      have g1 : n * (n * (d * d)) = n * n * (d * d) := by grind
      omega
    have K7 : 1 ≤ n * (d * d) := by
      have := Int.mul_le_mul_of_nonneg_right (show 1 ≤ n by omega) (show 0 ≤ d * d by omega)
      omega
    have hpos : 0 < d * (U * a + V * b) := by omega
    rcases Int.lt_or_le 0 Q with x | x
    · exact x
    · exfalso
      have y1 : 64 * n * Q ≤ 0 := Int.mul_nonpos_of_nonneg_of_nonpos (by omega) x
      have y2 : d * (U * a + V * b) ≤ 0 := Int.mul_nonpos_of_nonneg_of_nonpos (by omega) (by omega)
      omega
end Go.Proofs.Ytmmhbianajpdgaa
