/- Plain mathematics of wide products: halves to the base 2^64, digits to the base 2^31, and how they compare. No program is named. -/
import Derived.Test.YthgmpjljlpacgaaMd
namespace Go.Proofs.Ythgmpjljlpacgaa

/-- the upper half of a product by the halves of its factors -/
theorem mul_hi (a b : Int) (ha : 0 ≤ a) (hb : 0 ≤ b) (ha2 : a < 18446744073709551616) (hb2 : b < 18446744073709551616) :
    let x1 := a / 4294967296
    let x0 := a % 4294967296
    let y1 := b / 4294967296
    let y0 := b % 4294967296
    let t := x1 * y0 + x0 * y0 / 4294967296
    let s := t % 4294967296 + x0 * y1
    x1 * y1 + t / 4294967296 + s / 4294967296 = a * b / 18446744073709551616 ∧
    (0 ≤ x1 * y1 ∧ 0 ≤ x0 * y0 ∧ 0 ≤ x1 * y0 ∧ 0 ≤ x0 * y1 ∧ x1 * y1 ≤ 18446744065119617025 ∧ x0 * y0 ≤ 18446744065119617025 ∧ x1 * y0 ≤ 18446744065119617025 ∧ x0 * y1 ≤ 18446744065119617025) ∧ (0 ≤ a * b / 18446744073709551616 ∧ a * b / 18446744073709551616 < 18446744073709551616) := by
  intro x1 x0 y1 y0 t s
  have e1 : a = 4294967296 * x1 + x0 := (Int.mul_ediv_add_emod a 4294967296).symm
  have e2 : b = 4294967296 * y1 + y0 := (Int.mul_ediv_add_emod b 4294967296).symm
  have r1 : 0 ≤ x0 ∧ x0 ≤ 4294967295 := by show 0 ≤ a % 4294967296 ∧ a % 4294967296 ≤ 4294967295; omega
  have r2 : 0 ≤ y0 ∧ y0 ≤ 4294967295 := by show 0 ≤ b % 4294967296 ∧ b % 4294967296 ≤ 4294967295; omega
  have r3 : 0 ≤ x1 ∧ x1 ≤ 4294967295 := by show 0 ≤ a / 4294967296 ∧ a / 4294967296 ≤ 4294967295; omega
  have r4 : 0 ≤ y1 ∧ y1 ≤ 4294967295 := by show 0 ≤ b / 4294967296 ∧ b / 4294967296 ≤ 4294967295; omega
  clear_value x1 x0 y1 y0
  have p1 := Int.mul_nonneg r3.1 r4.1
  have p2 := Int.mul_nonneg r1.1 r2.1
  have p3 := Int.mul_nonneg r3.1 r2.1
  have p4 := Int.mul_nonneg r1.1 r4.1
  have q1 := mul_bd (a := x1) (b := y1) (A := 4294967295) (B := 4294967295) (by omega) (by omega) (by omega) (by omega)
  have q2 := mul_bd (a := x0) (b := y0) (A := 4294967295) (B := 4294967295) (by omega) (by omega) (by omega) (by omega)
  have q3 := mul_bd (a := x1) (b := y0) (A := 4294967295) (B := 4294967295) (by omega) (by omega) (by omega) (by omega)
  have q4 := mul_bd (a := x0) (b := y1) (A := 4294967295) (B := 4294967295) (by omega) (by omega) (by omega) (by omega)
  have hab : a * b = 18446744073709551616 * (x1 * y1) + 4294967296 * (x1 * y0) + 4294967296 * (x0 * y1) + x0 * y0 := by rw [e1, e2]; grind
  refine ⟨?_, ⟨p1, p2, p3, p4, by omega, by omega, by omega, by omega⟩, ?_⟩
  · show x1 * y1 + (x1 * y0 + x0 * y0 / 4294967296) / 4294967296 + ((x1 * y0 + x0 * y0 / 4294967296) % 4294967296 + x0 * y1) / 4294967296 = a * b / 18446744073709551616
    rw [hab]
    generalize x1 * y1 = A
    generalize x0 * y0 = B
    generalize x1 * y0 = C
    generalize x0 * y1 = D
    omega
  · omega

/-- two numbers by halves compare as the numbers do -/
theorem sign_lt {a b : Int} (h : a < b) : (a - b).sign = -1 := Int.sign_eq_neg_one_of_neg (by omega)
theorem sign_gt {a b : Int} (h : b < a) : (a - b).sign = 1 := Int.sign_eq_one_of_pos (by omega)
theorem sign_eq {a b : Int} (h : a = b) : (a - b).sign = 0 := by rw [h, Int.sub_self]; rfl

/-- the digits of a product to the base 2^31, and the rest -/
theorem dig (a b : Int) (ha : 0 ≤ a) (hb : 0 ≤ b) (ha2 : a ≤ 4611686018427387904) (hb2 : b ≤ 4611686018427387904) :
    let x := a / 2147483648
    let y := a % 2147483648
    let u := b / 2147483648
    let v := b % 2147483648
    let mid := (x * v) % 2147483648 + (y * u) % 2147483648 + (y * v) / 2147483648
    let top := x * u + ((x * v) / 2147483648 + (y * u) / 2147483648 + mid / 2147483648)
    a * b = 4611686018427387904 * top + 2147483648 * (mid % 2147483648) + (y * v) % 2147483648 ∧
    (0 ≤ x * u ∧ x * u ≤ 4611686018427387904 ∧ 0 ≤ x * v ∧ x * v ≤ 4611686018427387904 ∧ 0 ≤ y * u ∧ y * u ≤ 4611686018427387904 ∧ 0 ≤ y * v ∧ y * v ≤ 4611686018427387904) ∧ (0 ≤ x ∧ 0 ≤ y ∧ 0 ≤ u ∧ 0 ≤ v) := by
  intro x y u v mid top
  have e1 : a = 2147483648 * x + y := (Int.mul_ediv_add_emod a 2147483648).symm
  have e2 : b = 2147483648 * u + v := (Int.mul_ediv_add_emod b 2147483648).symm
  have r1 : 0 ≤ x ∧ x ≤ 2147483648 := by show 0 ≤ a / 2147483648 ∧ a / 2147483648 ≤ 2147483648; omega
  have r2 : 0 ≤ y ∧ y ≤ 2147483647 := by show 0 ≤ a % 2147483648 ∧ a % 2147483648 ≤ 2147483647; omega
  have r3 : 0 ≤ u ∧ u ≤ 2147483648 := by show 0 ≤ b / 2147483648 ∧ b / 2147483648 ≤ 2147483648; omega
  have r4 : 0 ≤ v ∧ v ≤ 2147483647 := by show 0 ≤ b % 2147483648 ∧ b % 2147483648 ≤ 2147483647; omega
  clear_value x y u v
  have p1 := Int.mul_nonneg r1.1 r3.1
  have p2 := Int.mul_nonneg r1.1 r4.1
  have p3 := Int.mul_nonneg r2.1 r3.1
  have p4 := Int.mul_nonneg r2.1 r4.1
  have q1 := mul_bd (a := x) (b := u) (A := 2147483648) (B := 2147483648) (by omega) (by omega) (by omega) (by omega)
  have q2 := mul_bd (a := x) (b := v) (A := 2147483648) (B := 2147483648) (by omega) (by omega) (by omega) (by omega)
  have q3 := mul_bd (a := y) (b := u) (A := 2147483648) (B := 2147483648) (by omega) (by omega) (by omega) (by omega)
  have q4 := mul_bd (a := y) (b := v) (A := 2147483648) (B := 2147483648) (by omega) (by omega) (by omega) (by omega)
  have hab : a * b = 4611686018427387904 * (x * u) + 2147483648 * (x * v) + 2147483648 * (y * u) + y * v := by rw [e1, e2]; grind
  refine ⟨?_, ⟨p1, by omega, p2, by omega, p3, by omega, p4, by omega⟩, r1.1, r2.1, r3.1, r4.1⟩
  show a * b = 4611686018427387904 * (x * u + ((x * v) / 2147483648 + (y * u) / 2147483648 + ((x * v) % 2147483648 + (y * u) % 2147483648 + (y * v) / 2147483648) / 2147483648)) + 2147483648 * (((x * v) % 2147483648 + (y * u) % 2147483648 + (y * v) / 2147483648) % 2147483648) + (y * v) % 2147483648
  rw [hab]
  generalize x * u = A
  generalize x * v = B
  generalize y * u = C
  generalize y * v = D
  omega

def dMid (a b : Int) : Int := (a / 2147483648 * (b % 2147483648)) % 2147483648 + (a % 2147483648 * (b / 2147483648)) % 2147483648 + (a % 2147483648 * (b % 2147483648)) / 2147483648
def dTop (a b : Int) : Int := a / 2147483648 * (b / 2147483648) + ((a / 2147483648 * (b % 2147483648)) / 2147483648 + (a % 2147483648 * (b / 2147483648)) / 2147483648 + dMid a b / 2147483648)
def dLow (a b : Int) : Int := a % 2147483648 * (b % 2147483648)
theorem digits (a b : Int) (ha : 0 ≤ a) (hb : 0 ≤ b) (ha2 : a ≤ 4611686018427387904) (hb2 : b ≤ 4611686018427387904) :
    a * b = 4611686018427387904 * 2147483648 * (dTop a b / 2147483648) + 4611686018427387904 * (dTop a b % 2147483648) + 2147483648 * (dMid a b % 2147483648) + dLow a b % 2147483648 := by
  have h := (dig a b ha hb ha2 hb2).1
  have h' : a * b = 4611686018427387904 * dTop a b + 2147483648 * (dMid a b % 2147483648) + dLow a b % 2147483648 := h
  generalize a * b = p at *
  generalize dTop a b = t at *
  generalize dMid a b % 2147483648 = m at *
  generalize dLow a b % 2147483648 = l at *
  omega
end Go.Proofs.Ythgmpjljlpacgaa
