/- Plain mathematics of two places that move in equal parts: when they are first in contact. No program is named. -/
import Derived.Test.YtmmhbianajpdgaaMa
namespace Go.Proofs.Ytmmhbianajpdgaa

theorem mul_bd {a b A B : Int} (h1 : -A ≤ a) (h2 : a ≤ A) (h3 : -B ≤ b) (h4 : b ≤ B) : -(A * B) ≤ a * b ∧ a * b ≤ A * B := by
  have hA : 0 ≤ A := by omega
  have hB : 0 ≤ B := by omega
  have p1 : 0 ≤ (A - a) * (B - b) := Int.mul_nonneg (by omega) (by omega)
  have p2 : 0 ≤ (A + a) * (B + b) := Int.mul_nonneg (by omega) (by omega)
  have p3 : 0 ≤ (A - a) * (B + b) := Int.mul_nonneg (by omega) (by omega)
  have p4 : 0 ≤ (A + a) * (B - b) := Int.mul_nonneg (by omega) (by omega)
  have e1 : (A - a) * (B - b) + (A + a) * (B + b) = 2 * (A * B) + 2 * (a * b) := by grind
  have e2 : (A - a) * (B + b) + (A + a) * (B - b) = 2 * (A * B) - 2 * (a * b) := by grind
  omega

/-- two places whose way is (x, y) are not farther apart than m -/
def hit (x y m : Int) : Bool := (!outB x (-m) m && !outB y (-m) m) && decide (x * x + y * y ≤ m * m)
/-- how many parts there are before the first contact, at most f -/
def fN (dx dy m : Int) : Nat → Int → Int → Nat
  | 0, _, _ => 0
  | f + 1, x, y => bif hit x y m then 0 else fN dx dy m f (x + dx) (y + dy) + 1
theorem fN_le (dx dy m : Int) : ∀ (f : Nat) (x y : Int), fN dx dy m f x y ≤ f
  | 0, _, _ => Nat.le_refl 0
  | f + 1, x, y => by
    simp only [fN]
    cases hit x y m with
    | true => simp
    | false => simp only [cond_false]; have := fN_le dx dy m f (x + dx) (y + dy); omega
theorem fN_hit {dx dy m : Int} {f : Nat} {x y : Int} (h : hit x y m = true) : fN dx dy m (f + 1) x y = 0 := by simp only [fN, h, cond_true]
theorem fN_miss {dx dy m : Int} {f : Nat} {x y : Int} (h : hit x y m = false) : fN dx dy m (f + 1) x y = fN dx dy m f (x + dx) (y + dy) + 1 := by simp only [fN, h, cond_false]
theorem hit_neg (x y m : Int) : hit (-x) (-y) m = hit x y m := by
  have e : ∀ z : Int, outB (-z) (-m) m = outB z (-m) m := by
    intro z
    unfold outB
    rw [Bool.eq_iff_iff]
    simp only [Bool.or_eq_true, decide_eq_true_eq]
    omega
  unfold hit
  rw [e, e, Int.neg_mul_neg, Int.neg_mul_neg]
theorem fN_neg (dx dy m : Int) : ∀ (f : Nat) (x y : Int), fN (-dx) (-dy) m f (-x) (-y) = fN dx dy m f x y
  | 0, _, _ => rfl
  | f + 1, x, y => by
    simp only [fN, hit_neg]
    have e1 : -x + -dx = -(x + dx) := by omega
    have e2 : -y + -dy = -(y + dy) := by omega
    rw [e1, e2, fN_neg dx dy m f]
end Go.Proofs.Ytmmhbianajpdgaa
