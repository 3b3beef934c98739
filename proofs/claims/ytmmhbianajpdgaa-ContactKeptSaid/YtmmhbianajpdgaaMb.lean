/- Plain mathematics for the layer turf: lengths in bits, roots and Newton's steps. No program is named. -/
import Derived.Test.YtmmhbianajpdgaaMa
namespace Go.Proofs.Ytmmhbianajpdgaa

/-- how many bits a number has -/
def bl (n : Nat) : Nat := if n = 0 then 0 else Nat.log2 n + 1
theorem bl_lt (n : Nat) : n < 2 ^ bl n := by
  unfold bl; split
  · rename_i h; subst h; decide
  · exact Nat.lt_log2_self
theorem bl_le (n : Nat) (h : n ≠ 0) : 2 ^ (bl n - 1) ≤ n := by
  unfold bl; rw [if_neg h]; simpa using Nat.log2_self_le h
theorem bl_unique (n b : Nat) (h1 : n < 2 ^ b) (h2 : b = 0 ∨ 2 ^ (b - 1) ≤ n) : bl n = b := by
  have a := bl_lt n
  rcases h2 with h2 | h2
  · subst h2
    have : n = 0 := by simpa using h1
    subst this; rfl
  · have hn : n ≠ 0 := by
      intro e; subst e
      have := Nat.two_pow_pos (b - 1); omega
    have c := bl_le n hn
    have k1 : b - 1 < bl n := (Nat.pow_lt_pow_iff_right (a := 2) (by decide)).1 (Nat.lt_of_le_of_lt h2 a)
    have k2 : bl n - 1 < b := (Nat.pow_lt_pow_iff_right (a := 2) (by decide)).1 (Nat.lt_of_le_of_lt c h1)
    have hb : b ≠ 0 := by
      intro e; subst e
      have : n = 0 := by simpa using h1
      exact hn this
    have hbl : bl n ≠ 0 := by unfold bl; rw [if_neg hn]; omega
    omega
theorem bl_div (n k : Nat) (h : 2 ^ k ≤ n) : bl n = bl (n / 2 ^ k) + k := by
  have hp := Nat.two_pow_pos k
  have hq : n / 2 ^ k ≠ 0 := by
    have : 1 ≤ n / 2 ^ k := (Nat.le_div_iff_mul_le hp).2 (by omega)
    omega
  have a := bl_lt (n / 2 ^ k)
  have c := bl_le (n / 2 ^ k) hq
  have hb : bl (n / 2 ^ k) ≠ 0 := by unfold bl; rw [if_neg hq]; omega
  refine bl_unique n _ ?_ (.inr ?_)
  · rw [Nat.pow_add]
    exact (Nat.div_lt_iff_lt_mul hp).1 a
  · have e : bl (n / 2 ^ k) + k - 1 = (bl (n / 2 ^ k) - 1) + k := by omega
    rw [e, Nat.pow_add]
    exact (Nat.le_div_iff_mul_le hp).1 c
theorem bl_mono_le (n b : Nat) (h : n < 2 ^ b) : bl n ≤ b := by
  by_cases hn : n = 0
  · subst hn; exact Nat.zero_le _
  · have c := bl_le n hn
    have k2 : bl n - 1 < b := (Nat.pow_lt_pow_iff_right (a := 2) (by decide)).1 (Nat.lt_of_le_of_lt c h)
    omega

/-- the root of a number: the greatest whole number whose square is not greater -/
def isq : Nat → Nat
  | 0 => 0
  | n + 1 => if (isq n + 1) * (isq n + 1) ≤ n + 1 then isq n + 1 else isq n
theorem isq_spec : ∀ n, isq n * isq n ≤ n ∧ n < (isq n + 1) * (isq n + 1)
  | 0 => by decide
  | n + 1 => by
    obtain ⟨h1, h2⟩ := isq_spec n
    simp only [isq]
    split
    · rename_i h
      refine ⟨h, ?_⟩
      have : (isq n + 1 + 1) * (isq n + 1 + 1) = (isq n + 1) * (isq n + 1) + 2 * (isq n + 1) + 1 := by grind
      omega
    · exact ⟨by omega, by omega⟩
/-- the root, of whole numbers -/
def rt (n : Int) : Int := (isq n.toNat : Int)
theorem rt_spec (n : Int) (h : 0 ≤ n) : 0 ≤ rt n ∧ rt n * rt n ≤ n ∧ n < (rt n + 1) * (rt n + 1) := by
  obtain ⟨h1, h2⟩ := isq_spec n.toNat
  unfold rt
  refine ⟨by omega, ?_, ?_⟩
  · have : ((isq n.toNat * isq n.toNat : Nat) : Int) ≤ (n.toNat : Int) := by exact_mod_cast h1
    rw [Int.natCast_mul] at this; omega
  · have : (n.toNat : Int) < (((isq n.toNat + 1) * (isq n.toNat + 1) : Nat) : Int) := by exact_mod_cast h2
    rw [Int.natCast_mul] at this
    simp only [Int.natCast_add, Int.cast_ofNat_Int] at this
    omega
theorem sq_lt {a b : Int} (ha : 0 ≤ a) (h : a < b) : a * a < b * b := by
  have h1 : a * a ≤ a * b := Int.mul_le_mul_of_nonneg_left (by omega) ha
  have h2 : a * b < b * b := Int.mul_lt_mul_of_pos_right h (by omega)
  omega
theorem rt_unique (n r : Int) (h0 : 0 ≤ r) (h1 : r * r ≤ n) (h2 : n < (r + 1) * (r + 1)) : rt n = r := by
  have hn : 0 ≤ n := by have := Int.mul_nonneg h0 h0; omega
  obtain ⟨a, b, c⟩ := rt_spec n hn
  rcases Int.lt_trichotomy (rt n) r with h | h | h
  · have : (rt n + 1) * (rt n + 1) ≤ r * r := by
      rcases Int.lt_or_eq_of_le (show rt n + 1 ≤ r by omega) with k | k
      · have := sq_lt (by omega) k; omega
      · rw [k]; exact Int.le_refl _
    omega
  · exact h
  · have : (r + 1) * (r + 1) ≤ rt n * rt n := by
      rcases Int.lt_or_eq_of_le (show r + 1 ≤ rt n by omega) with k | k
      · have := sq_lt (by omega) k; omega
      · rw [k]; exact Int.le_refl _
    omega
theorem rt_le (n m : Int) (h0 : 0 ≤ n) (hm : 0 ≤ m) (h : n ≤ m * m) : rt n ≤ m := by
  obtain ⟨a, b, c⟩ := rt_spec n h0
  rcases Int.lt_or_le m (rt n) with k | k
  · have := sq_lt hm k; omega
  · exact k
/-- Newton's step from above: it is not below the root; and it is lower for as long as the root is not reached -/
theorem newton_ge (n x : Int) (hn : 0 ≤ n) (hx : 1 ≤ x) : rt n ≤ (x + n / x) / 2 := by
  obtain ⟨a, b, c⟩ := rt_spec n hn
  have h1 : 2 * rt n - x ≤ n / x := by
    rw [Int.le_ediv_iff_mul_le (by omega)]
    have h2 : 0 ≤ (rt n - x) * (rt n - x) := by
      rcases Int.le_total 0 (rt n - x) with k | k
      · exact Int.mul_nonneg k k
      · have := Int.mul_nonneg (show 0 ≤ -(rt n - x) by omega) (show 0 ≤ -(rt n - x) by omega)
        rw [Int.neg_mul_neg] at this; exact this
    have h3 : (2 * rt n - x) * x = rt n * rt n - (rt n - x) * (rt n - x) := by grind
    omega
  omega
theorem newton_lt (n x : Int) (hn : 0 ≤ n) (hx : rt n < x) : (x + n / x) / 2 < x := by
  obtain ⟨a, b, c⟩ := rt_spec n hn
  have h1 : n / x < x := by
    rw [Int.ediv_lt_iff_lt_mul (by omega)]
    have : (rt n + 1) * (rt n + 1) ≤ x * x := by
      rcases Int.lt_or_eq_of_le (show rt n + 1 ≤ x by omega) with k | k
      · have := sq_lt (by omega) k; omega
      · rw [k]; exact Int.le_refl _
    omega
  omega
theorem newton_end (n x : Int) (hn : 0 ≤ n) (hx : 1 ≤ x) (hr : rt n ≤ x) (h : x ≤ (x + n / x) / 2) : x = rt n := by
  rcases Int.lt_or_eq_of_le hr with k | k
  · have := newton_lt n x hn k; omega
  · exact k.symm
/-- Newton's first number -/
theorem newton_start (n : Int) (hn : 0 ≤ n) : n ≤ (2 : Int) ^ ((bl n.toNat + 1) / 2) * (2 : Int) ^ ((bl n.toNat + 1) / 2) := by
  have h1 := bl_lt n.toNat
  have h2 : 2 ^ bl n.toNat ≤ 2 ^ ((bl n.toNat + 1) / 2 + (bl n.toNat + 1) / 2) := Nat.pow_le_pow_right (by decide) (by omega)
  rw [← Int.pow_add]
  have h3 : n.toNat < 2 ^ ((bl n.toNat + 1) / 2 + (bl n.toNat + 1) / 2) := Nat.lt_of_lt_of_le h1 h2
  have h4 : ((n.toNat : Nat) : Int) < ((2 ^ ((bl n.toNat + 1) / 2 + (bl n.toNat + 1) / 2) : Nat) : Int) := by exact_mod_cast h3
  rw [Int.natCast_pow] at h4
  simp only [Int.cast_ofNat_Int] at h4
  omega
end Go.Proofs.Ytmmhbianajpdgaa
