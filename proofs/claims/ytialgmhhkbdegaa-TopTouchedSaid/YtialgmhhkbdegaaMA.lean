/- Plain mathematics of whole numbers for the layer turf: quotients that are rounded to the nearest, and what they are good for. No program is named. Conditions stand at each theorem. -/
import Init
namespace Go.Proofs.Ytialgmhhkbdegaa

def outB (x lo hi : Int) : Bool := decide (x < lo) || decide (hi < x)
/-- the quotient, rounded to the nearest, a half up -/
def DW (n d : Int) : Int := (2 * n + d) / (2 * d)
def DR (n d : Int) : Int := n - DW n d * d

theorem dw_unique (n d w r : Int) (hd : 1 ≤ d) (h : n = w * d + r) (h1 : -d ≤ 2 * r) (h2 : 2 * r < d) : DW n d = w ∧ DR n d = r := by
  have e : DW n d = w := by
    unfold DW
    have h3 : 2 * n + d = (2 * r + d) + w * (2 * d) := by rw [h]; grind
    rw [h3, Int.add_mul_ediv_right _ _ (by omega), Int.ediv_eq_zero_of_lt (by omega) (by omega)]; omega
  refine ⟨e, ?_⟩
  unfold DR; rw [e]; omega

theorem dw_spec (n d : Int) (hd : 1 ≤ d) : n = DW n d * d + DR n d ∧ -d ≤ 2 * DR n d ∧ 2 * DR n d < d := by
  have e : DW n d * (2 * d) + (2 * n + d) % (2 * d) = 2 * n + d := by
    unfold DW; rw [Int.mul_comm]; exact Int.mul_ediv_add_emod _ _
  have h1 := Int.emod_nonneg (2 * n + d) (show 2 * d ≠ 0 by omega)
  have h2 := Int.emod_lt_of_pos (2 * n + d) (show 0 < 2 * d by omega)
  have e2 : DW n d * (2 * d) = 2 * (DW n d * d) := by grind
  unfold DR
  refine ⟨by omega, by omega, by omega⟩

theorem tm_bd (n d : Int) (hd : 1 ≤ d) : -d < n.tmod d ∧ n.tmod d < d := by
  have h2 := Int.tmod_lt_of_pos n (show 0 < d by omega)
  have h1 := Int.lt_tmod_of_pos n (show 0 < d by omega)
  exact ⟨by omega, h2⟩

theorem td_bd (n d B : Int) (hd : 1 ≤ d) (h1 : -B ≤ n) (h2 : n ≤ B) : -B ≤ n.tdiv d ∧ n.tdiv d ≤ B := by
  rcases Int.le_total 0 n with h | h
  · rw [Int.tdiv_eq_ediv_of_nonneg h]
    have a := Int.ediv_nonneg h (show 0 ≤ d by omega)
    have b := Int.ediv_le_self d h
    omega
  · have e : n.tdiv d = -((-n) / d) := by
      rw [← Int.tdiv_eq_ediv_of_nonneg (by omega), Int.neg_tdiv, Int.neg_neg]
    rw [e]
    have a := Int.ediv_nonneg (show 0 ≤ -n by omega) (show 0 ≤ d by omega)
    have b := Int.ediv_le_self d (show 0 ≤ -n by omega)
    omega

theorem dw_hi (n d : Int) (hd : 1 ≤ d) (h : d ≤ 2 * n.tmod d) : n.tdiv d + 1 = DW n d ∧ n.tmod d - d = DR n d := by
  have b := tm_bd n d hd
  have e := Int.mul_tdiv_add_tmod n d
  have u := dw_unique n d (n.tdiv d + 1) (n.tmod d - d) hd (by grind) (by omega) (by omega)
  exact ⟨u.1.symm, u.2.symm⟩
theorem dw_lo (n d : Int) (hd : 1 ≤ d) (h : 2 * n.tmod d < -d) : n.tdiv d - 1 = DW n d ∧ n.tmod d + d = DR n d := by
  have b := tm_bd n d hd
  have e := Int.mul_tdiv_add_tmod n d
  have u := dw_unique n d (n.tdiv d - 1) (n.tmod d + d) hd (by grind) (by omega) (by omega)
  exact ⟨u.1.symm, u.2.symm⟩
theorem dw_mid (n d : Int) (hd : 1 ≤ d) (h1 : 2 * n.tmod d < d) (h2 : -d ≤ 2 * n.tmod d) : n.tdiv d = DW n d ∧ n.tmod d = DR n d := by
  have b := tm_bd n d hd
  have e := Int.mul_tdiv_add_tmod n d
  have u := dw_unique n d (n.tdiv d) (n.tmod d) hd (by grind) (by omega) (by omega)
  exact ⟨u.1.symm, u.2.symm⟩

theorem dw_bd (n d B : Int) (hd : 1 ≤ d) (hB : 0 ≤ B) (h1 : -B ≤ n) (h2 : n ≤ B) : -B ≤ DW n d ∧ DW n d ≤ B := by
  unfold DW
  have k : 0 < 2 * d := by omega
  have hBd : B * 1 ≤ B * d := Int.mul_le_mul_of_nonneg_left hd hB
  have e1 : B * (2 * d) = 2 * (B * d) := by grind
  have e2 : -B * (2 * d) = -(2 * (B * d)) := by grind
  refine ⟨(Int.le_ediv_iff_mul_le k).2 (by omega), Int.le_of_lt_add_one ((Int.ediv_lt_iff_lt_mul k).2 ?_)⟩
  have e3 : (B + 1) * (2 * d) = 2 * (B * d) + 2 * d := by grind
  omega

/-- Divide's three results: in its range, or an error -/
def dvOk (n d : Int) : Bool := decide (-1152921504606846976 ≤ n ∧ n ≤ 1152921504606846976 ∧ 1 ≤ d ∧ d ≤ 1152921504606846976)
def DvW (n d : Int) : Int := if dvOk n d then DW n d else 0
def DvR (n d : Int) : Int := if dvOk n d then DR n d else 0
def DvE (n d : Int) : Int := if dvOk n d then 0 else 3
theorem dvOk_out (n d : Int) : dvOk n d = !(outB n (-1152921504606846976) 1152921504606846976 || outB d 1 1152921504606846976) := by
  unfold dvOk outB
  rw [Bool.eq_iff_iff]; simp; omega
theorem dv_err1 (n d : Int) (h : outB n (-1152921504606846976) 1152921504606846976 = true) : DvW n d = 0 ∧ DvR n d = 0 ∧ DvE n d = 3 := by
  have e : dvOk n d = false := by rw [dvOk_out, h]; rfl
  unfold DvW DvR DvE; rw [e]; exact ⟨rfl, rfl, rfl⟩
theorem dv_err2 (n d : Int) (h : outB d 1 1152921504606846976 = true) : DvW n d = 0 ∧ DvR n d = 0 ∧ DvE n d = 3 := by
  have e : dvOk n d = false := by rw [dvOk_out, h]; simp
  unfold DvW DvR DvE; rw [e]; exact ⟨rfl, rfl, rfl⟩
theorem dv_ok (n d : Int) (h1 : -1152921504606846976 ≤ n) (h2 : n ≤ 1152921504606846976) (h3 : 1 ≤ d) (h4 : d ≤ 1152921504606846976) : DvW n d = DW n d ∧ DvR n d = DR n d ∧ DvE n d = 0 := by
  have e : dvOk n d = true := by unfold dvOk; exact decide_eq_true ⟨h1, h2, h3, h4⟩
  unfold DvW DvR DvE; rw [e]; exact ⟨rfl, rfl, rfl⟩
theorem out_no {x lo hi : Int} (h : outB x lo hi = false) : lo ≤ x ∧ x ≤ hi := by
  unfold outB at h; simp at h; exact ⟨h.1, h.2⟩
end Go.Proofs.Ytialgmhhkbdegaa
/- Plain mathematics for the layer turf: lengths in bits, roots and Newton's steps. No program is named. -/
namespace Go.Proofs.Ytialgmhhkbdegaa

/-- how many bits a number has -/
def bl (n : Nat) : Nat := if n = 0 then 0 else Nat.log2 n + 1
theorem bl_lt (n : Nat) : n < 2 ^ bl n := by
  unfold bl; split
  · rename_i h; subst h; decide
  · exact Nat.lt_log2_self
theorem bl_le (n : Nat) (h : n ≠ 0) : 2 ^ (bl n - 1) ≤ n := by
  unfold bl; rw [if_neg h]; simpa using Nat.log2_self_le h
theorem bl_unique (n b : Nat) (h1 : n < 2 ^ b) (h2 : b = 0 ∨ 2 ^ (b - 1) ≤ n) : bl n = b := by
  have a := bl_lt n
  rcases h2 with h2 | h2
  · subst h2
    have : n = 0 := by simpa using h1
    subst this; rfl
  · have hn : n ≠ 0 := by
      intro e; subst e
      have := Nat.two_pow_pos (b - 1); omega
    have c := bl_le n hn
    have k1 : b - 1 < bl n := (Nat.pow_lt_pow_iff_right (a := 2) (by decide)).1 (Nat.lt_of_le_of_lt h2 a)
    have k2 : bl n - 1 < b := (Nat.pow_lt_pow_iff_right (a := 2) (by decide)).1 (Nat.lt_of_le_of_lt c h1)
    have hb : b ≠ 0 := by
      intro e; subst e
      have : n = 0 := by simpa using h1
      exact hn this
    have hbl : bl n ≠ 0 := by unfold bl; rw [if_neg hn]; omega
    omega
theorem bl_div (n k : Nat) (h : 2 ^ k ≤ n) : bl n = bl (n / 2 ^ k) + k := by
  have hp := Nat.two_pow_pos k
  have hq : n / 2 ^ k ≠ 0 := by
    have : 1 ≤ n / 2 ^ k := (Nat.le_div_iff_mul_le hp).2 (by omega)
    omega
  have a := bl_lt (n / 2 ^ k)
  have c := bl_le (n / 2 ^ k) hq
  have hb : bl (n / 2 ^ k) ≠ 0 := by unfold bl; rw [if_neg hq]; omega
  refine bl_unique n _ ?_ (.inr ?_)
  · rw [Nat.pow_add]
    exact (Nat.div_lt_iff_lt_mul hp).1 a
  · have e : bl (n / 2 ^ k) + k - 1 = (bl (n / 2 ^ k) - 1) + k := by omega
    rw [e, Nat.pow_add]
    exact (Nat.le_div_iff_mul_le hp).1 c
theorem bl_mono_le (n b : Nat) (h : n < 2 ^ b) : bl n ≤ b := by
  by_cases hn : n = 0
  · subst hn; exact Nat.zero_le _
  · have c := bl_le n hn
    have k2 : bl n - 1 < b := (Nat.pow_lt_pow_iff_right (a := 2) (by decide)).1 (Nat.lt_of_le_of_lt c h)
    omega

/-- the root of a number: the greatest whole number whose square is not greater -/
def isq : Nat → Nat
  | 0 => 0
  | n + 1 => if (isq n + 1) * (isq n + 1) ≤ n + 1 then isq n + 1 else isq n
theorem isq_spec : ∀ n, isq n * isq n ≤ n ∧ n < (isq n + 1) * (isq n + 1)
  | 0 => by decide
  | n + 1 => by
    obtain ⟨h1, h2⟩ := isq_spec n
    simp only [isq]
    split
    · rename_i h
      refine ⟨h, ?_⟩
      have : (isq n + 1 + 1) * (isq n + 1 + 1) = (isq n + 1) * (isq n + 1) + 2 * (isq n + 1) + 1 := by grind
      omega
    · exact ⟨by omega, by omega⟩
/-- the root, of whole numbers -/
def rt (n : Int) : Int := (isq n.toNat : Int)
theorem rt_spec (n : Int) (h : 0 ≤ n) : 0 ≤ rt n ∧ rt n * rt n ≤ n ∧ n < (rt n + 1) * (rt n + 1) := by
  obtain ⟨h1, h2⟩ := isq_spec n.toNat
  unfold rt
  refine ⟨by omega, ?_, ?_⟩
  · have : ((isq n.toNat * isq n.toNat : Nat) : Int) ≤ (n.toNat : Int) := by exact_mod_cast h1
    rw [Int.natCast_mul] at this; omega
  · have : (n.toNat : Int) < (((isq n.toNat + 1) * (isq n.toNat + 1) : Nat) : Int) := by exact_mod_cast h2
    rw [Int.natCast_mul] at this
    simp only [Int.natCast_add, Int.cast_ofNat_Int] at this
    omega
theorem sq_lt {a b : Int} (ha : 0 ≤ a) (h : a < b) : a * a < b * b := by
  have h1 : a * a ≤ a * b := Int.mul_le_mul_of_nonneg_left (by omega) ha
  have h2 : a * b < b * b := Int.mul_lt_mul_of_pos_right h (by omega)
  omega
theorem rt_unique (n r : Int) (h0 : 0 ≤ r) (h1 : r * r ≤ n) (h2 : n < (r + 1) * (r + 1)) : rt n = r := by
  have hn : 0 ≤ n := by have := Int.mul_nonneg h0 h0; omega
  obtain ⟨a, b, c⟩ := rt_spec n hn
  rcases Int.lt_trichotomy (rt n) r with h | h | h
  · have : (rt n + 1) * (rt n + 1) ≤ r * r := by
      rcases Int.lt_or_eq_of_le (show rt n + 1 ≤ r by omega) with k | k
      · have := sq_lt (by omega) k; omega
      · rw [k]; exact Int.le_refl _
    omega
  · exact h
  · have : (r + 1) * (r + 1) ≤ rt n * rt n := by
      rcases Int.lt_or_eq_of_le (show r + 1 ≤ rt n by omega) with k | k
      · have := sq_lt (by omega) k; omega
      · rw [k]; exact Int.le_refl _
    omega
theorem rt_le (n m : Int) (h0 : 0 ≤ n) (hm : 0 ≤ m) (h : n ≤ m * m) : rt n ≤ m := by
  obtain ⟨a, b, c⟩ := rt_spec n h0
  rcases Int.lt_or_le m (rt n) with k | k
  · have := sq_lt hm k; omega
  · exact k
/-- Newton's step from above: it is not below the root; and it is lower for as long as the root is not reached -/
theorem newton_ge (n x : Int) (hn : 0 ≤ n) (hx : 1 ≤ x) : rt n ≤ (x + n / x) / 2 := by
  obtain ⟨a, b, c⟩ := rt_spec n hn
  have h1 : 2 * rt n - x ≤ n / x := by
    rw [Int.le_ediv_iff_mul_le (by omega)]
    have h2 : 0 ≤ (rt n - x) * (rt n - x) := by
      rcases Int.le_total 0 (rt n - x) with k | k
      · exact Int.mul_nonneg k k
      · have := Int.mul_nonneg (show 0 ≤ -(rt n - x) by omega) (show 0 ≤ -(rt n - x) by omega)
        rw [Int.neg_mul_neg] at this; exact this
    have h3 : (2 * rt n - x) * x = rt n * rt n - (rt n - x) * (rt n - x) := by grind
    omega
  omega
theorem newton_lt (n x : Int) (hn : 0 ≤ n) (hx : rt n < x) : (x + n / x) / 2 < x := by
  obtain ⟨a, b, c⟩ := rt_spec n hn
  have h1 : n / x < x := by
    rw [Int.ediv_lt_iff_lt_mul (by omega)]
    have : (rt n + 1) * (rt n + 1) ≤ x * x := by
      rcases Int.lt_or_eq_of_le (show rt n + 1 ≤ x by omega) with k | k
      · have := sq_lt (by omega) k; omega
      · rw [k]; exact Int.le_refl _
    omega
  omega
theorem newton_end (n x : Int) (hn : 0 ≤ n) (_hx : 1 ≤ x) (hr : rt n ≤ x) (h : x ≤ (x + n / x) / 2) : x = rt n := by
  rcases Int.lt_or_eq_of_le hr with k | k
  · have := newton_lt n x hn k; omega
  · exact k.symm
/-- Newton's first number -/
theorem newton_start (n : Int) (hn : 0 ≤ n) : n ≤ (2 : Int) ^ ((bl n.toNat + 1) / 2) * (2 : Int) ^ ((bl n.toNat + 1) / 2) := by
  have h1 := bl_lt n.toNat
  have h2 : 2 ^ bl n.toNat ≤ 2 ^ ((bl n.toNat + 1) / 2 + (bl n.toNat + 1) / 2) := Nat.pow_le_pow_right (by decide) (by omega)
  rw [← Int.pow_add]
  have h3 : n.toNat < 2 ^ ((bl n.toNat + 1) / 2 + (bl n.toNat + 1) / 2) := Nat.lt_of_lt_of_le h1 h2
  have h4 : ((n.toNat : Nat) : Int) < ((2 ^ ((bl n.toNat + 1) / 2 + (bl n.toNat + 1) / 2) : Nat) : Int) := by exact_mod_cast h3
  rw [Int.natCast_pow] at h4
  simp only [Int.cast_ofNat_Int] at h4
  omega
end Go.Proofs.Ytialgmhhkbdegaa
/- Plain mathematics of two places that move in equal parts: when they are first in contact. No program is named. -/
namespace Go.Proofs.Ytialgmhhkbdegaa

theorem mul_bd {a b A B : Int} (h1 : -A ≤ a) (h2 : a ≤ A) (h3 : -B ≤ b) (h4 : b ≤ B) : -(A * B) ≤ a * b ∧ a * b ≤ A * B := by
  have hA : 0 ≤ A := by omega
  have hB : 0 ≤ B := by omega
  have p1 : 0 ≤ (A - a) * (B - b) := Int.mul_nonneg (by omega) (by omega)
  have p2 : 0 ≤ (A + a) * (B + b) := Int.mul_nonneg (by omega) (by omega)
  have p3 : 0 ≤ (A - a) * (B + b) := Int.mul_nonneg (by omega) (by omega)
  have p4 : 0 ≤ (A + a) * (B - b) := Int.mul_nonneg (by omega) (by omega)
  have e1 : (A - a) * (B - b) + (A + a) * (B + b) = 2 * (A * B) + 2 * (a * b) := by grind
  have e2 : (A - a) * (B + b) + (A + a) * (B - b) = 2 * (A * B) - 2 * (a * b) := by grind
  omega

/-- two places whose way is (x, y) are not farther apart than m -/
def hit (x y m : Int) : Bool := (!outB x (-m) m && !outB y (-m) m) && decide (x * x + y * y ≤ m * m)
/-- how many parts there are before the first contact, at most f -/
def fN (dx dy m : Int) : Nat → Int → Int → Nat
  | 0, _, _ => 0
  | f + 1, x, y => bif hit x y m then 0 else fN dx dy m f (x + dx) (y + dy) + 1
theorem fN_le (dx dy m : Int) : ∀ (f : Nat) (x y : Int), fN dx dy m f x y ≤ f
  | 0, _, _ => Nat.le_refl 0
  | f + 1, x, y => by
    simp only [fN]
    cases hit x y m with
    | true => simp
    | false => simp only [cond_false]; have := fN_le dx dy m f (x + dx) (y + dy); omega
theorem fN_hit {dx dy m : Int} {f : Nat} {x y : Int} (h : hit x y m = true) : fN dx dy m (f + 1) x y = 0 := by simp only [fN, h, cond_true]
theorem fN_miss {dx dy m : Int} {f : Nat} {x y : Int} (h : hit x y m = false) : fN dx dy m (f + 1) x y = fN dx dy m f (x + dx) (y + dy) + 1 := by simp only [fN, h, cond_false]
theorem hit_neg (x y m : Int) : hit (-x) (-y) m = hit x y m := by
  have e : ∀ z : Int, outB (-z) (-m) m = outB z (-m) m := by
    intro z
    unfold outB
    rw [Bool.eq_iff_iff]
    simp only [Bool.or_eq_true, decide_eq_true_eq]
    omega
  unfold hit
  rw [e, e, Int.neg_mul_neg, Int.neg_mul_neg]
theorem fN_neg (dx dy m : Int) : ∀ (f : Nat) (x y : Int), fN (-dx) (-dy) m f (-x) (-y) = fN dx dy m f x y
  | 0, _, _ => rfl
  | f + 1, x, y => by
    simp only [fN, hit_neg]
    have e1 : -x + -dx = -(x + dx) := by omega
    have e2 : -y + -dy = -(y + dy) := by omega
    rw [e1, e2, fN_neg dx dy m f]
end Go.Proofs.Ytialgmhhkbdegaa
/- Plain mathematics of places: squares of distances, and places at a length towards another one. No program is named. -/
namespace Go.Proofs.Ytialgmhhkbdegaa
def sq (ax ay bx bY : Int) : Int := (bx - ax) * (bx - ax) + (bY - ay) * (bY - ay)
theorem self_nn (x : Int) : 0 ≤ x * x := by
  rcases Int.le_total 0 x with h | h
  · exact Int.mul_nonneg h h
  · exact Int.mul_nonneg_of_nonpos_of_nonpos h h
theorem int_sq_self {x : Int} (h : x ≠ 0) : 1 ≤ x * x := by
  rcases Int.lt_or_gt_of_ne h with k | k
  · have := Int.mul_pos_of_neg_of_neg k k; omega
  · have := Int.mul_pos k k; omega
theorem sq_pos {px py qx qy : Int} (h : ¬ (px = qx ∧ py = qy)) : 1 ≤ sq px py qx qy := by
  have b3 := self_nn (qx - px)
  have b4 := self_nn (qy - py)
  unfold sq
  by_cases hx : px = qx
  · have hy : py ≠ qy := fun h' => h ⟨hx, h'⟩
    have := int_sq_self (x := qy - py) (by omega)
    omega
  · have := int_sq_self (x := qx - px) (by omega)
    omega

theorem sq_le_of_le {a b : Int} (h : 0 ≤ a) (k : a ≤ b) : a * a ≤ b * b := Int.mul_le_mul k k h (by omega)
theorem le_of_sq {a b : Int} (hb : 0 ≤ b) (h : a * a ≤ b * b) : a ≤ b := by
  rcases Int.lt_or_le b a with k | k
  · have h1 := Int.mul_lt_mul_of_pos_left k (show 0 < a by omega)
    have h2 := Int.mul_le_mul_of_nonneg_right (show b ≤ a by omega) hb
    omega
  · exact k
theorem abs_mul_le (a r d : Int) (h1 : -d ≤ 2 * r) (h2 : 2 * r ≤ d) : 2 * (a * r) ≤ d * max a (-a) ∧ -(d * max a (-a)) ≤ 2 * (a * r) := by
  rcases Int.le_total 0 a with h | h
  · have e : max a (-a) = a := by omega
    rw [e]
    have p1 := Int.mul_le_mul_of_nonneg_left h2 h
    have p2 := Int.mul_le_mul_of_nonneg_left h1 h
    have e1 : a * (2 * r) = 2 * (a * r) := by grind
    have e2 : a * -d = -(d * a) := by grind
    have e3 : a * d = d * a := by grind
    omega
  · have e : max a (-a) = -a := by omega
    rw [e]
    have p1 := Int.mul_le_mul_of_nonneg_left h2 (show 0 ≤ -a by omega)
    have p2 := Int.mul_le_mul_of_nonneg_left h1 (show 0 ≤ -a by omega)
    have e1 : -a * (2 * r) = -(2 * (a * r)) := by grind
    have e2 : -a * -d = -(d * -a) := by grind
    have e3 : -a * d = d * -a := by grind
    omega

/-- what the rounded parts of a way of length n are: as long as was asked for, but for 2 -/
theorem tow (X Y n d : Int) (hT1 : d * d ≤ 4096 * (X * X + Y * Y)) (hT2 : 4096 * (X * X + Y * Y) < (d + 1) * (d + 1)) (hn : 0 ≤ n) (hd4 : 4 * n ≤ d) (hd : 1 ≤ d) (hd8 : 8 ≤ d) :
    let U := DW (64 * n * X) d
    let V := DW (64 * n * Y) d
    U * U + V * V ≤ (n + 2) * (n + 2) ∧ (2 ≤ n → (n - 2) * (n - 2) ≤ U * U + V * V) ∧ (4 ≤ n → 0 < U * X + V * Y) := by
  intro U V
  obtain ⟨e1, l1, u1⟩ := dw_spec (64 * n * X) d hd
  obtain ⟨e2, l2, u2⟩ := dw_spec (64 * n * Y) d hd
  have hP : (64 * n * X) * (64 * n * X) + (64 * n * Y) * (64 * n * Y) = n * n * (4096 * (X * X + Y * Y)) := by grind
  have hdot : 64 * n * (U * X + V * Y) = U * (64 * n * X) + V * (64 * n * Y) := by grind
  show _ ∧ _ ∧ (4 ≤ n → 0 < U * X + V * Y)
  have hU : U = DW (64 * n * X) d := rfl
  have hV : V = DW (64 * n * Y) d := rfl
  rw [← hU] at e1
  rw [← hV] at e2
  clear_value U V
  generalize DR (64 * n * X) d = r1 at e1 l1 u1
  generalize DR (64 * n * Y) d = r2 at e2 l2 u2
  generalize U * X + V * Y = Q at hdot ⊢
  generalize 4096 * (X * X + Y * Y) = T at hT1 hT2 hP
  generalize 64 * n * X = a at *
  generalize 64 * n * Y = b at *
  clear hU hV
  have hnn := self_nn n
  have F1 : n * n * (d * d) ≤ a * a + b * b := by rw [hP]; exact Int.mul_le_mul_of_nonneg_left hT1 hnn
  have F2 : a * a + b * b ≤ n * n * ((d + 1) * (d + 1)) := by rw [hP]; exact Int.mul_le_mul_of_nonneg_left (by omega) hnn
  obtain ⟨s1, s2⟩ := abs_mul_le a r1 d l1 (by omega)
  obtain ⟨s3, s4⟩ := abs_mul_le b r2 d l2 (by omega)
  have ea : max a (-a) * max a (-a) = a * a := by
    rcases Int.le_total 0 a with h | h
    · rw [show max a (-a) = a by omega]
    · rw [show max a (-a) = -a by omega, Int.neg_mul_neg]
  have eb : max b (-b) * max b (-b) = b * b := by
    rcases Int.le_total 0 b with h | h
    · rw [show max b (-b) = b by omega]
    · rw [show max b (-b) = -b by omega, Int.neg_mul_neg]
  have pa : 0 ≤ max a (-a) := by omega
  have pb : 0 ≤ max b (-b) := by omega
  generalize max a (-a) = A at *
  generalize max b (-b) = B at *
  -- A + B is at most 3/2 n (d + 1)
  have hm : 2 * (A + B) ≤ 3 * (n * (d + 1)) := by
    have hnd : 0 ≤ n * (d + 1) := Int.mul_nonneg hn (by omega)
    refine le_of_sq (by omega) ?_
    have g1 := self_nn (A - B)
    have g2 : (A - B) * (A - B) = A * A + B * B - 2 * (A * B) := by grind
    have g3 : 2 * (A + B) * (2 * (A + B)) = 4 * (A * A) + 4 * (B * B) + 8 * (A * B) := by grind
    have g4 : 3 * (n * (d + 1)) * (3 * (n * (d + 1))) = 9 * (n * n * ((d + 1) * (d + 1))) := by grind
    have g5 : 0 ≤ n * n * ((d + 1) * (d + 1)) := Int.mul_nonneg hnn (self_nn _)
    omega
  have hm2 : 2 * (d * (A + B)) ≤ 3 * (n * (d * d)) + 3 * (n * d) := by
    have := Int.mul_le_mul_of_nonneg_left hm (show 0 ≤ d by omega)
    have g1 : d * (2 * (A + B)) = 2 * (d * (A + B)) := by grind
    have g2 : d * (3 * (n * (d + 1))) = 3 * (n * (d * d)) + 3 * (n * d) := by grind
    omega
  have hdAB : d * (A + B) = d * A + d * B := by grind
  have q1 : 4 * (r1 * r1) ≤ d * d := by
    have := mul_bd (a := 2 * r1) (b := 2 * r1) (A := d) (B := d) (by omega) (by omega) (by omega) (by omega)
    have g : 2 * r1 * (2 * r1) = 4 * (r1 * r1) := by grind
    omega
  have q2 : 4 * (r2 * r2) ≤ d * d := by
    have := mul_bd (a := 2 * r2) (b := 2 * r2) (A := d) (B := d) (by omega) (by omega) (by omega) (by omega)
    have g : 2 * r2 * (2 * r2) = 4 * (r2 * r2) := by grind
    omega
  have q3 := self_nn r1
  have q4 := self_nn r2
  have hD : d * d * (U * U + V * V) = (a * a + b * b) - 2 * (a * r1) - 2 * (b * r2) + (r1 * r1 + r2 * r2) := by
    have x1 : U * d = a - r1 := by omega
    have x2 : V * d = b - r2 := by omega
    have x3 : d * d * (U * U + V * V) = (U * d) * (U * d) + (V * d) * (V * d) := by grind
    rw [x3, x1, x2]; grind
  have hdd := int_sq_self (x := d) (by omega)
  have hnd : 0 ≤ n * d := Int.mul_nonneg hn (by omega)
  have hndd : n * d ≤ n * (d * d) := Int.mul_le_mul_of_nonneg_left (by
    have := Int.mul_le_mul_of_nonneg_left (show 1 ≤ d from hd) (show 0 ≤ d by omega); omega) hn
  have K1 : 4 * (n * n * d) ≤ n * (d * d) := by
    have := Int.mul_le_mul_of_nonneg_left hd4 hnd
    have g1 : n * d * (4 * n) = 4 * (n * n * d) := by grind
    have g2 : n * d * d = n * (d * d) := by grind
    omega
  have K2 : 4 * (n * n) ≤ n * d := by
    have := Int.mul_le_mul_of_nonneg_left hd4 hn
    have g1 : n * (4 * n) = 4 * (n * n) := by grind
    omega
  have X2 : n * n * ((d + 1) * (d + 1)) = n * n * (d * d) + 2 * (n * n * d) + n * n := by grind
  refine ⟨?_, fun h2 => ?_, fun h4 => ?_⟩
  · refine Int.le_of_mul_le_mul_left (a := d * d) ?_ (by omega)
    have g : d * d * ((n + 2) * (n + 2)) = n * n * (d * d) + 4 * (n * (d * d)) + 4 * (d * d) := by grind
    omega
  · refine Int.le_of_mul_le_mul_left (a := d * d) ?_ (by omega)
    have g : d * d * ((n - 2) * (n - 2)) = n * n * (d * d) - 4 * (n * (d * d)) + 4 * (d * d) := by grind
    have K4 : 2 * (d * d) ≤ n * (d * d) := Int.mul_le_mul_of_nonneg_right h2 (by omega)
    have K5 : 3 * (n * d) ≤ n * (d * d) := by
      have := Int.mul_le_mul_of_nonneg_left (show 3 ≤ d by omega) hnd
      have g1 : n * d * d = n * (d * d) := by grind
      omega
    omega
  · have hQ : d * (U * a + V * b) = (a * a + b * b) - a * r1 - b * r2 := by
      have x1 : U * d = a - r1 := by omega
      have x2 : V * d = b - r2 := by omega
      have x3 : d * (U * a + V * b) = (U * d) * a + (V * d) * b := by grind
      rw [x3, x1, x2]; grind
    have K6 : 4 * (n * (d * d)) ≤ n * n * (d * d) := by
      have := Int.mul_le_mul_of_nonneg_right h4 (show 0 ≤ n * (d * d) by omega)
      have g1 : n * (n * (d * d)) = n * n * (d * d) := by grind
      omega
    have K7 : 1 ≤ n * (d * d) := by
      have := Int.mul_le_mul_of_nonneg_right (show 1 ≤ n by omega) (show 0 ≤ d * d by omega)
      omega
    have hpos : 0 < d * (U * a + V * b) := by omega
    rcases Int.lt_or_le 0 Q with x | x
    · exact x
    · exfalso
      have y1 : 64 * n * Q ≤ 0 := Int.mul_nonpos_of_nonneg_of_nonpos (by omega) x
      have y2 : d * (U * a + V * b) ≤ 0 := Int.mul_nonpos_of_nonneg_of_nonpos (by omega) (by omega)
      omega
end Go.Proofs.Ytialgmhhkbdegaa
/- Plain mathematics of wide products: halves to the base 2^64, digits to the base 2^31, and how they compare. No program is named. -/
namespace Go.Proofs.Ytialgmhhkbdegaa

/-- the upper half of a product by the halves of its factors -/
theorem mul_hi (a b : Int) (ha : 0 ≤ a) (hb : 0 ≤ b) (ha2 : a < 18446744073709551616) (hb2 : b < 18446744073709551616) :
    let x1 := a / 4294967296
    let x0 := a % 4294967296
    let y1 := b / 4294967296
    let y0 := b % 4294967296
    let t := x1 * y0 + x0 * y0 / 4294967296
    let s := t % 4294967296 + x0 * y1
    x1 * y1 + t / 4294967296 + s / 4294967296 = a * b / 18446744073709551616 ∧
    (0 ≤ x1 * y1 ∧ 0 ≤ x0 * y0 ∧ 0 ≤ x1 * y0 ∧ 0 ≤ x0 * y1 ∧ x1 * y1 ≤ 18446744065119617025 ∧ x0 * y0 ≤ 18446744065119617025 ∧ x1 * y0 ≤ 18446744065119617025 ∧ x0 * y1 ≤ 18446744065119617025) ∧ (0 ≤ a * b / 18446744073709551616 ∧ a * b / 18446744073709551616 < 18446744073709551616) := by
  intro x1 x0 y1 y0 t s
  have e1 : a = 4294967296 * x1 + x0 := (Int.mul_ediv_add_emod a 4294967296).symm
  have e2 : b = 4294967296 * y1 + y0 := (Int.mul_ediv_add_emod b 4294967296).symm
  have r1 : 0 ≤ x0 ∧ x0 ≤ 4294967295 := by show 0 ≤ a % 4294967296 ∧ a % 4294967296 ≤ 4294967295; omega
  have r2 : 0 ≤ y0 ∧ y0 ≤ 4294967295 := by show 0 ≤ b % 4294967296 ∧ b % 4294967296 ≤ 4294967295; omega
  have r3 : 0 ≤ x1 ∧ x1 ≤ 4294967295 := by show 0 ≤ a / 4294967296 ∧ a / 4294967296 ≤ 4294967295; omega
  have r4 : 0 ≤ y1 ∧ y1 ≤ 4294967295 := by show 0 ≤ b / 4294967296 ∧ b / 4294967296 ≤ 4294967295; omega
  clear_value x1 x0 y1 y0
  have p1 := Int.mul_nonneg r3.1 r4.1
  have p2 := Int.mul_nonneg r1.1 r2.1
  have p3 := Int.mul_nonneg r3.1 r2.1
  have p4 := Int.mul_nonneg r1.1 r4.1
  have q1 := mul_bd (a := x1) (b := y1) (A := 4294967295) (B := 4294967295) (by omega) (by omega) (by omega) (by omega)
  have q2 := mul_bd (a := x0) (b := y0) (A := 4294967295) (B := 4294967295) (by omega) (by omega) (by omega) (by omega)
  have q3 := mul_bd (a := x1) (b := y0) (A := 4294967295) (B := 4294967295) (by omega) (by omega) (by omega) (by omega)
  have q4 := mul_bd (a := x0) (b := y1) (A := 4294967295) (B := 4294967295) (by omega) (by omega) (by omega) (by omega)
  have hab : a * b = 18446744073709551616 * (x1 * y1) + 4294967296 * (x1 * y0) + 4294967296 * (x0 * y1) + x0 * y0 := by rw [e1, e2]; grind
  refine ⟨?_, ⟨p1, p2, p3, p4, by omega, by omega, by omega, by omega⟩, ?_⟩
  · show x1 * y1 + (x1 * y0 + x0 * y0 / 4294967296) / 4294967296 + ((x1 * y0 + x0 * y0 / 4294967296) % 4294967296 + x0 * y1) / 4294967296 = a * b / 18446744073709551616
    rw [hab]
    generalize x1 * y1 = A
    generalize x0 * y0 = B
    generalize x1 * y0 = C
    generalize x0 * y1 = D
    omega
  · omega

/-- two numbers by halves compare as the numbers do -/
theorem sign_lt {a b : Int} (h : a < b) : (a - b).sign = -1 := Int.sign_eq_neg_one_of_neg (by omega)
theorem sign_gt {a b : Int} (h : b < a) : (a - b).sign = 1 := Int.sign_eq_one_of_pos (by omega)
theorem sign_eq {a b : Int} (h : a = b) : (a - b).sign = 0 := by rw [h, Int.sub_self]; rfl

/-- the digits of a product to the base 2^31, and the rest -/
theorem dig (a b : Int) (ha : 0 ≤ a) (hb : 0 ≤ b) (ha2 : a ≤ 4611686018427387904) (hb2 : b ≤ 4611686018427387904) :
    let x := a / 2147483648
    let y := a % 2147483648
    let u := b / 2147483648
    let v := b % 2147483648
    let mid := (x * v) % 2147483648 + (y * u) % 2147483648 + (y * v) / 2147483648
    let top := x * u + ((x * v) / 2147483648 + (y * u) / 2147483648 + mid / 2147483648)
    a * b = 4611686018427387904 * top + 2147483648 * (mid % 2147483648) + (y * v) % 2147483648 ∧
    (0 ≤ x * u ∧ x * u ≤ 4611686018427387904 ∧ 0 ≤ x * v ∧ x * v ≤ 4611686018427387904 ∧ 0 ≤ y * u ∧ y * u ≤ 4611686018427387904 ∧ 0 ≤ y * v ∧ y * v ≤ 4611686018427387904) ∧ (0 ≤ x ∧ 0 ≤ y ∧ 0 ≤ u ∧ 0 ≤ v) := by
  intro x y u v mid top
  have e1 : a = 2147483648 * x + y := (Int.mul_ediv_add_emod a 2147483648).symm
  have e2 : b = 2147483648 * u + v := (Int.mul_ediv_add_emod b 2147483648).symm
  have r1 : 0 ≤ x ∧ x ≤ 2147483648 := by show 0 ≤ a / 2147483648 ∧ a / 2147483648 ≤ 2147483648; omega
  have r2 : 0 ≤ y ∧ y ≤ 2147483647 := by show 0 ≤ a % 2147483648 ∧ a % 2147483648 ≤ 2147483647; omega
  have r3 : 0 ≤ u ∧ u ≤ 2147483648 := by show 0 ≤ b / 2147483648 ∧ b / 2147483648 ≤ 2147483648; omega
  have r4 : 0 ≤ v ∧ v ≤ 2147483647 := by show 0 ≤ b % 2147483648 ∧ b % 2147483648 ≤ 2147483647; omega
  clear_value x y u v
  have p1 := Int.mul_nonneg r1.1 r3.1
  have p2 := Int.mul_nonneg r1.1 r4.1
  have p3 := Int.mul_nonneg r2.1 r3.1
  have p4 := Int.mul_nonneg r2.1 r4.1
  have q1 := mul_bd (a := x) (b := u) (A := 2147483648) (B := 2147483648) (by omega) (by omega) (by omega) (by omega)
  have q2 := mul_bd (a := x) (b := v) (A := 2147483648) (B := 2147483648) (by omega) (by omega) (by omega) (by omega)
  have q3 := mul_bd (a := y) (b := u) (A := 2147483648) (B := 2147483648) (by omega) (by omega) (by omega) (by omega)
  have q4 := mul_bd (a := y) (b := v) (A := 2147483648) (B := 2147483648) (by omega) (by omega) (by omega) (by omega)
  have hab : a * b = 4611686018427387904 * (x * u) + 2147483648 * (x * v) + 2147483648 * (y * u) + y * v := by rw [e1, e2]; grind
  refine ⟨?_, ⟨p1, by omega, p2, by omega, p3, by omega, p4, by omega⟩, r1.1, r2.1, r3.1, r4.1⟩
  show a * b = 4611686018427387904 * (x * u + ((x * v) / 2147483648 + (y * u) / 2147483648 + ((x * v) % 2147483648 + (y * u) % 2147483648 + (y * v) / 2147483648) / 2147483648)) + 2147483648 * (((x * v) % 2147483648 + (y * u) % 2147483648 + (y * v) / 2147483648) % 2147483648) + (y * v) % 2147483648
  rw [hab]
  generalize x * u = A
  generalize x * v = B
  generalize y * u = C
  generalize y * v = D
  omega

def dMid (a b : Int) : Int := (a / 2147483648 * (b % 2147483648)) % 2147483648 + (a % 2147483648 * (b / 2147483648)) % 2147483648 + (a % 2147483648 * (b % 2147483648)) / 2147483648
def dTop (a b : Int) : Int := a / 2147483648 * (b / 2147483648) + ((a / 2147483648 * (b % 2147483648)) / 2147483648 + (a % 2147483648 * (b / 2147483648)) / 2147483648 + dMid a b / 2147483648)
def dLow (a b : Int) : Int := a % 2147483648 * (b % 2147483648)
theorem digits (a b : Int) (ha : 0 ≤ a) (hb : 0 ≤ b) (ha2 : a ≤ 4611686018427387904) (hb2 : b ≤ 4611686018427387904) :
    a * b = 4611686018427387904 * 2147483648 * (dTop a b / 2147483648) + 4611686018427387904 * (dTop a b % 2147483648) + 2147483648 * (dMid a b % 2147483648) + dLow a b % 2147483648 := by
  have h := (dig a b ha hb ha2 hb2).1
  have h' : a * b = 4611686018427387904 * dTop a b + 2147483648 * (dMid a b % 2147483648) + dLow a b % 2147483648 := h
  generalize a * b = p at *
  generalize dTop a b = t at *
  generalize dMid a b % 2147483648 = m at *
  generalize dLow a b % 2147483648 = l at *
  omega
end Go.Proofs.Ytialgmhhkbdegaa
