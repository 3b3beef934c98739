/- The ring of a disc, its table: what the chapter says of its numbers, for all radii. -/
import Derived.Test.YthgmpjljlpacgaaQa
namespace Go.Proofs.Ythgmpjljlpacgaa
open Go.RowKit
namespace V
def allB (P : Nat → Bool) : Nat → Nat → Bool
  | 0, k => P k
  | n + 1, k => allB P n (2 * k) && allB P n (2 * k + 1)
theorem allB_spec (P : Nat → Bool) (n : Nat) : ∀ k, allB P n k = true → ∀ j, k * 2 ^ n ≤ j → j < (k + 1) * 2 ^ n → P j = true := by
  induction n with
  | zero => intro k h j h1 h2; rw [show j = k by omega]; exact h
  | succ n ih =>
    intro k h j h1 h2
    rw [allB, Bool.and_eq_true] at h
    have e : 2 ^ (n + 1) = 2 * 2 ^ n := by rw [Nat.pow_succ]; omega
    have e1 : k * 2 ^ (n + 1) = 2 * k * 2 ^ n := by rw [e, ← Nat.mul_assoc, Nat.mul_comm k 2]
    have e2 : (k + 1) * 2 ^ (n + 1) = (2 * k + 1 + 1) * 2 ^ n := by rw [e, ← Nat.mul_assoc, Nat.mul_comm (k + 1) 2]; rfl
    by_cases hj : j < (2 * k + 1) * 2 ^ n
    · exact ih _ h.1 j (by omega) hj
    · exact ih _ h.2 j (by omega) (by omega)
def chk4 (r a b c near inner : Nat) : Bool :=
  Nat.ble (a * a + b * b) (r * r) && (Nat.ble (c * c + c * c) (r * r) && (Nat.ble (inner * inner) (a * a + b * b) && (Nat.ble (inner * inner) (c * c + c * c) && (Nat.ble a r && (Nat.ble c a && (Nat.ble b c &&
  (Nat.ble near 0 || (Nat.ble 1 (r * b) && (Nat.ble (b * c + 1) (a * c) && (Nat.ble (near * near * ((r - a) * (r - a) + b * b)) (r * b * (r * b)) && Nat.ble (near * near * ((a - c) * (a - c) + (c - b) * (c - b))) ((a * c - b * c) * (a * c - b * c))))))))))))
def chk (k : Nat) : Bool := chk4 (k + 1) ((k + 1) * 3784 / 4096) ((k + 1) * 1567 / 4096) ((k + 1) * 2896 / 4096) (15 * (k + 1) / 16 - 8) (k + 1 - (k + 1) / 8192 - 3)
theorem chk_all : allB chk 16 0 = true := by kernel_rfl
def inR (r : Int) : Int := r - r / 8192 - 3
def neR (r : Int) : Int := 15 * r / 16 - 8
structure Tb (r p q s : Int) : Prop where
  n1 : p * p + q * q ≤ r * r
  n2 : s * s + s * s ≤ r * r
  i1 : 0 < inR r → inR r * inR r ≤ p * p + q * q
  i2 : 0 < inR r → inR r * inR r ≤ s * s + s * s
  c1 : 0 < neR r → 0 < r * q
  c2 : 0 < neR r → 0 < p * s - q * s
  d1 : 0 < neR r → neR r * neR r * ((r - p) * (r - p) + q * q) ≤ r * q * (r * q)
  d2 : 0 < neR r → neR r * neR r * ((p - s) * (p - s) + (s - q) * (s - q)) ≤ (p * s - q * s) * (p * s - q * s)
  p0 : 0 ≤ p
  pr : p ≤ r
  q0 : 0 ≤ q
  qr : q ≤ r
  s0 : 0 ≤ s
  sr : s ≤ r
set_option maxRecDepth 100000 in
theorem tb {r : Int} (h1 : 1 ≤ r) (h2 : r ≤ 65536) : Tb r (r * 3784 / 4096) (r * 1567 / 4096) (r * 2896 / 4096) := by
  obtain ⟨n, rfl⟩ : ∃ n : Nat, r = ((n + 1 : Nat) : Int) := ⟨(r - 1).toNat, by omega⟩
  have hn : n < 65536 := by omega
  have hc := allB_spec chk 16 0 chk_all n (by rw [Nat.zero_mul]; exact Nat.zero_le _) (by rw [Nat.zero_add, Nat.one_mul]; exact hn)
  unfold chk at hc
  have e1 : ((n + 1 : Nat) : Int) * 3784 / 4096 = (((n + 1) * 3784 / 4096 : Nat) : Int) := by omega
  have e2 : ((n + 1 : Nat) : Int) * 1567 / 4096 = (((n + 1) * 1567 / 4096 : Nat) : Int) := by omega
  have e3 : ((n + 1 : Nat) : Int) * 2896 / 4096 = (((n + 1) * 2896 / 4096 : Nat) : Int) := by omega
  have e4 : 0 < neR ((n + 1 : Nat) : Int) → neR ((n + 1 : Nat) : Int) = ((15 * (n + 1) / 16 - 8 : Nat) : Int) := by unfold neR; omega
  have e5 : 0 < inR ((n + 1 : Nat) : Int) → inR ((n + 1 : Nat) : Int) = ((n + 1 - (n + 1) / 8192 - 3 : Nat) : Int) := by unfold inR; omega
  rw [e1, e2, e3]
  generalize (n + 1) * 3784 / 4096 = p at *
  generalize (n + 1) * 1567 / 4096 = q at *
  generalize (n + 1) * 2896 / 4096 = s at *
  generalize 15 * (n + 1) / 16 - 8 = e at *
  generalize n + 1 - (n + 1) / 8192 - 3 = f at *
  generalize n + 1 = r at *
  unfold chk4 at hc
  simp only [Bool.and_eq_true, Bool.or_eq_true, Nat.ble_eq] at hc
  obtain ⟨k1, k2, k3, k4, k5, k6, k7, k8⟩ := hc
  have k8 : 0 < neR (r : Int) → 1 ≤ r * q ∧ q * s + 1 ≤ p * s ∧ e * e * ((r - p) * (r - p) + q * q) ≤ r * q * (r * q) ∧ e * e * ((p - s) * (p - s) + (s - q) * (s - q)) ≤ (p * s - q * s) * (p * s - q * s) := by
    intro h
    rcases k8 with k | k
    · have := e4 h; omega
    · exact k
  have s1 : (r : Int) - p = ((r - p : Nat) : Int) := by omega
  have s2 : (p : Int) - s = ((p - s : Nat) : Int) := by omega
  have s3 : (s : Int) - q = ((s - q : Nat) : Int) := by omega
  have s4 : 0 < neR (r : Int) → (p : Int) * s - q * s = ((p * s - q * s : Nat) : Int) := by
    intro h
    have := (k8 h).2.1
    rw [Int.natCast_sub (by omega)]; rfl
  constructor
  · exact_mod_cast k1
  · exact_mod_cast k2
  · intro h; rw [e5 h]; exact_mod_cast k3
  · intro h; rw [e5 h]; exact_mod_cast k4
  · intro h; have := (k8 h).1; exact_mod_cast this
  · intro h; rw [s4 h]; have := (k8 h).2.1; omega
  · intro h; rw [e4 h, s1]; exact_mod_cast (k8 h).2.2.1
  · intro h; rw [e4 h, s2, s3, s4 h]; exact_mod_cast (k8 h).2.2.2
  all_goals omega
end V
end Go.Proofs.Ythgmpjljlpacgaa
