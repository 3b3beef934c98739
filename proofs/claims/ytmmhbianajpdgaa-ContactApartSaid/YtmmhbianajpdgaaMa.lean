/- Plain mathematics of whole numbers for the layer turf: quotients that are rounded to the nearest, and what they are good for. No program is named. Conditions stand at each theorem. -/
import Init
namespace Go.Proofs.Ytmmhbianajpdgaa

def outB (x lo hi : Int) : Bool := decide (x < lo) || decide (hi < x)
/-- the quotient, rounded to the nearest, a half up -/
def DW (n d : Int) : Int := (2 * n + d) / (2 * d)
def DR (n d : Int) : Int := n - DW n d * d

theorem dw_unique (n d w r : Int) (hd : 1 ≤ d) (h : n = w * d + r) (h1 : -d ≤ 2 * r) (h2 : 2 * r < d) : DW n d = w ∧ DR n d = r := by
  have e : DW n d = w := by
    unfold DW
    have h3 : 2 * n + d = (2 * r + d) + w * (2 * d) := by rw [h]; grind
    rw [h3, Int.add_mul_ediv_right _ _ (by omega), Int.ediv_eq_zero_of_lt (by omega) (by omega)]; omega
  refine ⟨e, ?_⟩
  unfold DR; rw [e]; omega

theorem dw_spec (n d : Int) (hd : 1 ≤ d) : n = DW n d * d + DR n d ∧ -d ≤ 2 * DR n d ∧ 2 * DR n d < d := by
  have e : DW n d * (2 * d) + (2 * n + d) % (2 * d) = 2 * n + d := by
    unfold DW; rw [Int.mul_comm]; exact Int.mul_ediv_add_emod _ _
  have h1 := Int.emod_nonneg (2 * n + d) (show 2 * d ≠ 0 by omega)
  have h2 := Int.emod_lt_of_pos (2 * n + d) (show 0 < 2 * d by omega)
  have e2 : DW n d * (2 * d) = 2 * (DW n d * d) := by grind
  unfold DR
  refine ⟨by omega, by omega, by omega⟩

theorem tm_bd (n d : Int) (hd : 1 ≤ d) : -d < n.tmod d ∧ n.tmod d < d := by
  have h2 := Int.tmod_lt_of_pos n (show 0 < d by omega)
  have h1 := Int.lt_tmod_of_pos n (show 0 < d by omega)
  exact ⟨by omega, h2⟩

theorem td_bd (n d B : Int) (hd : 1 ≤ d) (h1 : -B ≤ n) (h2 : n ≤ B) : -B ≤ n.tdiv d ∧ n.tdiv d ≤ B := by
  rcases Int.le_total 0 n with h | h
  · rw [Int.tdiv_eq_ediv_of_nonneg h]
    have a := Int.ediv_nonneg h (show 0 ≤ d by omega)
    have b := Int.ediv_le_self d h
    omega
  · have e : n.tdiv d = -((-n) / d) := by
      rw [← Int.tdiv_eq_ediv_of_nonneg (by omega), Int.neg_tdiv, Int.neg_neg]
    rw [e]
    have a := Int.ediv_nonneg (show 0 ≤ -n by omega) (show 0 ≤ d by omega)
    have b := Int.ediv_le_self d (show 0 ≤ -n by omega)
    omega

theorem dw_hi (n d : Int) (hd : 1 ≤ d) (h : d ≤ 2 * n.tmod d) : n.tdiv d + 1 = DW n d ∧ n.tmod d - d = DR n d := by
  have b := tm_bd n d hd
  have e := Int.mul_tdiv_add_tmod n d
  have u := dw_unique n d (n.tdiv d + 1) (n.tmod d - d) hd (by grind) (by omega) (by omega)
  exact ⟨u.1.symm, u.2.symm⟩
theorem dw_lo (n d : Int) (hd : 1 ≤ d) (h : 2 * n.tmod d < -d) : n.tdiv d - 1 = DW n d ∧ n.tmod d + d = DR n d := by
  have b := tm_bd n d hd
  have e := Int.mul_tdiv_add_tmod n d
  have u := dw_unique n d (n.tdiv d - 1) (n.tmod d + d) hd (by grind) (by omega) (by omega)
  exact ⟨u.1.symm, u.2.symm⟩
theorem dw_mid (n d : Int) (hd : 1 ≤ d) (h1 : 2 * n.tmod d < d) (h2 : -d ≤ 2 * n.tmod d) : n.tdiv d = DW n d ∧ n.tmod d = DR n d := by
  have b := tm_bd n d hd
  have e := Int.mul_tdiv_add_tmod n d
  have u := dw_unique n d (n.tdiv d) (n.tmod d) hd (by grind) (by omega) (by omega)
  exact ⟨u.1.symm, u.2.symm⟩

theorem dw_bd (n d B : Int) (hd : 1 ≤ d) (hB : 0 ≤ B) (h1 : -B ≤ n) (h2 : n ≤ B) : -B ≤ DW n d ∧ DW n d ≤ B := by
  unfold DW
  have k : 0 < 2 * d := by omega
  have hBd : B * 1 ≤ B * d := Int.mul_le_mul_of_nonneg_left hd hB
  have e1 : B * (2 * d) = 2 * (B * d) := by grind
  have e2 : -B * (2 * d) = -(2 * (B * d)) := by grind
  refine ⟨(Int.le_ediv_iff_mul_le k).2 (by omega), Int.le_of_lt_add_one ((Int.ediv_lt_iff_lt_mul k).2 ?_)⟩
  have e3 : (B + 1) * (2 * d) = 2 * (B * d) + 2 * d := by grind
  omega

/-- Divide's three results: in its range, or an error -/
def dvOk (n d : Int) : Bool := decide (-1152921504606846976 ≤ n ∧ n ≤ 1152921504606846976 ∧ 1 ≤ d ∧ d ≤ 1152921504606846976)
def DvW (n d : Int) : Int := if dvOk n d then DW n d else 0
def DvR (n d : Int) : Int := if dvOk n d then DR n d else 0
def DvE (n d : Int) : Int := if dvOk n d then 0 else 3
theorem dvOk_out (n d : Int) : dvOk n d = !(outB n (-1152921504606846976) 1152921504606846976 || outB d 1 1152921504606846976) := by
  unfold dvOk outB
  rw [Bool.eq_iff_iff]; simp; omega
theorem dv_err1 (n d : Int) (h : outB n (-1152921504606846976) 1152921504606846976 = true) : DvW n d = 0 ∧ DvR n d = 0 ∧ DvE n d = 3 := by
  have e : dvOk n d = false := by rw [dvOk_out, h]; rfl
  unfold DvW DvR DvE; rw [e]; exact ⟨rfl, rfl, rfl⟩
theorem dv_err2 (n d : Int) (h : outB d 1 1152921504606846976 = true) : DvW n d = 0 ∧ DvR n d = 0 ∧ DvE n d = 3 := by
  have e : dvOk n d = false := by rw [dvOk_out, h]; simp
  unfold DvW DvR DvE; rw [e]; exact ⟨rfl, rfl, rfl⟩
theorem dv_ok (n d : Int) (h1 : -1152921504606846976 ≤ n) (h2 : n ≤ 1152921504606846976) (h3 : 1 ≤ d) (h4 : d ≤ 1152921504606846976) : DvW n d = DW n d ∧ DvR n d = DR n d ∧ DvE n d = 0 := by
  have e : dvOk n d = true := by unfold dvOk; exact decide_eq_true ⟨h1, h2, h3, h4⟩
  unfold DvW DvR DvE; rw [e]; exact ⟨rfl, rfl, rfl⟩
theorem out_no {x lo hi : Int} (h : outB x lo hi = false) : lo ≤ x ∧ x ≤ hi := by
  unfold outB at h; simp at h; exact ⟨h.1, h.2⟩
end Go.Proofs.Ytmmhbianajpdgaa
