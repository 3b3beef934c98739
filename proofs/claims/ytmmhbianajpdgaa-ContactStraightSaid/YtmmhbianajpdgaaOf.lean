/- The law ContactStraight: for all arguments it returns true. -/
import Derived.Test.YtmmhbianajpdgaaNc
import Derived.Test.YtmmhbianajpdgaaOb
namespace Go.Proofs.Ytmmhbianajpdgaa
open Go.RowKit
namespace V
theorem is_ContactStraight : FnIs Try.prog (6, Try.f6) := ⟨Try.func6, by kernel_rfl, by kernel_rfl⟩
noncomputable def X_contactStraight : Ctx := ctx Try.prog plO [(6, Try.f6)]
theorem X_contactStraight_ok : CtxOk X_contactStraight := ctx_ok mixed puO (fns_cons is_ContactStraight fns_nil)
def T_straight (p re : Int) (u : RBnc) : Tree Unit :=
  bif p == 0 then bif u.2.2.1 == 10 then .leaf () else .fail else
  bif u.2.2.1 == 0 then bif u.1.2.1.2.1 == 0 then bif u.2.1.2.1.2.1 == 0 then bif W64 (u.1.2.1.1 + u.2.1.2.1.1) == p then bif decide (u.1.2.1.1 ≥ 0) then
  bif decide (W64 (2000 * W64 (u.1.2.1.1 - 24)) ≤ W64 (W64 (1000 - re) * p)) then .leaf () else .fail else .fail else .fail else .fail else .fail else .fail
theorem straight_num {M R P E A x : Int} (m1 : 400 ≤ M) (r1 : 1000 ≤ R) (r2 : R ≤ 4096) (p1 : 0 ≤ P) (e1 : 0 ≤ E) (e2 : E ≤ 950)
    (hA1 : 2 * R * (2 * R) * A ≤ M * P * (2 * R)) (hA2 : M * P * (2 * R) < 2 * R * (2 * R) * A + 2 * R * (2 * R))
    (hx1 : 1000 * (M + M) * x ≤ (1000 + E) * (2 * R) * A) (hx2 : (1000 + E) * (2 * R) * A < 1000 * (M + M) * x + 1000 * (M + M)) : x ≤ P ∧ (1000 + E) * P ≤ 2000 * x + 48000 := by
  have a1 : 2 * R * A ≤ M * P := Int.le_of_mul_le_mul_left (a := 2 * R) (by grind) (by omega)
  have a2 : M * P < 2 * R * A + 2 * R := Int.lt_of_mul_lt_mul_left (a := 2 * R) (by grind) (by omega)
  have mp : 0 ≤ M * P := Int.mul_nonneg (by omega) p1
  have b1 : (1000 + E) * (2 * R * A) ≤ (1000 + E) * (M * P) := Int.mul_le_mul_of_nonneg_left a1 (by omega)
  have b2 : (1000 + E) * (M * P) ≤ 1950 * (M * P) := Int.mul_le_mul_of_nonneg_right (by omega) mp
  have e3 : (1000 + E) * (2 * R) * A = (1000 + E) * (2 * R * A) := by grind
  have c1 : M * (2000 * x) ≤ M * (1950 * P) := by
    have : M * (2000 * x) = 1000 * (M + M) * x := by grind
    have : M * (1950 * P) = 1950 * (M * P) := by grind
    omega
  have c2 : 2000 * x ≤ 1950 * P := Int.le_of_mul_le_mul_left c1 (by omega)
  have d1 : (1000 + E) * (M * P) ≤ (1000 + E) * (2 * R * A + 2 * R) := Int.mul_le_mul_of_nonneg_left (by omega) (by omega)
  have ⟨_, d2⟩ := mul_bd (a := 1000 + E) (b := 2 * R) (A := 1950) (B := 8192) (by omega) (by omega) (by omega) (by omega)
  have d3 : (1000 + E) * (2 * R * A + 2 * R) = (1000 + E) * (2 * R * A) + (1000 + E) * (2 * R) := Int.mul_add ..
  have d4 : M * ((1000 + E) * P) < M * (2000 * x + 41936) := by
    have f1 : M * ((1000 + E) * P) = (1000 + E) * (M * P) := by grind
    have f2 : M * (2000 * x + 41936) = 1000 * (M + M) * x + 1000 * (M + M) + 39936 * M := by grind
    omega
  have d5 := Int.lt_of_mul_lt_mul_left d4 (by omega)
  exact ⟨by omega, by omega⟩
def sA (M R P : Int) : Bm := ⟨M, R, 0, 0, P, 0, 0, 0⟩
def sB (M R q : Int) : Bm := ⟨M, R, q, 0, 0, 0, 0, 0⟩
theorem straight_ok {M R P E : Int} (m1 : 400 ≤ M) (m2 : M ≤ 500) (r1 : 1000 ≤ R) (r2 : R ≤ 4096) (p1 : 0 ≤ P) (p2 : P ≤ 16777216) (e1 : 0 ≤ E) (e2 : E ≤ 950) :
    (T_straight P E (BounceR (sA M R P) (sB M R (2 * R)) E 0)).sat (fun _ => True) := by
  have fa : (sA M R P).Fit := ⟨m1, m2, r1, r2, by show fpt 0 0 = true; decide, by simp [sA], by simp [sA], by simp [sA], by simp [sA], by simp only [sA]; omega, by simp only [sA]; omega, by simp [sA], by simp [sA], by simp only [sA]; omega, by simp only [sA]; omega, by simp only [sA]; omega, by simp only [sA]; omega⟩
  have fb : (sB M R (2 * R)).Fit := ⟨m1, m2, r1, r2, by show fpt (2 * R) 0 = true; unfold fpt; exact decide_eq_true (by omega), by simp only [sB]; omega, by simp only [sB]; omega, by simp [sB], by simp [sB], by simp [sB], by simp [sB], by simp [sB], by simp [sB], by simp only [sB]; omega, by simp only [sB]; omega, by simp only [sB]; omega, by simp only [sB]; omega⟩
  have hb : bncB E 0 = true := by unfold bncB outB; simp; omega
  have rr := sq_nn R
  have cl : closeB (sA M R P).px (sA M R P).py (sB M R (2 * R)).px (sB M R (2 * R)).py ((sA M R P).r + (sB M R (2 * R)).r) = true := by
    unfold closeB sq sA sB
    have f1 : (2 * R - 0) * (2 * R - 0) + (0 - 0) * (0 - 0) = 4 * (R * R) := by grind
    have f2 : (R + R) * (R + R) = 4 * (R * R) := by grind
    simp only
    rw [f1, f2]
    exact decide_eq_true (by omega)
  have en : nX (sA M R P) (sB M R (2 * R)) = 2 * R := Int.sub_zero _
  have em : nY (sA M R P) (sB M R (2 * R)) = 0 := rfl
  have eu : uX (sA M R P) (sB M R (2 * R)) = M * P := by show M * P - M * 0 = _; omega
  have ev : uY (sA M R P) (sB M R (2 * R)) = 0 := by show M * 0 - M * 0 = _; omega
  have eN : uN (sA M R P) (sB M R (2 * R)) = M * P * (2 * R) := by unfold uN; rw [en, em, eu, ev]; omega
  have mp : 0 ≤ M * P := Int.mul_nonneg (by omega) p1
  have key : ∀ x y, KF (sA M R P) (sB M R (2 * R)) E 0 x y → y = 0 ∧ 0 ≤ x ∧ x ≤ P ∧ (1000 + E) * P ≤ 2000 * x + 48000 := by
    intro x y K
    have kb := K.kb
    have hx := K.hx; have hy := K.hy
    unfold KP at hx hy
    rw [en, em, eu, ev] at kb hx hy
    rw [show (sA M R P).m + (sB M R (2 * R)).m = M + M from rfl] at kb hx hy
    have hQ : pQ (2 * R) 0 = 2 * R * (2 * R) := by unfold pQ; omega
    have q0 : 0 < 2 * R * (2 * R) := Int.mul_pos (by omega) (by omega)
    have hD : pD (2 * R) 0 (M * P) 0 = M * P * (2 * R) := by unfold pD; omega
    have hA : pA (2 * R) 0 (M * P) 0 = (M * P * (2 * R)).tdiv (2 * R * (2 * R)) := by unfold pA; rw [hQ, hD]
    have d0 : 0 ≤ M * P * (2 * R) := Int.mul_nonneg mp (by omega)
    have A1 := Int.mul_tdiv_self_le (k := 2 * R * (2 * R)) d0
    have A2 := Int.lt_mul_tdiv_self_add (x := M * P * (2 * R)) q0
    have A0 : 0 ≤ (M * P * (2 * R)).tdiv (2 * R * (2 * R)) := Int.tdiv_nonneg d0 (by omega)
    rw [← hA] at A0 A1 A2
    have hX : pX (2 * R) 0 (M * P) 0 E 0 (M + M) = ((1000 + E) * (2 * R) * pA (2 * R) 0 (M * P) 0).tdiv (1000 * (M + M)) := by unfold pX; congr 1; omega
    have hY : pY (2 * R) 0 (M * P) 0 E 0 (M + M) = 0 := by
      unfold pY
      rw [show (1000 + E) * 0 * pA (2 * R) 0 (M * P) 0 + 0 * (2 * R) * pC (2 * R) 0 (M * P) 0 = 0 by rw [Int.mul_zero, Int.zero_mul, Int.zero_mul, Int.zero_mul]; rfl]
      exact Int.zero_tdiv _
    have n0 : 0 ≤ (1000 + E) * (2 * R) * pA (2 * R) 0 (M * P) 0 := Int.mul_nonneg (Int.mul_nonneg (by omega) (by omega)) A0
    have B1 := Int.mul_tdiv_self_le (k := 1000 * (M + M)) n0
    have B2 := Int.lt_mul_tdiv_self_add (x := (1000 + E) * (2 * R) * pA (2 * R) 0 (M * P) 0) (k := 1000 * (M + M)) (by omega)
    have B0 : 0 ≤ ((1000 + E) * (2 * R) * pA (2 * R) 0 (M * P) 0).tdiv (1000 * (M + M)) := Int.tdiv_nonneg n0 (by omega)
    rw [← hX] at B0 B1 B2
    have ⟨g1, g2⟩ := straight_num m1 r1 r2 p1 e1 e2 A1 A2 B1 B2
    have st := kK_stay kb (by
      rw [hY]
      generalize pX (2 * R) 0 (M * P) 0 E 0 (M + M) = x at *
      have s1 : M * x * x ≤ M * x * P := Int.mul_le_mul_of_nonneg_left g1 (Int.mul_nonneg (by omega) B0)
      have s2 : (M + M) * (x * x + 0 * 0) = 2 * (M * x * x) := by grind
      have s3 : 2 * (M * P * x + 0 * 0) = 2 * (M * x * P) := by grind
      omega)
    rw [st] at hx hy
    rw [hY] at hy
    subst hx hy
    exact ⟨rfl, B0, g1, g2⟩
  refine bnc_cases (P := fun _ u => (T_straight P E u).sat (fun _ => True)) (fun h => ?_) (fun _ _ _ h => ?_) (fun _ _ _ _ hd => ?_) (fun x y K h => ?_) fun x y K _ _ => ?_
  · rw [fit_ok fa, fit_ok fb, hb] at h; exact absurd h (by decide)
  · rw [cl] at h; exact absurd h (by decide)
  · rw [eN] at hd
    rcases Int.lt_or_le 0 P with k | k
    · have := Int.mul_pos (Int.mul_pos (show 0 < M by omega) k) (show 0 < 2 * R by omega)
      omega
    · have : P = 0 := by omega
      subst this
      trivial
  · obtain ⟨rfl, h0, h1, _⟩ := key x y K
    rw [show strongB ((sA M R P).mx - x) ((sA M R P).my - 0) = true by show strongB (P - x) (0 - 0) = true; unfold strongB outB; simp; omega,
      show strongB ((sB M R (2 * R)).mx + x) ((sB M R (2 * R)).my + 0) = true by show strongB (0 + x) (0 + 0) = true; unfold strongB outB; simp; omega] at h
    exact absurd h (by decide)
  · obtain ⟨rfl, h0, h1, h2⟩ := key x y K
    have hp : (P == 0) = false := by
      have := K.pos
      rw [eN] at this
      rw [beq_eq_false_iff_ne]
      intro h
      subst h
      rw [Int.mul_zero, Int.zero_mul] at this
      omega
    unfold T_straight
    rw [hp]
    show Tree.sat _ (bif (0 : Int) == 0 then bif (0 - 0 : Int) == 0 then bif (0 + 0 : Int) == 0 then bif W64 (P - x + (0 + x)) == P then bif decide (P - x ≥ 0) then bif decide (W64 (2000 * W64 (P - x - 24)) ≤ W64 (W64 (1000 - E) * P)) then .leaf () else .fail else .fail else .fail else .fail else .fail else .fail)
    have ⟨i1, i2⟩ := mul_bd (a := 1000 - E) (b := P) (A := 1000) (B := 16777216) (by omega) (by omega) (by omega) (by omega)
    have i3 : (1000 - E) * P = 2000 * P - (1000 + E) * P := by grind
    rw [show P - x + (0 + x) = P by omega, show W64 P = P from wrap_id (by omega) (by omega), show W64 (P - x - 24) = _ from wrap_id (by omega) (by omega), show W64 (2000 * (P - x - 24)) = _ from wrap_id (by omega) (by omega), show W64 (1000 - E) = _ from wrap_id (by omega) (by omega),
      show W64 ((1000 - E) * P) = _ from wrap_id (by omega) (by omega), decide_eq_true (show P - x ≥ 0 by omega), decide_eq_true (show 2000 * (P - x - 24) ≤ (1000 - E) * P by omega)]
    simp only [beq_self_eq_true, cond_true]
    trivial
abbrev cs_contactStraight : List TC := [.i .u16, .i .u16, .i .u32, .i .u16]
def TZ_straight (m r k re : Int) : Tree Unit :=
  T_straight ((W64 k).tmod 16777217) ((W64 re).tmod 951) (BounceR (sA (W64 (400 + (W64 m).tmod 101)) (W64 (1000 + (W64 r).tmod 3097)) ((W64 k).tmod 16777217)) (sB (W64 (400 + (W64 m).tmod 101)) (W64 (1000 + (W64 r).tmod 3097)) (W64 (2 * W64 (1000 + (W64 r).tmod 3097)))) ((W64 re).tmod 951) 0)
theorem tmod_rng {x n : Int} (h : 0 ≤ x) (hn : 0 < n) : 0 ≤ x.tmod n ∧ x.tmod n < n := ⟨Int.tmod_nonneg _ h, Int.tmod_lt_of_pos _ hn⟩
theorem TZ_straight_ok {m r k re : Int} (h1 : inK .u16 m) (h2 : inK .u16 r) (h3 : inK .u32 k) (h4 : inK .u16 re) : (TZ_straight m r k re).sat (fun _ => True) := by
  simp only [inK, minK, maxK] at h1 h2 h3 h4
  have a1 := tmod_rng (x := m) (n := 101) (by omega) (by omega)
  have a2 := tmod_rng (x := r) (n := 3097) (by omega) (by omega)
  have a3 := tmod_rng (x := k) (n := 16777217) (by omega) (by omega)
  have a4 := tmod_rng (x := re) (n := 951) (by omega) (by omega)
  unfold TZ_straight
  rw [show W64 m = m from wrap_id (by omega) (by omega), show W64 r = r from wrap_id (by omega) (by omega), show W64 k = k from wrap_id (by omega) (by omega), show W64 re = re from wrap_id (by omega) (by omega),
    show W64 (400 + m.tmod 101) = _ from wrap_id (by omega) (by omega), show W64 (1000 + r.tmod 3097) = _ from wrap_id (by omega) (by omega), show W64 (2 * (1000 + r.tmod 3097)) = _ from wrap_id (by omega) (by omega)]
  exact straight_ok (by omega) (by omega) (by omega) (by omega) (by omega) (by omega) (by omega) (by omega)
def TY_straight (y : TCTs cs_contactStraight) : Tree Unit := TZ_straight y.1 y.2.1 y.2.2.1 y.2.2.2.1
theorem TY_straight_ok (y : TCTs cs_contactStraight) (h : WFDs cs_contactStraight y) : (TY_straight y).sat (fun _ => True) := TZ_straight_ok h.1 h.2.1 h.2.2.1 h.2.2.2.1
theorem TY_straight_eq (y : TCTs cs_contactStraight) : evFn X_contactStraight 8 (.fn 6) (encAs cs_contactStraight y) noHeap 0 lawK = TY_straight y := by kernel_rfl
theorem contactStraight_sat : LawSat X_contactStraight 6 cs_contactStraight 8 := lawSat 8 TY_straight TY_straight_eq TY_straight_ok
end V
end Go.Proofs.Ytmmhbianajpdgaa
