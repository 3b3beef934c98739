/- The law ContactFades: for all arguments it returns true. -/
import Derived.Test.YtmmhbianajpdgaaNd
import Derived.Test.YtmmhbianajpdgaaOb
import Derived.Test.YtmmhbianajpdgaaUj
namespace Go.Proofs.Ytmmhbianajpdgaa
open Go.RowKit
namespace V
theorem is_ContactFades : FnIs Try.prog (12, Try.f12) := ⟨Try.func12, by kernel_rfl, by kernel_rfl⟩
theorem is_abs3f : FnIs Try.prog (24, Try.f24) := ⟨Try.func24, by kernel_rfl, by kernel_rfl⟩
abbrev s_absf : PureT := spec [cI] [cI] (fun _ => true) (fun x => (max x.1 (W64 (0 - x.1)), ()))
theorem q_abs3f : PureOk Try.prog 24 s_absf := q_leaf (ctx_ok mixed puOk_nil (fns_cons is_abs3f fns_nil)) 3 (fun x => by kernel_rfl)
def plFa : List (Nat × PureT) := (24, s_absf) :: (36, s_Slow) :: plO
theorem puFa : PuOk Try.prog plFa := puOk_cons is_abs3f.plain q_abs3f (puOk_cons is_Slow.plain q_Slow puO)
noncomputable def X_contactFades : Ctx := ctx Try.prog plFa [(12, Try.f12)]
theorem X_contactFades_ok : CtxOk X_contactFades := ctx_ok mixed puFa (fns_cons is_ContactFades fns_nil)
def T_frm (a : Bm) (qy q dr mx my : Int) : Tree Unit :=
  bif decide (W64 (W64 (mx * mx) + W64 (my * my)) > W64 (W64 (a.mx * a.mx) + W64 (a.my * a.my))) then .fail else
  bif a.my == 0 then bif qy == a.py then bif dr == 0 then bif my == 0 then
  bif decide (W64 (mx * a.mx) ≤ 0) then .leaf () else bif decide (max mx (W64 (0 - mx)) ≤ W64 (2 * W64 (a.r + q))) then .leaf () else .fail else .fail else .leaf () else .leaf () else .leaf ()
def T_fr (a : Bm) (qy q dr : Int) (u : RMot) : Tree Unit :=
  bif u.2.1 != 0 then bif eqM u.1 noMot then .leaf () else .fail else
  bif !(u.1.1.1 == a.px && (u.1.1.2.1 == a.py && true)) then .fail else
  bif !(u.1.2.2.1.1 == a.rx && (u.1.2.2.1.2.1 == a.ry && true)) then .fail else T_frm a qy q dr u.1.2.1.1 u.1.2.1.2.1
def T_fs (s : TCTs [cPt, cI]) (R : Tree Unit) : Tree Unit := bif s.2.1 != 0 then bif !eqP s.1 (0, 0, ()) then .fail else R else R
def T_fades (wx wy : Int) (s : TCTs [cPt, cI]) (R : Tree Unit) : Tree Unit :=
  bif s.2.1 == 0 then bif decide (W64 (W64 (s.1.1 * s.1.1) + W64 (s.1.2.1 * s.1.2.1)) > W64 (W64 (wx * wx) + W64 (wy * wy))) then .fail else
    bif decide (W64 (s.1.1 * wx) < 0) then .fail else bif decide (W64 (s.1.2.1 * wy) < 0) then .fail else T_fs s R
  else T_fs s R
theorem slow_nn {w d n : Int} (hw : 0 ≤ w) (h0 : 0 ≤ d) (h1 : d ≤ n) (hn : 0 < n) : 0 ≤ (w * d).tdiv n ∧ (w * d).tdiv n ≤ w := by
  have k0 : 0 ≤ w * d := Int.mul_nonneg hw h0
  refine ⟨Int.tdiv_nonneg k0 (by omega), ?_⟩
  have k1 := Int.mul_tdiv_self_le (k := n) k0
  have k2 : w * d ≤ w * n := Int.mul_le_mul_of_nonneg_left h1 hw
  rw [Int.mul_comm w n] at k2
  exact Int.le_of_mul_le_mul_left (Int.le_trans k1 k2) hn
theorem slow_part {w d n : Int} (h0 : 0 ≤ d) (h1 : d ≤ n) (hn : 0 < n) : (w * d).tdiv n * (w * d).tdiv n ≤ w * w ∧ 0 ≤ (w * d).tdiv n * w := by
  rcases Int.le_total 0 w with hw | hw
  · obtain ⟨a, b⟩ := slow_nn hw h0 h1 hn
    exact ⟨sq_mono (by omega) b, Int.mul_nonneg a hw⟩
  · obtain ⟨a, b⟩ := slow_nn (w := -w) (by omega) h0 h1 hn
    rw [Int.neg_mul, Int.neg_tdiv] at a b
    refine ⟨?_, Int.mul_nonneg_of_nonpos_of_nonpos (by omega) hw⟩
    have := sq_mono (a := (w * d).tdiv n) (B := -w) (by omega) (by omega)
    rwa [Int.neg_mul_neg] at this
theorem fades_tree {wx wy x y : Int} {R : Tree Unit} (hR : R.sat (fun _ => True)) (a1 : -16777216 ≤ wx) (a2 : wx ≤ 16777216) (a3 : -16777216 ≤ wy) (a4 : wy ≤ 16777216)
    (hx : x * x ≤ wx * wx) (hy : y * y ≤ wy * wy) (kx : 0 ≤ x * wx) (ky : 0 ≤ y * wy) : (T_fades wx wy ((x, y, ()), 0, ()) R).sat (fun _ => True) := by
  have w1 := sq_mono a1 a2
  have w2 := sq_mono a3 a4
  have s1 := sq_nn x; have s2 := sq_nn y
  obtain ⟨x1, x2⟩ := abs_of_sq (a := x) (b := 16777216) (by omega) (by omega)
  obtain ⟨y1, y2⟩ := abs_of_sq (a := y) (b := 16777216) (by omega) (by omega)
  have ⟨_, g1⟩ := mul_bd x1 x2 a1 a2
  have ⟨_, g2⟩ := mul_bd y1 y2 a3 a4
  unfold T_fades T_fs
  simp only
  rw [show W64 (x * x) = _ from wrap_id (by omega) (by omega), show W64 (y * y) = _ from wrap_id (by omega) (by omega), show W64 (wx * wx) = _ from wrap_id (by omega) (by omega), show W64 (wy * wy) = _ from wrap_id (by omega) (by omega),
    show W64 (x * x + y * y) = _ from wrap_id (by omega) (by omega), show W64 (wx * wx + wy * wy) = _ from wrap_id (by omega) (by omega), show W64 (x * wx) = _ from wrap_id (by omega) (by omega), show W64 (y * wy) = _ from wrap_id (by omega) (by omega),
    decide_eq_false (show ¬ (x * x + y * y > wx * wx + wy * wy) by omega), decide_eq_false (show ¬ (x * wx < 0) by omega), decide_eq_false (show ¬ (y * wy < 0) by omega)]
  exact hR
theorem T_slow_part (wx wy l : Int) (R : Tree Unit) (hR : R.sat (fun _ => True)) : (T_fades wx wy (SlowR wx wy l) R).sat (fun _ => True) := by
  unfold SlowR
  cases h : strongB wx wy with
  | false => exact hR
  | true =>
    cases k : outB l 0 33554432 with
    | true => exact hR
    | false =>
      have W := sl_W h k
      unfold strongB at h
      simp only [Bool.and_eq_true, Bool.not_eq_true'] at h
      obtain ⟨a1, a2⟩ := out_no h.1
      obtain ⟨a3, a4⟩ := out_no h.2
      have hl := out_no k
      have n0 := W.n0
      by_cases g : slN wx wy ≤ 8 * l
      · rw [decide_eq_true g]
        exact fades_tree hR a1 a2 a3 a4 (sq_nn wx) (sq_nn wy) (by rw [Int.zero_mul]; omega) (by rw [Int.zero_mul]; omega)
      · rw [decide_eq_false g]
        obtain ⟨p1, p2⟩ := slow_part (w := wx) (d := slN wx wy - 8 * l) (n := slN wx wy) (by omega) (by omega) (by omega)
        obtain ⟨p3, p4⟩ := slow_part (w := wy) (d := slN wx wy - 8 * l) (n := slN wx wy) (by omega) (by omega) (by omega)
        exact fades_tree hR a1 a2 a3 a4 p1 p3 p2 p4
/-- straight into a disc: the ball turns round, or nearly stops -/
theorem straight_pos {n m re : Int} (hn : 0 < n) (hm : 0 < m) (r1 : 0 ≤ re) (r2 : re ≤ 950) :
    m - n < ((1000 + re) * n * (m * n).tdiv (n * n)).tdiv 1000 ∧ 0 ≤ ((1000 + re) * n * (m * n).tdiv (n * n)).tdiv 1000 ∧ ((1000 + re) * n * (m * n).tdiv (n * n)).tdiv 1000 ≤ 2 * m := by
  have q0 : 0 < n * n := Int.mul_pos hn hn
  have d0 : 0 ≤ m * n := Int.mul_nonneg (by omega) (by omega)
  have A1 := Int.mul_tdiv_self_le (k := n * n) d0
  have A2 := Int.lt_mul_tdiv_self_add (x := m * n) q0
  have A0 : 0 ≤ (m * n).tdiv (n * n) := Int.tdiv_nonneg d0 (by omega)
  generalize (m * n).tdiv (n * n) = A at *
  have a1 : n * A ≤ m := Int.le_of_mul_le_mul_left (a := n) (by grind) hn
  have a2 : m < n * A + n := Int.lt_of_mul_lt_mul_left (a := n) (by grind) (by omega)
  have nA : 0 ≤ n * A := Int.mul_nonneg (by omega) A0
  have e : (1000 + re) * n * A = (1000 + re) * (n * A) := Int.mul_assoc ..
  have b1 : 1000 * (n * A) ≤ (1000 + re) * (n * A) := Int.mul_le_mul_of_nonneg_right (by omega) nA
  have b2 : (1000 + re) * (n * A) ≤ 1950 * (n * A) := Int.mul_le_mul_of_nonneg_right (by omega) nA
  rw [e]
  have B1 := Int.mul_tdiv_self_le (x := (1000 + re) * (n * A)) (k := 1000) (by omega)
  have B2 := Int.lt_mul_tdiv_self_add (x := (1000 + re) * (n * A)) (k := 1000) (by omega)
  generalize ((1000 + re) * (n * A)).tdiv 1000 = x at *
  omega
theorem straight_bump {a : Bm} {qx qy q re dr x y : Int} (K : BF a qx qy q re dr x y) (h1 : a.my = 0) (h2 : qy = a.py) (h3 : dr = 0) : a.my - y = 0 ∧ ((a.mx - x) * a.mx ≤ 0 ∨ (-(a.r + q) ≤ a.mx - x ∧ a.mx - x ≤ a.r + q)) := by
  have kb := K.kb
  have hx := K.hx; have hy := K.hy
  have pos := K.pos
  have cl := K.cl
  have r1 := kb.r1; have r2 := kb.r2
  have fr := K.fa.r1; have fq := K.q1
  unfold sq at cl
  unfold dN at pos
  rw [h1, h2, h3, Int.sub_self] at *
  have bd := pN_bd kb
  rw [Int.zero_mul, Int.add_zero] at pos
  rw [Int.mul_zero, Int.add_zero] at cl
  obtain ⟨c1, c2⟩ := abs_of_sq (by omega) cl
  have eY : pY (qx - a.px) 0 a.mx 0 re 0 1 = 0 := by
    unfold pY
    rw [Int.mul_zero (1000 + re), Int.zero_mul, Int.zero_mul, Int.zero_mul]; rfl
  have eX : pX (qx - a.px) 0 a.mx 0 re 0 1 = ((1000 + re) * (qx - a.px) * (a.mx * (qx - a.px)).tdiv ((qx - a.px) * (qx - a.px))).tdiv 1000 := by
    unfold pX pA pD pQ
    congr 1
    rw [Int.zero_mul, Int.zero_mul, Int.sub_zero, Int.add_zero, Int.add_zero]
  have key : 0 ≤ pX (qx - a.px) 0 a.mx 0 re 0 1 * a.mx ∧ pX (qx - a.px) 0 a.mx 0 re 0 1 * pX (qx - a.px) 0 a.mx 0 re 0 1 ≤ 2 * (a.mx * pX (qx - a.px) 0 a.mx 0 re 0 1) ∧ ((a.mx - pX (qx - a.px) 0 a.mx 0 re 0 1) * a.mx ≤ 0 ∨ (-(a.r + q) ≤ a.mx - pX (qx - a.px) 0 a.mx 0 re 0 1 ∧ a.mx - pX (qx - a.px) 0 a.mx 0 re 0 1 ≤ a.r + q)) := by
    rw [eX]
    generalize qx - a.px = n at *
    generalize a.mx = m at *
    rcases Int.lt_or_le 0 n with hn | hn
    · have hm : 0 < m := by
        rcases Int.lt_or_le 0 m with k | k
        · exact k
        · have := Int.mul_nonpos_of_nonpos_of_nonneg k (show 0 ≤ n by omega); omega
      obtain ⟨g1, g2, g3⟩ := straight_pos hn hm r1 r2
      generalize ((1000 + re) * n * (m * n).tdiv (n * n)).tdiv 1000 = X at *
      refine ⟨Int.mul_nonneg g2 (by omega), ?_, ?_⟩
      · have := Int.mul_le_mul_of_nonneg_right g3 g2
        rw [Int.mul_assoc] at this; exact this
      · rcases Int.lt_or_le 0 (m - X) with k | k
        · right; omega
        · left; exact Int.mul_nonpos_of_nonpos_of_nonneg k (by omega)
    · have hn' : 0 < -n := by
        rcases Int.lt_or_le n 0 with k | k
        · omega
        · have : n = 0 := by omega
          subst this; rw [Int.mul_zero] at pos; omega
      have hm : 0 < -m := by
        rcases Int.lt_or_le m 0 with k | k
        · omega
        · have := Int.mul_nonneg_of_nonpos_of_nonpos hn (show -m ≤ 0 by omega); rw [Int.mul_neg, Int.mul_comm] at this; omega
      obtain ⟨g1, g2, g3⟩ := straight_pos hn' hm r1 r2
      rw [Int.neg_mul_neg, Int.neg_mul_neg, Int.mul_neg, Int.neg_mul, Int.neg_tdiv] at g1 g2 g3
      generalize ((1000 + re) * n * (m * n).tdiv (n * n)).tdiv 1000 = X at *
      refine ⟨Int.mul_nonneg_of_nonpos_of_nonpos (by omega) (by omega), ?_, ?_⟩
      · have := Int.mul_le_mul_of_nonneg_right g3 g2
        rw [Int.neg_mul_neg, Int.mul_assoc, Int.neg_mul_neg] at this; exact this
      · rcases Int.lt_or_le (m - X) 0 with k | k
        · right; omega
        · left; exact Int.mul_nonpos_of_nonneg_of_nonpos k (by omega)
  have st := kK_stay kb (by
    rw [eY]
    obtain ⟨_, k2, _⟩ := key
    generalize pX (qx - a.px) 0 a.mx 0 re 0 1 = X at *
    omega)
  rw [st] at hx hy
  rw [eY] at hy
  subst hx hy
  exact ⟨by omega, key.2.2⟩
theorem T_fr_ok (a : Bm) (qx qy q re dr : Int) : (T_fr a qy q dr (BumpR a qx qy q re dr)).sat (fun _ => True) := by
  refine bump_cases (P := fun u => (T_fr a qy q dr u).sat (fun _ => True)) trivial trivial trivial trivial fun x y K f => ?_
  have e := K.ke.e
  have a1 := K.fa.mx1; have a2 := K.fa.mx2; have a3 := K.fa.my1; have a4 := K.fa.my2
  have b1 : -16777216 ≤ a.mx - x := f.mx1
  have b2 : a.mx - x ≤ 16777216 := f.mx2
  have b3 : -16777216 ≤ a.my - y := f.my1
  have b4 : a.my - y ≤ 16777216 := f.my2
  have ⟨w1, w2⟩ := mul_bd a1 a2 a1 a2
  have ⟨w3, w4⟩ := mul_bd a3 a4 a3 a4
  have ⟨v1, v2⟩ := mul_bd b1 b2 b1 b2
  have ⟨v3, v4⟩ := mul_bd b3 b4 b3 b4
  have ⟨v5, v6⟩ := mul_bd b1 b2 a1 a2
  have en : (a.mx - x) * (a.mx - x) + (a.my - y) * (a.my - y) ≤ a.mx * a.mx + a.my * a.my := by
    have i : (a.mx - x) * (a.mx - x) + (a.my - y) * (a.my - y) = a.mx * a.mx + a.my * a.my - 2 * (a.mx * x + a.my * y) + 1 * (x * x + y * y) := by grind
    omega
  have r1 := K.fa.r1; have r2 := K.fa.r2; have q1 := K.q1; have q2 := K.q2
  show Tree.sat _ (bif !(a.px == a.px && (a.py == a.py && true)) then .fail else bif !(a.rx == a.rx && (a.ry == a.ry && true)) then .fail else T_frm a qy q dr (a.mx - x) (a.my - y))
  rw [beq_self_eq_true, beq_self_eq_true, beq_self_eq_true, beq_self_eq_true]
  show Tree.sat _ (T_frm a qy q dr (a.mx - x) (a.my - y))
  unfold T_frm
  rw [show W64 ((a.mx - x) * (a.mx - x)) = _ from wrap_id (by omega) (by omega), show W64 ((a.my - y) * (a.my - y)) = _ from wrap_id (by omega) (by omega), show W64 (a.mx * a.mx) = _ from wrap_id (by omega) (by omega), show W64 (a.my * a.my) = _ from wrap_id (by omega) (by omega),
    show W64 ((a.mx - x) * (a.mx - x) + (a.my - y) * (a.my - y)) = _ from wrap_id (by omega) (by omega), show W64 (a.mx * a.mx + a.my * a.my) = _ from wrap_id (by omega) (by omega), decide_eq_false (show ¬ _ > _ from Int.not_lt.2 en), cond_false]
  cases h1 : (a.my == 0) with
  | false => trivial
  | true =>
    cases h2 : (qy == a.py) with
    | false => trivial
    | true =>
      cases h3 : (dr == 0) with
      | false => trivial
      | true =>
        obtain ⟨g1, g2⟩ := straight_bump K (eq_of_beq h1) (eq_of_beq h2) (eq_of_beq h3)
        rw [g1, show W64 ((a.mx - x) * a.mx) = _ from wrap_id (by omega) (by omega), show W64 (a.r + q) = _ from wrap_id (by omega) (by omega), show W64 (2 * (a.r + q)) = _ from wrap_id (by omega) (by omega), show W64 (0 - (a.mx - x)) = 0 - (a.mx - x) from wrap_id (by omega) (by omega)]
        rcases g2 with g2 | g2
        · rw [decide_eq_true g2]; trivial
        · rw [decide_eq_true (show max (a.mx - x) (0 - (a.mx - x)) ≤ 2 * (a.r + q) by omega)]
          cases decide ((a.mx - x) * a.mx ≤ 0) <;> trivial
abbrev cs_contactFades : List TC := [cPt, cI, cBall, cMot, cDisc, cBnc]
def TZ_fades (wx wy l : Int) (a : Bm) (qx qy q re dr : Int) : Tree Unit := T_fades wx wy (SlowR wx wy l) (T_fr a qy q dr (BumpR a qx qy q re dr))
theorem TZ_fades_ok (wx wy l : Int) (a : Bm) (qx qy q re dr : Int) : (TZ_fades wx wy l a qx qy q re dr).sat (fun _ => True) := T_slow_part _ _ _ _ (T_fr_ok _ _ _ _ _ _)
def TY_fades (y : TCTs cs_contactFades) : Tree Unit := TZ_fades y.1.1 y.1.2.1 y.2.1 (bm y.2.2.1 y.2.2.2.1) y.2.2.2.2.1.1.1 y.2.2.2.2.1.1.2.1 y.2.2.2.2.1.2.1 y.2.2.2.2.2.1.1 y.2.2.2.2.2.1.2.1
theorem TY_fades_ok (y : TCTs cs_contactFades) (_ : WFDs cs_contactFades y) : (TY_fades y).sat (fun _ => True) := TZ_fades_ok _ _ _ _ _ _ _ _ _
theorem TY_fades_eq (y : TCTs cs_contactFades) : evFn X_contactFades 8 (.fn 12) (encAs cs_contactFades y) noHeap 0 lawK = TY_fades y := by kernel_rfl
theorem contactFades_sat : LawSat X_contactFades 12 cs_contactFades 8 := lawSat 8 TY_fades TY_fades_eq TY_fades_ok
end V
end Go.Proofs.Ytmmhbianajpdgaa
