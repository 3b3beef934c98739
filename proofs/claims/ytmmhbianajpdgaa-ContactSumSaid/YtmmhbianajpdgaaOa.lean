/- The law ContactMirrored: for all arguments it returns true. -/
import Derived.Test.YtmmhbianajpdgaaNa
import Derived.Test.YtmmhbianajpdgaaVC
namespace Go.Proofs.Ytmmhbianajpdgaa
open Go.RowKit
namespace V
theorem kfit {a b : Bm} {re dr : Int} (ha : a.Fit) (hb : b.Fit) (hc : closeB a.px a.py b.px b.py (a.r + b.r) = true) (hx : bncB re dr = true) : KFit (nX a b) (nY a b) (uX a b) (uY a b) re dr (a.m + b.m) := by
  have P := pair ha hb
  have c1 := ha.r1; have c2 := ha.r2; have c3 := hb.r1; have c4 := hb.r2
  have d1 := ha.m1; have d2 := ha.m2; have d3 := hb.m1; have d4 := hb.m2
  have hq := close_pos hc (by omega)
  unfold bncB at hx
  simp only [Bool.and_eq_true, Bool.not_eq_true'] at hx
  have e1 := out_no hx.1
  have e2 := out_no hx.2
  unfold closeB at hc
  have hs := (of_decide_eq_true hc).1
  have h2 : (a.r + b.r) * (a.r + b.r) ≤ 8192 * 8192 := sq_le_of_le (by omega) (by omega)
  have hsum : sq a.px a.py b.px b.py = nX a b * nX a b + nY a b * nY a b := rfl
  have hx1 := self_nn (nX a b)
  have hy1 := self_nn (nY a b)
  have sqb : ∀ z : Int, z * z ≤ 8192 * 8192 → -8192 ≤ z ∧ z ≤ 8192 := by
    intro z hz
    refine ⟨?_, le_of_sq (by omega) hz⟩
    have : (-z) * (-z) ≤ 8192 * 8192 := by rw [Int.neg_mul_neg]; exact hz
    have := le_of_sq (a := -z) (b := 8192) (by omega) this
    omega
  have ⟨x1, x2⟩ := sqb (nX a b) (by omega)
  have ⟨y1, y2⟩ := sqb (nY a b) (by omega)
  exact ⟨x1, x2, y1, y2, P.ux1, P.ux2, P.uy1, P.uy2, e1.1, e1.2, e2.1, e2.2, by omega, by omega, by unfold pQ; omega⟩

def Bm.swp (a : Bm) : Bm := ⟨a.m, a.r, a.py, a.px, a.my, a.mx, 0, 0⟩
def Bm.sgn (a : Bm) : Bm := ⟨a.m, a.r, W64 (0 - a.px), a.py, W64 (0 - a.mx), a.my, 0, 0⟩
theorem fpt_swap (x y : Int) : fpt y x = fpt x y := by unfold fpt; congr 1; exact propext ⟨fun h => by omega, fun h => by omega⟩
theorem W_neg {x : Int} (h : inK .i64 x) : W64 (0 - x) = -x ∨ (x = -9223372036854775808 ∧ W64 (0 - x) = x) := by
  have ⟨a, b⟩ := in64 h
  by_cases hx : x = -9223372036854775808
  · right; subst hx; exact ⟨rfl, by decide⟩
  · left; exact (wrap_id (by omega) (by omega)).trans (by omega)
theorem fpt_neg {x y : Int} (h : inK .i64 x) : fpt (W64 (0 - x)) y = fpt x y := by
  unfold fpt
  congr 1
  rcases W_neg h with e | ⟨e, e'⟩
  · rw [e]; exact propext ⟨fun h => by omega, fun h => by omega⟩
  · rw [e', e]
theorem outB_neg {x B : Int} (h : inK .i64 x) (_hB : B ≤ 9223372036854775807) : outB (W64 (0 - x)) (-B) B = outB x (-B) B := by
  unfold outB
  rw [← Bool.decide_or, ← Bool.decide_or]
  congr 1
  rcases W_neg h with e | ⟨e, e'⟩
  · rw [e]; exact propext ⟨fun h => by omega, fun h => by omega⟩
  · rw [e', e]
theorem swp_ok {a : Bm} (hx : a.rx = 0) (hy : a.ry = 0) : a.swp.ok = a.ok := by
  unfold Bm.swp Bm.ok motB strongB
  simp only
  rw [hx, hy, fpt_swap a.px a.py, Bool.and_comm (!outB a.my _ _)]
theorem sgn_ok {a : Bm} (hx : a.rx = 0) (hy : a.ry = 0) (h1 : inK .i64 a.px) (h2 : inK .i64 a.mx) : a.sgn.ok = a.ok := by
  unfold Bm.sgn Bm.ok motB strongB
  simp only
  rw [hx, hy, fpt_neg h1, outB_neg h2 (by omega)]
theorem KickR_swap {a b : Bm} (re dr : Int) (ha1 : a.rx = 0) (ha2 : a.ry = 0) (hb1 : b.rx = 0) (hb2 : b.ry = 0) : KickR a.swp b.swp re dr = (((KickR a b re dr).1.2.1, (KickR a b re dr).1.1, ()), (KickR a b re dr).2.1, ()) := by
  unfold KickR
  rw [swp_ok ha1 ha2, swp_ok hb1 hb2]
  cases ha : a.ok with
  | false => rfl
  | true => cases hb : b.ok with
    | false => rfl
    | true => cases hx : bncB re dr with
      | false => rfl
      | true =>
        have e1 : closeB a.swp.px a.swp.py b.swp.px b.swp.py (a.swp.r + b.swp.r) = closeB a.px a.py b.px b.py (a.r + b.r) := by
          unfold closeB Bm.swp sq; simp only; rw [Int.add_comm ((b.py - a.py) * (b.py - a.py))]
        have e2 : uN a.swp b.swp = uN a b := by unfold uN uX uY nX nY Bm.swp; simp only; rw [Int.add_comm]
        rw [e1, e2]
        cases hc : closeB a.px a.py b.px b.py (a.r + b.r) with
        | false => rfl
        | true => cases decide (uN a b ≤ 0) with
          | true => rfl
          | false =>
            have hk := kK_swap (kfit (Bm.fit ha) (Bm.fit hb) hc hx)
            have e3 : kK (nX a.swp b.swp) (nY a.swp b.swp) (uX a.swp b.swp) (uY a.swp b.swp) re dr (a.swp.m + b.swp.m) = ((kK (nX a b) (nY a b) (uX a b) (uY a b) re dr (a.m + b.m)).2, (kK (nX a b) (nY a b) (uX a b) (uY a b) re dr (a.m + b.m)).1) := hk
            rw [e3]; rfl
theorem KickR_neg {a b : Bm} (re dr : Int) (ha1 : a.rx = 0) (ha2 : a.ry = 0) (hb1 : b.rx = 0) (hb2 : b.ry = 0) (h1 : inK .i64 a.px) (h2 : inK .i64 a.mx) (h3 : inK .i64 b.px) (h4 : inK .i64 b.mx) :
    KickR a.sgn b.sgn re dr = ((W64 (0 - (KickR a b re dr).1.1), (KickR a b re dr).1.2.1, ()), (KickR a b re dr).2.1, ()) := by
  unfold KickR
  rw [sgn_ok ha1 ha2 h1 h2, sgn_ok hb1 hb2 h3 h4]
  cases ha : a.ok with
  | false => rfl
  | true => cases hb : b.ok with
    | false => rfl
    | true => cases hx : bncB re dr with
      | false => rfl
      | true =>
        have fa := Bm.fit ha
        have fb := Bm.fit hb
        have p1 := fa.px1; have p2 := fa.px2; have p3 := fa.mx1; have p4 := fa.mx2
        have q1 := fb.px1; have q2 := fb.px2; have q3 := fb.mx1; have q4 := fb.mx2
        have s1 : a.sgn.px = -a.px := (wrap_id (by omega) (by omega)).trans (by omega)
        have s2 : a.sgn.mx = -a.mx := (wrap_id (by omega) (by omega)).trans (by omega)
        have s3 : b.sgn.px = -b.px := (wrap_id (by omega) (by omega)).trans (by omega)
        have s4 : b.sgn.mx = -b.mx := (wrap_id (by omega) (by omega)).trans (by omega)
        have n1 : nX a.sgn b.sgn = -nX a b := by unfold nX; rw [s1, s3]; omega
        have n2 : nY a.sgn b.sgn = nY a b := rfl
        have n3 : uX a.sgn b.sgn = -uX a b := by unfold uX; rw [s2, s4]; show b.m * -a.mx - a.m * -b.mx = _; rw [Int.mul_neg, Int.mul_neg]; omega
        have n4 : uY a.sgn b.sgn = uY a b := rfl
        have e1 : closeB a.sgn.px a.sgn.py b.sgn.px b.sgn.py (a.sgn.r + b.sgn.r) = closeB a.px a.py b.px b.py (a.r + b.r) := by
          have : sq a.sgn.px a.sgn.py b.sgn.px b.sgn.py = sq a.px a.py b.px b.py := by
            unfold sq; rw [s1, s3, show -b.px - -a.px = -(b.px - a.px) by omega, Int.neg_mul_neg]; rfl
          unfold closeB; rw [this]; rfl
        have e2 : uN a.sgn b.sgn = uN a b := by unfold uN; rw [n1, n2, n3, n4, Int.neg_mul_neg]
        rw [e1, e2]
        cases hc : closeB a.px a.py b.px b.py (a.r + b.r) with
        | false => rfl
        | true => cases decide (uN a b ≤ 0) with
          | true => rfl
          | false =>
            have kf := kfit fa fb hc hx
            have hk := kK_neg kf
            have ⟨b1, b2⟩ := kK_bd kf
            rw [n1, n2, n3, n4, show a.sgn.m + b.sgn.m = a.m + b.m from rfl, hk]
            simp only [Bool.and_self, Bool.not_true, cond_false]
            rw [show W64 (0 - (kK (nX a b) (nY a b) (uX a b) (uY a b) re dr (a.m + b.m)).1) = -(kK (nX a b) (nY a b) (uX a b) (uY a b) re dr (a.m + b.m)).1 from (wrap_id (by omega) (by omega)).trans (by omega)]

theorem is_swapped : FnIs Try.prog (14, Try.f14) := ⟨Try.func14, by kernel_rfl, by kernel_rfl⟩
theorem is_signed : FnIs Try.prog (15, Try.f15) := ⟨Try.func15, by kernel_rfl, by kernel_rfl⟩
theorem is_ContactMirrored : FnIs Try.prog (3, Try.f3) := ⟨Try.func3, by kernel_rfl, by kernel_rfl⟩
abbrev s_swapped : PureT := spec [cMot] [cMot] (fun _ => true) (fun x => (((x.1.1.2.1, x.1.1.1, ()), (x.1.2.1.2.1, x.1.2.1.1, ()), (0, 0, ()), ()), ()))
abbrev s_signed : PureT := spec [cMot] [cMot] (fun _ => true) (fun x => (((W64 (0 - x.1.1.1), x.1.1.2.1, ()), (W64 (0 - x.1.2.1.1), x.1.2.1.2.1, ()), (0, 0, ()), ()), ()))
theorem q_swapped : PureOk Try.prog 14 s_swapped := q_leaf (ctx_ok mixed puOk_nil (fns_cons is_swapped fns_nil)) 2 (fun x => by kernel_rfl)
theorem q_signed : PureOk Try.prog 15 s_signed := q_leaf (ctx_ok mixed puOk_nil (fns_cons is_signed fns_nil)) 2 (fun x => by kernel_rfl)
def plM : List (Nat × PureT) := (14, s_swapped) :: (15, s_signed) :: plL
theorem puM : PuOk Try.prog plM := puOk_cons is_swapped.plain q_swapped (puOk_cons is_signed.plain q_signed puL)
noncomputable def X_contactMirrored : Ctx := ctx Try.prog plM [(3, Try.f3)]
theorem X_contactMirrored_ok : CtxOk X_contactMirrored := ctx_ok mixed puM (fns_cons is_ContactMirrored fns_nil)
def T_mir (k l g : RKick) : Tree Unit := bif k.2.1 == l.2.1 then bif k.2.1 == g.2.1 then bif (l.1.1 == k.1.2.1) && ((l.1.2.1 == k.1.1) && true) then bif (g.1.1 == W64 (0 - k.1.1)) && ((g.1.2.1 == k.1.2.1) && true) then .leaf () else .fail else .fail else .fail else .fail
def Bm.bare (a : Bm) : Bm := { a with rx := 0, ry := 0 }
theorem T_mir_ok (a b : Bm) (re dr : Int) (h1 : inK .i64 a.px) (h2 : inK .i64 a.mx) (h3 : inK .i64 b.px) (h4 : inK .i64 b.mx) : (T_mir (KickR a.bare b.bare re dr) (KickR a.bare.swp b.bare.swp re dr) (KickR a.bare.sgn b.bare.sgn re dr)).sat (fun _ => True) := by
  rw [KickR_swap re dr rfl rfl rfl rfl, KickR_neg (a := a.bare) (b := b.bare) re dr rfl rfl rfl rfl h1 h2 h3 h4]
  unfold T_mir
  simp only [beq_self_eq_true, Bool.and_self, cond_true]
  trivial
abbrev cs_contactMirrored : List TC := [cBall, cMot, cBall, cMot, cBnc]
def TY_mir (y : TCTs cs_contactMirrored) : Tree Unit := T_mir (KickR (bm y.1 y.2.1).bare (bm y.2.2.1 y.2.2.2.1).bare y.2.2.2.2.1.1 y.2.2.2.2.1.2.1) (KickR (bm y.1 y.2.1).bare.swp (bm y.2.2.1 y.2.2.2.1).bare.swp y.2.2.2.2.1.1 y.2.2.2.2.1.2.1)
    (KickR (bm y.1 y.2.1).bare.sgn (bm y.2.2.1 y.2.2.2.1).bare.sgn y.2.2.2.2.1.1 y.2.2.2.2.1.2.1)
theorem TY_mir_ok (y : TCTs cs_contactMirrored) (hw : WFDs cs_contactMirrored y) : (TY_mir y).sat (fun _ => True) := by
  simp only [WFDs, WFD] at hw
  exact T_mir_ok _ _ _ _ hw.2.1.1.1 hw.2.1.2.1.1 hw.2.2.2.1.1.1 hw.2.2.2.1.2.1.1
theorem TY_mir_eq (y : TCTs cs_contactMirrored) : evFn X_contactMirrored 8 (.fn 3) (encAs cs_contactMirrored y) noHeap 0 lawK = TY_mir y := by kernel_rfl
theorem contactMirrored_sat : LawSat X_contactMirrored 3 cs_contactMirrored 8 := lawSat 8 TY_mir TY_mir_eq TY_mir_ok
end V
end Go.Proofs.Ytmmhbianajpdgaa
