/- The law ContactApart: for all arguments it returns true. -/
import Derived.Test.YtmmhbianajpdgaaNc
import Derived.Test.YtmmhbianajpdgaaOb
namespace Go.Proofs.Ytmmhbianajpdgaa
open Go.RowKit
namespace V
theorem is_ContactApart : FnIs Try.prog (5, Try.f5) := ⟨Try.func5, by kernel_rfl, by kernel_rfl⟩
theorem is_urging : FnIs Try.prog (23, Try.f23) := ⟨Try.func23, by kernel_rfl, by kernel_rfl⟩
theorem is_abs3 : FnIs Try.prog (24, Try.f24) := ⟨Try.func24, by kernel_rfl, by kernel_rfl⟩
abbrev s_abs : PureT := spec [cI] [cI] (fun _ => true) (fun x => (max x.1 (W64 (0 - x.1)), ()))
theorem q_abs3 : PureOk Try.prog 24 s_abs := q_leaf (ctx_ok mixed puOk_nil (fns_cons is_abs3 fns_nil)) 3 (fun x => by kernel_rfl)
def urgW (a b : Bm) : Int := W64 (W64 (W64 (W64 (b.m * a.mx) - W64 (a.m * b.mx)) * W64 (b.px - a.px)) + W64 (W64 (W64 (b.m * a.my) - W64 (a.m * b.my)) * W64 (b.py - a.py)))
abbrev s_urging : PureT := spec [cBall, cMot, cBall, cMot] [cI] (fun _ => true) (fun x => (urgW (bm x.1 x.2.1) (bm x.2.2.1 x.2.2.2.1), ()))
theorem q_urging : PureOk Try.prog 23 s_urging := q_leaf (ctx_ok mixed puOk_nil (fns_cons is_urging fns_nil)) 3 (fun x => by kernel_rfl)
def plApart : List (Nat × PureT) := (24, s_abs) :: (23, s_urging) :: (17, s_CheckMotion) :: (21, s_CheckBounce) :: plO
theorem puApart : PuOk Try.prog plApart := puOk_cons is_abs3.plain q_abs3 (puOk_cons is_urging.plain q_urging (puOk_cons is_rCheckMotion.plain q_rCheckMotion (puOk_cons is_rCheckBounce.plain q_rCheckBounce puO)))
noncomputable def X_contactApart : Ctx := ctx Try.prog plApart [(5, Try.f5)]
theorem X_contactApart_ok : CtxOk X_contactApart := ctx_ok mixed puApart (fns_cons is_ContactApart fns_nil)
def sqW (a b : Bm) : Int := W64 (W64 (W64 (b.px - a.px) * W64 (b.px - a.px)) + W64 (W64 (b.py - a.py) * W64 (b.py - a.py)))
def near1 (a b : Bm) : Bool := decide (sqW a b ≤ W64 (W64 (a.r + b.r) * W64 (a.r + b.r)))
def near2 (a b : Bm) : Bool := decide (W64 (256 * sqW a b) ≥ W64 (W64 (225 * W64 (a.r + b.r)) * W64 (a.r + b.r)))
def moreW (a b : Bm) : Int := W64 (urgW a b + W64 (W64 (a.m + b.m) * W64 (max (W64 (b.px - a.px)) (W64 (0 - W64 (b.px - a.px))) + max (W64 (b.py - a.py)) (W64 (0 - W64 (b.py - a.py))))))
def T_apart (a b : Bm) (re dr : Int) (u : RBnc) : Tree Unit :=
  bif okE a.ok != 0 then .leaf () else bif okE b.ok != 0 then .leaf () else bif okE (bncB re dr) != 0 then .leaf () else
  bif near1 a b then
   bif u.2.2.1 != 0 then
   bif u.2.2.1 == 5 then
    bif !near2 a b then .leaf () else
    bif u.2.2.1 == 10 then bif near2 a b then bif decide (urgW a b ≤ 0) then .leaf () else bif u.2.2.1 == 4 then bif near2 a b then .leaf () else .fail else .fail else
     bif u.2.2.1 == 4 then bif near2 a b then .leaf () else .fail else .fail else
     bif u.2.2.1 == 4 then bif near2 a b then .leaf () else .fail else .fail else
   bif u.2.2.1 == 10 then bif near2 a b then bif decide (urgW a b ≤ 0) then .leaf () else bif u.2.2.1 == 4 then bif near2 a b then .leaf () else .fail else .fail else
     bif u.2.2.1 == 4 then bif near2 a b then .leaf () else .fail else .fail else
     bif u.2.2.1 == 4 then bif near2 a b then .leaf () else .fail else .fail else
   bif near2 a b then bif decide (urgW a b > 0) then
    bif decide (urgW (bm (a.m, a.r, ()) u.1) (bm (b.m, b.r, ()) u.2.1) ≤ moreW a b) then .leaf () else .fail else .fail else .fail else
   bif u.2.2.1 != 0 then bif u.2.2.1 == 5 then .leaf () else bif u.2.2.1 == 10 then bif u.2.2.1 == 4 then .fail else .fail else bif u.2.2.1 == 4 then .fail else .fail else .fail
theorem urgW_eq {a b : Bm} (ha : a.Fit) (hb : b.Fit) : urgW a b = uN a b := by
  have P := pair ha hb
  unfold urgW
  rw [P.wux, P.wuy, P.wnx, P.wny, P.dot]
structure NearW (a b : Bm) : Prop where
  s : sqW a b = sq a.px a.py b.px b.py
  r : W64 (W64 (a.r + b.r) * W64 (a.r + b.r)) = (a.r + b.r) * (a.r + b.r)
  f : W64 (256 * sqW a b) = 256 * sq a.px a.py b.px b.py
  g : W64 (W64 (225 * W64 (a.r + b.r)) * W64 (a.r + b.r)) = 225 * ((a.r + b.r) * (a.r + b.r))
theorem nearW {a b : Bm} (ha : a.Fit) (hb : b.Fit) : NearW a b := by
  have P := pair ha hb
  have c1 := ha.r1; have c2 := ha.r2; have c3 := hb.r1; have c4 := hb.r2
  have e : sqW a b = sq a.px a.py b.px b.py := by
    have := kQ_eq ha hb
    unfold kQ at this
    unfold sqW
    rw [P.wnx, P.wny]
    exact this
  have ⟨s1, s2⟩ := sq_bd' ha.p hb.p
  have ⟨r1, r2⟩ := mul_bd (a := a.r + b.r) (b := a.r + b.r) (A := 8192) (B := 8192) (by omega) (by omega) (by omega) (by omega)
  have e2 : 225 * (a.r + b.r) * (a.r + b.r) = 225 * ((a.r + b.r) * (a.r + b.r)) := Int.mul_assoc ..
  refine ⟨e, ?_, ?_, ?_⟩
  · rw [P.wr]; exact wrap_id (by omega) (by omega)
  · rw [e]; exact wrap_id (by omega) (by omega)
  · rw [P.wr, show W64 (225 * (a.r + b.r)) = 225 * (a.r + b.r) from wrap_id (by omega) (by omega), e2]; exact wrap_id (by omega) (by omega)
theorem near_close {a b : Bm} (ha : a.Fit) (hb : b.Fit) : (near1 a b && near2 a b) = closeB a.px a.py b.px b.py (a.r + b.r) := by
  have w := nearW ha hb
  unfold near1 near2 closeB
  rw [w.r, w.f, w.g, w.s, ← Bool.decide_and]
theorem near_yes {a b : Bm} (ha : a.Fit) (hb : b.Fit) (h : closeB a.px a.py b.px b.py (a.r + b.r) = true) : near1 a b = true ∧ near2 a b = true := by
  rw [← near_close ha hb, Bool.and_eq_true] at h; exact h
theorem apart_less {a b : Bm} {re dr x y : Int} (K : KF a b re dr x y) (fa : (a.mv (a.mx - x) (a.my - y)).Fit) (fb : (b.mv (b.mx + x) (b.my + y)).Fit) :
    urgW (a.mv (a.mx - x) (a.my - y)) (b.mv (b.mx + x) (b.my + y)) ≤ moreW a b := by
  have P := pair K.fa K.fb
  have k := k_dot K.kb (by have := K.pos; unfold uN at this; unfold pD; omega)
  have hx := K.hx; have hy := K.hy
  unfold KP at hx hy
  rw [← hx, ← hy] at k
  have F := kfit K.fa K.fb K.cl K.bnc
  have n1 := F.n1; have n2 := F.n2; have n3 := F.n3; have n4 := F.n4
  have d1 := K.fa.m1; have d2 := K.fa.m2; have d3 := K.fb.m1; have d4 := K.fb.m2
  have ⟨e1, e2⟩ := mul_bd P.ux1 P.ux2 (b := nX a b) (B := 8192) (by omega) (by omega)
  have ⟨e3, e4⟩ := mul_bd P.uy1 P.uy2 (b := nY a b) (B := 8192) (by omega) (by omega)
  have hu : uN a b = uX a b * nX a b + uY a b * nY a b := rfl
  rw [urgW_eq fa fb]
  unfold moreW
  rw [urgW_eq K.fa K.fb, P.wnx, P.wny, P.wm, show W64 (0 - nX a b) = -nX a b from (wrap_id (by omega) (by omega)).trans (by omega), show W64 (0 - nY a b) = -nY a b from (wrap_id (by omega) (by omega)).trans (by omega)]
  generalize hs : max (nX a b) (-nX a b) + max (nY a b) (-nY a b) = s at k
  have hs1 : 0 ≤ s ∧ s ≤ 16384 := by omega
  have ⟨f1, f2⟩ := mul_bd (a := a.m + b.m) (b := s) (A := 1000) (B := 16384) (by omega) (by omega) (by omega) (by omega)
  rw [show W64 s = s from wrap_id (by omega) (by omega), show W64 ((a.m + b.m) * s) = _ from wrap_id (by omega) (by omega), show W64 (uN a b + (a.m + b.m) * s) = _ from wrap_id (by omega) (by omega)]
  have i : uN (a.mv (a.mx - x) (a.my - y)) (b.mv (b.mx + x) (b.my + y)) = uN a b - (a.m + b.m) * (x * nX a b + y * nY a b) := by
    unfold uN Bm.mv uX uY nX nY
    grind
  have j := Int.mul_le_mul_of_nonneg_left k (show 0 ≤ a.m + b.m by omega)
  rw [Int.mul_neg] at j
  omega
theorem T_apart_ok (a b : Bm) (re dr : Int) : (T_apart a b re dr (BounceR a b re dr)).sat (fun _ => True) := by
  refine bnc_cases (P := fun _ u => (T_apart a b re dr u).sat (fun _ => True)) (fun h => ?_) (fun fa fb hx h => ?_) (fun fa fb hx h hd => ?_) (fun x y K _ => ?_) fun x y K fa fb => ?_
  · unfold T_apart okE
    cases ha : a.ok with
    | false => trivial
    | true => cases hb : b.ok with
      | false => trivial
      | true => rw [ha, hb, Bool.true_and, Bool.true_and] at h; rw [h]; trivial
  · have hn := near_close fa fb
    rw [h] at hn
    unfold T_apart okE
    rw [fit_ok fa, fit_ok fb, hx]
    cases h1 : near1 a b with
    | false => trivial
    | true => rw [h1, Bool.true_and] at hn; rw [hn]; trivial
  · obtain ⟨h1, h2⟩ := near_yes fa fb h
    unfold T_apart okE
    rw [fit_ok fa, fit_ok fb, hx, h1, h2, urgW_eq fa fb, decide_eq_true hd]; trivial
  · obtain ⟨h1, h2⟩ := near_yes K.fa K.fb K.cl
    unfold T_apart okE
    rw [fit_ok K.fa, fit_ok K.fb, K.bnc, h1, h2]; trivial
  · obtain ⟨h1, h2⟩ := near_yes K.fa K.fb K.cl
    unfold T_apart okE
    rw [fit_ok K.fa, fit_ok K.fb, K.bnc, h1, h2, urgW_eq K.fa K.fb, decide_eq_true (show uN a b > 0 from K.pos)]
    simp only
    rw [decide_eq_true (show urgW (bm (a.m, a.r, ()) (a.moved (a.mx - x) (a.my - y))) (bm (b.m, b.r, ()) (b.moved (b.mx + x) (b.my + y))) ≤ moreW a b from apart_less K fa fb)]
    trivial
abbrev cs_contactApart : List TC := [cBall, cMot, cBall, cMot, cBnc]
def TY_apart (y : TCTs cs_contactApart) : Tree Unit :=
  T_apart (bm y.1 y.2.1) (bm y.2.2.1 y.2.2.2.1) y.2.2.2.2.1.1 y.2.2.2.2.1.2.1 (BounceR (bm y.1 y.2.1) (bm y.2.2.1 y.2.2.2.1) y.2.2.2.2.1.1 y.2.2.2.2.1.2.1)
theorem TY_apart_ok (y : TCTs cs_contactApart) (_ : WFDs cs_contactApart y) : (TY_apart y).sat (fun _ => True) := T_apart_ok _ _ _ _
theorem TY_apart_eq (y : TCTs cs_contactApart) : evFn X_contactApart 8 (.fn 5) (encAs cs_contactApart y) noHeap 0 lawK = TY_apart y := by kernel_rfl
theorem contactApart_sat : LawSat X_contactApart 5 cs_contactApart 8 := lawSat 8 TY_apart TY_apart_eq TY_apart_ok
end V
end Go.Proofs.Ytmmhbianajpdgaa
