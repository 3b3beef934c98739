import Derived.Test.YtkiaifmbbnnliaaGreatUg
namespace Go.Proofs.YtkiaifmbbnnliaaGreat
open Go.RowKit
namespace V
theorem is_Bounce : FnIs Tryz.prog (153, Tryz.f153) := ⟨Tryz.func153, by kernel_rfl, by kernel_rfl⟩
theorem is_Bounce1 : FnIs Tryz.prog (181, Tryz.f181) := ⟨Tryz.func181, by kernel_rfl, by kernel_rfl⟩
theorem is_Bump : FnIs Tryz.prog (163, Tryz.f163) := ⟨Tryz.func163, by kernel_rfl, by kernel_rfl⟩
def plN : List (Nat × PureT) := (197, ptrAt 0) :: (198, ptrAt 1) :: (179, s_Kick) :: (188, s_CheckDisc) :: plK
theorem puN : PuOk Tryz.prog plN := puOk_cons is_each1.plain q_each1 (puOk_cons is_each2.plain q_each2 (puOk_cons is_Kick.plain q_Kick (puOk_cons is_CheckDisc.plain q_CheckDisc puK)))
abbrev RBnc := TCTs [cMot, cMot, cI]
abbrev etaB (y : RBnc) : RBnc := (etaS y.1, etaS y.2.1, y.2.2.1, ())
def Bm.moved (a : Bm) (x y : Int) : TCT cMot := ((a.px, a.py, ()), (x, y, ()), (a.rx, a.ry, ()), ())
def BncOf (a b : Bm) (k : RKick) : RBnc :=
  bif k.2.1 != 0 then (noMot, noMot, k.2.1, ()) else
  bif !strongB (W64 (a.mx - k.1.1)) (W64 (a.my - k.1.2.1)) then (noMot, noMot, 4, ()) else
  bif !strongB (W64 (b.mx + k.1.1)) (W64 (b.my + k.1.2.1)) then (noMot, noMot, 4, ()) else
  (a.moved (W64 (a.mx - k.1.1)) (W64 (a.my - k.1.2.1)), b.moved (W64 (b.mx + k.1.1)) (W64 (b.my + k.1.2.1)), 0, ())
def BounceR (a b : Bm) (re dr : Int) : RBnc := BncOf a b (KickR a b re dr)
def T_Bnc (a b : Bm) (k : RKick) : Tree RBnc :=
  bif k.2.1 != 0 then .leaf (noMot, noMot, k.2.1, ()) else
  bif !strongB (W64 (a.mx - k.1.1)) (W64 (a.my - k.1.2.1)) then .leaf (noMot, noMot, 4, ()) else
  bif !strongB (W64 (b.mx + k.1.1)) (W64 (b.my + k.1.2.1)) then .leaf (noMot, noMot, 4, ()) else
  .leaf (a.moved (W64 (a.mx - k.1.1)) (W64 (a.my - k.1.2.1)), b.moved (W64 (b.mx + k.1.1)) (W64 (b.my + k.1.2.1)), 0, ())
theorem T_Bnc_ok (a b : Bm) (k : RKick) : (T_Bnc a b k).sat (fun y => y = BncOf a b k) := by
  unfold T_Bnc BncOf
  cases k.2.1 != 0 <;> cases strongB (W64 (a.mx - k.1.1)) (W64 (a.my - k.1.2.1)) <;> cases strongB (W64 (b.mx + k.1.1)) (W64 (b.my + k.1.2.1)) <;> exact rfl
abbrev s_Bounce : PureT := spec [cBall, cMot, cBall, cMot, cBnc] [cMot, cMot, cI] (fun _ => true) (fun x => etaB (BounceR (bm x.1 x.2.1) (bm x.2.2.1 x.2.2.2.1) x.2.2.2.2.1.1 x.2.2.2.2.1.2.1))
theorem q_Bounce : PureOk Tryz.prog 153 s_Bounce := q_by (ctx_ok mixed puN (fns_cons is_Bounce (fns_cons is_Bounce1 (fns_cons is_each fns_nil)))) 6
  (fun x => T_Bnc (bm x.1 x.2.1) (bm x.2.2.1 x.2.2.2.1) (KickR (bm x.1 x.2.1) (bm x.2.2.1 x.2.2.2.1) x.2.2.2.2.1.1 x.2.2.2.2.1.2.1)) (fun x => by kernel_rfl) fun _ _ _ => T_Bnc_ok _ _ _
def dN (a : Bm) (qx qy : Int) : Int := a.mx * (qx - a.px) + a.my * (qy - a.py)
def BumpR (a : Bm) (qx qy q re dr : Int) : RMot :=
  bif !(a.ok && (u_cdOk qx qy q && bncB re dr)) then (noMot, 2, ()) else bif !closeB a.px a.py qx qy (a.r + q) then (noMot, 5, ()) else bif decide (dN a qx qy ≤ 0) then (noMot, 10, ()) else
  bif !strongB (W64 (a.mx - (kK (qx - a.px) (qy - a.py) a.mx a.my re dr 1).1)) (W64 (a.my - (kK (qx - a.px) (qy - a.py) a.mx a.my re dr 1).2)) then (noMot, 4, ()) else
  (a.moved (W64 (a.mx - (kK (qx - a.px) (qy - a.py) a.mx a.my re dr 1).1)) (W64 (a.my - (kK (qx - a.px) (qy - a.py) a.mx a.my re dr 1).2)), 0, ())
def T_Bump (a : Bm) (qx qy q re dr : Int) : Tree RMot :=
  bif okE a.ok != 0 then .leaf (noMot, 2, ()) else bif u_cd qx qy q != 0 then .leaf (noMot, 2, ()) else bif okE (bncB re dr) != 0 then .leaf (noMot, 2, ()) else
  bif fpt a.px a.py && (fpt qx qy && decide (0 ≤ W64 (a.r + q) ∧ W64 (a.r + q) ≤ 131072)) then
  bif !closeB a.px a.py qx qy (W64 (a.r + q)) then .leaf (noMot, 5, ()) else
  bif decide (W64 (W64 (W64 (qx - a.px) * a.mx) + W64 (W64 (qy - a.py) * a.my)) ≤ 0) then .leaf (noMot, 10, ()) else
  bif kOk (W64 (qx - a.px)) (W64 (qy - a.py)) a.mx a.my 1 then
  bif !strongB (W64 (a.mx - (kK (W64 (qx - a.px)) (W64 (qy - a.py)) a.mx a.my re dr 1).1)) (W64 (a.my - (kK (W64 (qx - a.px)) (W64 (qy - a.py)) a.mx a.my re dr 1).2)) then .leaf (noMot, 4, ()) else
  .leaf (a.moved (W64 (a.mx - (kK (W64 (qx - a.px)) (W64 (qy - a.py)) a.mx a.my re dr 1).1)) (W64 (a.my - (kK (W64 (qx - a.px)) (W64 (qy - a.py)) a.mx a.my re dr 1).2)), 0, ())
  else .fail else .fail
theorem T_Bump_ok (a : Bm) (qx qy q re dr : Int) : (T_Bump a qx qy q re dr).sat (fun y => y = BumpR a qx qy q re dr) := by
  unfold T_Bump BumpR okE u_cd
  cases ha : a.ok with
  | false => exact rfl
  | true => cases hb : u_cdOk qx qy q with
    | false => exact rfl
    | true => cases hc : bncB re dr with
      | false => exact rfl
      | true =>
        have fa := Bm.fit ha
        unfold u_cdOk at hb
        simp only [Bool.and_eq_true, Bool.not_eq_true'] at hb
        obtain ⟨hp, hq⟩ := hb
        have hq' := out_no hq
        have hp' := hp
        unfold fpt at hp'
        obtain ⟨q1, q2, q3, q4⟩ := of_decide_eq_true hp'
        have p1 := fa.px1; have p2 := fa.px2; have p3 := fa.py1; have p4 := fa.py2
        have c1 := fa.r1; have c2 := fa.r2
        have ⟨e1, e2⟩ := mul_bd (A := 16777216) (B := 8388608) (b := qx - a.px) fa.mx1 fa.mx2 (by omega) (by omega)
        have ⟨e3, e4⟩ := mul_bd (A := 16777216) (B := 8388608) (b := qy - a.py) fa.my1 fa.my2 (by omega) (by omega)
        have wr : W64 (a.r + q) = a.r + q := wrap_id (by omega) (by omega)
        have wx : W64 (qx - a.px) = qx - a.px := wrap_id (by omega) (by omega)
        have wy : W64 (qy - a.py) = qy - a.py := wrap_id (by omega) (by omega)
        have wd : W64 (W64 (a.mx * (qx - a.px)) + W64 (a.my * (qy - a.py))) = dN a qx qy := by
          rw [show W64 (a.mx * (qx - a.px)) = _ from wrap_id (by omega) (by omega), show W64 (a.my * (qy - a.py)) = _ from wrap_id (by omega) (by omega)]
          exact wrap_id (by omega) (by omega)
        rw [wr, wx, wy, Int.mul_comm (qx - a.px) a.mx, Int.mul_comm (qy - a.py) a.my, wd, fa.p, hp, decide_eq_true (show 0 ≤ a.r + q ∧ a.r + q ≤ 131072 by omega)]
        cases hcl : closeB a.px a.py qx qy (a.r + q) with
        | false => exact rfl
        | true =>
          by_cases hd : dN a qx qy ≤ 0
          · rw [decide_eq_true hd]; exact rfl
          · have hs : 1001 * 1001 ≤ (a.r + q) * (a.r + q) := sq_le_of_le (by omega) (by omega)
            have hcl' := hcl
            unfold closeB at hcl'
            have hsq := (of_decide_eq_true hcl').2
            have ⟨g1, g2⟩ := mul_bd (a := qx - a.px) (b := qx - a.px) (A := 8388608) (B := 8388608) (by omega) (by omega) (by omega) (by omega)
            have ⟨g3, g4⟩ := mul_bd (a := qy - a.py) (b := qy - a.py) (A := 8388608) (B := 8388608) (by omega) (by omega) (by omega) (by omega)
            have hk : kQ (qx - a.px) (qy - a.py) = sq a.px a.py qx qy := by
              unfold kQ
              rw [show W64 ((qx - a.px) * (qx - a.px)) = _ from wrap_id (by omega) (by omega), show W64 ((qy - a.py) * (qy - a.py)) = _ from wrap_id (by omega) (by omega)]
              exact wrap_id (by omega) (by omega)
            have hok : kOk (qx - a.px) (qy - a.py) a.mx a.my 1 = true := by
              unfold kOk kD
              rw [hk, wd]
              exact decide_eq_true ⟨by omega, by decide, by omega⟩
            rw [decide_eq_false hd, hok]
            cases strongB (W64 (a.mx - (kK (qx - a.px) (qy - a.py) a.mx a.my re dr 1).1)) (W64 (a.my - (kK (qx - a.px) (qy - a.py) a.mx a.my re dr 1).2)) <;> exact rfl
abbrev s_Bump : PureT := spec [cBall, cMot, cDisc, cBnc] [cMot, cI] (fun _ => true) (fun x => etaM (BumpR (bm x.1 x.2.1) x.2.2.1.1.1 x.2.2.1.1.2.1 x.2.2.1.2.1 x.2.2.2.1.1 x.2.2.2.1.2.1))
theorem q_Bump : PureOk Tryz.prog 163 s_Bump := q_by (ctx_ok mixed puN (fns_cons is_Bump fns_nil)) 6
  (fun x => T_Bump (bm x.1 x.2.1) x.2.2.1.1.1 x.2.2.1.1.2.1 x.2.2.1.2.1 x.2.2.2.1.1 x.2.2.2.1.2.1) (fun x => by kernel_rfl) fun _ _ _ => T_Bump_ok _ _ _ _ _ _
end V
end Go.Proofs.YtkiaifmbbnnliaaGreat
