/- Chapter 11: Meet and Substitute of both. -/
import Derived.Test.YtgchccljmjmibaaFg
namespace Go.Proofs.Ytgchccljmjmibaa
open Go.RowKit
namespace V
namespace Ev
theorem is_eMeet : FnIs Try.prog (22, Try.f22) := ⟨Try.func22, by kernel_rfl, by kernel_rfl⟩
theorem is_eslot : FnIs Try.prog (59, Try.f59) := ⟨Try.func59, by kernel_rfl, by kernel_rfl⟩
theorem is_rMeet : FnIs Try.prog (28, Try.f28) := ⟨Try.func28, by kernel_rfl, by kernel_rfl⟩
theorem is_eSub : FnIs Try.prog (29, Try.f29) := ⟨Try.func29, by kernel_rfl, by kernel_rfl⟩
theorem is_rSub : FnIs Try.prog (30, Try.f30) := ⟨Try.func30, by kernel_rfl, by kernel_rfl⟩
theorem is_Index : FnIs Try.prog (96, Try.f96) := ⟨Try.func96, by kernel_rfl, by kernel_rfl⟩
noncomputable def X_ix0 : Ctx := ctx Try.prog [] []
theorem X_ix0_ok : CtxOk X_ix0 := ctx_ok mixed puOk_nil fns_nil
noncomputable def lb_ix : Code := (loopsOf (bodyOf Try.f96)).getD 0 .skip
def L_ix : Lay := { keys := [0, 1, 7, 8], ks := [.d (.sl cI), .d cI, .d cI, .d cI], bs := [], n := 19, nx := 1000, marks := [] }
def R_ix : Lay := { keys := [], ks := [], bs := [], n := 19, nx := 1000, marks := [] }
def Rt_ix : Lay := { keys := [4], ks := [.d cI], bs := [], n := 19, nx := 1000, marks := [] }
def E_ix : XE → Lay := fun e => match e with | .ret => Rt_ix | _ => R_ix
abbrev cIx := L_ix.T ⊕ Left' E_ix
def rt_ix (i : Int) : Left' E_ix := ⟨.ret, ((i, ()), ())⟩
def ex_ix : Left' E_ix := ⟨.exit 0, ((), ())⟩
def hd_ix (l : List Int) (p n i : Int) : L_ix.T := ((l, p, n, i, ()), ())
def sm_ix (l : List Int) (p n i : Int) : Tree cIx := bif decide (i < n) then inN l.length i (bif p == getA l (Int.toNat i) 0 then .leaf (.inr (rt_ix i)) else .leaf (.inl (hd_ix l p n (W64 (i + 1))))) else .leaf (.inr ex_ix)
def st_ix (g : L_ix.T) : Tree cIx := sm_ix g.1.1 g.1.2.1 g.1.2.2.1 g.1.2.2.2.1
def fu_ix (g : L_ix.T) : Nat := (g.1.1 : List Int).length + 1
theorem e_ix (g : L_ix.T) : evC Try.prog (evFn X_ix0 6) X_ix0.pures 96 X_ix0.u (fun _ => none) lb_ix (L_ix.of g) (stepOut L_ix E_ix) = st_ix g := by kernel_rfl
def ixV (l : List Int) (p : Int) : Int := bif l.any (fun x => p == x) then (l.findIdx (fun x => p == x) : Int) else -1
theorem ix_run (l : List Int) (p : Int) (hl : (l.length : Int) ≤ maxK .i64) : iter st_ix (l.length + 1) (hd_ix l p l.length 0) = some (bif l.any (fun x => p == x) then rt_ix (l.findIdx (fun x => p == x) : Nat) else ex_ix) := by
  have hl' : (l.length : Int) ≤ 9223372036854775807 := hl
  refine iter_find (st := st_ix) l (fun i => hd_ix l p l.length i) (fun x => p == x) (fun i => rt_ix (i : Int)) ex_ix (fun i hi => ?_) ?_
  · show (sm_ix l p l.length i).run = _
    unfold sm_ix
    rw [decide_eq_true (show (i : Int) < (l.length : Int) by omega), inN_ok (by omega), show Int.toNat (i : Int) = i by omega, getA_lt hi, W64_id (n := (i : Int) + 1) (by omega) (by omega)]
    cases p == l[i] <;> rfl
  · show (sm_ix l p l.length l.length).run = _
    unfold sm_ix
    rw [decide_eq_false (show ¬ (l.length : Int) < (l.length : Int) by omega)]
    rfl
abbrev s_ix : PureT := spec [.sl cI, cI] [cI] (fun _ => true) (fun x => (ixV x.1 x.2.1, ()))
noncomputable def X_ix : Ctx := ctxL Try.prog [] [(96, Try.f96)] [((96, 2), loopSum L_ix E_ix (finX [.ret, .exit 0] st_ix fu_ix))]
theorem X_ix_ok : CtxOk X_ix := ctxL_ok mixed puOk_nil (fns_cons is_Index fns_nil) (loops_one (lb := lb_ix) (k := 2) (by kernel_rfl) (by kernel_rfl) (loopOk_x0 X_ix0_ok 6 _ L_ix E_ix (fun e => by cases e <;> exact Nat.le_refl _) [.ret, .exit 0] _ fu_ix e_ix))
def T_ix (y : Option (Left' E_ix)) : Tree (TCTs [cI]) := bif isE .ret y then .leaf ((valE .ret y).1.1, ()) else bif isE (.exit 0) y then .leaf (-1, ()) else .fail
theorem q_ix : PureOk Try.prog 96 s_ix := q_by X_ix_ok 6 (fun x => T_ix (iter st_ix (x.1.length + 1) (hd_ix x.1 x.2.1 x.1.length 0))) (fun x => by kernel_rfl) fun x _ hw => by
  show (T_ix (iter st_ix (x.1.length + 1) (hd_ix x.1 x.2.1 x.1.length 0))).sat _
  rw [ix_run x.1 x.2.1 hw.1.1]
  unfold ixV
  cases x.1.any (fun y => x.2.1 == y) <;> exact rfl
theorem ixV_fiV (l : List Int) {p : Int} (h : p ≠ -1) : ixV l p = fiV l p := by
  have e : (fun x => p == x) = fiB p := by
    funext x
    unfold fiB
    rw [show (p != -1) = true by simpa using h, Bool.and_true, Bool.eq_iff_iff, beq_iff_eq, beq_iff_eq]
    exact ⟨fun h => h.symm, fun h => h.symm⟩
  unfold ixV fiV
  rw [e]
theorem fiV_bye (l : List Int) : fiV l (-1) = -1 := by
  unfold fiV
  have : l.any (fiB (-1)) = false := by rw [List.any_eq_false]; intro x _; unfold fiB; simp
  rw [this]
  rfl
abbrev s_slot : PureT := s_find
def T_slot (l : List Int) (p : Int) : Tree (TCTs [cI]) := bif p == -1 then .leaf (-1, ()) else .leaf (ixV l p, ())
theorem q_slot : PureOk Try.prog 59 s_slot := q_by (ctx_ok mixed (puOk_cons is_Index.plain q_ix puOk_nil) (fns_cons is_eslot fns_nil)) 6 (fun x => T_slot x.1 x.2.1) (fun x => by kernel_rfl) fun x _ _ => by
  show (T_slot x.1 x.2.1).sat (fun y => y = (fiV x.1 x.2.1, ()))
  unfold T_slot
  refine sat_cond (fun h => ?_) (fun h => ?_)
  · rw [show x.2.1 = -1 by simpa using h, fiV_bye]; exact rfl
  · rw [ixV_fiV x.1 (by simpa using h)]; exact rfl
noncomputable def plMe : List (Nat × PureT) := (59, s_slot) :: (21, s_draw) :: (26, s_draw) :: (62, s_find) :: (57, s_bl) :: []
theorem puMe : PuOk Try.prog plMe := puOk_cons is_eslot.plain q_slot (puOk_cons is_eCD.plain q_draw (puOk_cons is_rCD.plain q_rdraw (puOk_cons is_rfind.plain q_find (puOk_cons is_bLen.plain q_bl puOk_nil))))
/-! Meet -/
def xorI (i k : Int) : Int := W64 ↑(BitVec.toNat (BitVec.ofInt (IntKind.bits .i64) i ^^^ BitVec.ofInt (IntKind.bits .i64) k))
/-- the round in which two slots meet -/
def rnd (i k : Int) : Int := blF (xorI i k).toNat - 1
def rO : Nat → Int → Int → Int → Option Int
  | 0, _, _, _ => none
  | n + 1, i, k, r => bif i != k then rO n (W64 (Int.tdiv i 2)) (W64 (Int.tdiv k 2)) (W64 (r + 1)) else some r
theorem rnd_ok : ∀ i : Nat, i < 64 → ∀ k : Nat, k < 64 → 0 ≤ xorI i k ∧ xorI i k ≤ 64 ∧ W64 (blF (xorI i k).toNat - 1) = rnd i k ∧ (i ≠ k → rO 8 i k (-1) = some (rnd i k)) := by decide +kernel
abbrev TMe := Tree (TCTs [cI, cI])
def rM : Nat → Int → Int → Int → TMe
  | 0, _, _, _ => .fail
  | n + 1, i, k, r => bif i != k then rM n (W64 (Int.tdiv i 2)) (W64 (Int.tdiv k 2)) (W64 (r + 1)) else .leaf (r, 0, ())
theorem rM_sat : ∀ (n : Nat) (i k r v : Int), rO n i k r = some v → (rM n i k r).sat (fun y => y = (v, 0, ()))
  | 0, _, _, _, _, h => by cases h
  | n + 1, i, k, r, v, h => by
    simp only [rO] at h
    simp only [rM]
    cases hc : (i != k) with
    | true => rw [hc] at h; exact rM_sat n _ _ _ v h
    | false => rw [hc] at h; cases h; exact rfl
def meV (l : List Int) (a b : Int) : Int × Int := bif drV l != 0 then (0, drV l) else bif decide (fiV l a < 0) || (decide (fiV l b < 0) || fiV l a == fiV l b) then (0, 5) else (rnd (fiV l a) (fiV l b), 0)
abbrev s_Meet : PureT := spec [.sl cI, cI, cI] [cI, cI] (fun _ => true) (fun x => ((meV x.1 x.2.1 x.2.2.1).1, (meV x.1 x.2.1 x.2.2.1).2, ()))
theorem fiV_lt (l : List Int) (p : Int) : fiV l p < l.length := by
  unfold fiV
  cases h : l.any (fiB p) with
  | false => simp only [cond_false]; omega
  | true =>
    simp only [cond_true]
    rw [List.any_eq_true] at h
    have := List.findIdx_lt_length.2 h
    omega
theorem fiV_get {l : List Int} {p : Int} (h : 0 ≤ fiV l p) : ∃ i : Nat, fiV l p = i ∧ ∃ hi : i < l.length, l[i] = p ∧ p ≠ -1 := by
  unfold fiV at h ⊢
  cases ha : l.any (fiB p) with
  | false => rw [ha] at h; simp at h
  | true =>
    rw [List.any_eq_true] at ha
    have hlt := List.findIdx_lt_length.2 ha
    refine ⟨l.findIdx (fiB p), rfl, hlt, ?_⟩
    have := List.findIdx_getElem (w := hlt)
    unfold fiB at this
    simp only [Bool.and_eq_true, beq_iff_eq, bne_iff_ne] at this
    unfold fiB
    exact this
def m1_me (i k : Int) : TMe := bif decide (0 ≤ IntKind.wrap .u64 (xorI i k) ∧ IntKind.wrap .u64 (xorI i k) ≤ 64) then .leaf (W64 (blF (Int.toNat (IntKind.wrap .u64 (xorI i k))) - 1), 0, ()) else .fail
def T_eMe (l : List Int) (a b : Int) : TMe := bif drV l != 0 then .leaf (0, drV l, ()) else bif decide (fiV l a < 0) then .leaf (0, 5, ()) else bif decide (fiV l b < 0) then .leaf (0, 5, ()) else bif fiV l a == fiV l b then .leaf (0, 5, ()) else m1_me (fiV l a) (fiV l b)
theorem T_eMe_ok (l : List Int) (a b : Int) : (T_eMe l a b).sat (fun y => y = ((meV l a b).1, (meV l a b).2, ())) := by
  unfold T_eMe meV
  refine sat_cond (fun h => ?_) (fun h => ?_)
  · rw [h]; exact rfl
  have hl := dr_len h
  rw [h]
  refine sat_cond (fun h2 => ?_) (fun h2 => ?_)
  · rw [h2]; exact rfl
  refine sat_cond (fun h3 => ?_) (fun h3 => ?_)
  · rw [h2, h3]; exact rfl
  refine sat_cond (fun h4 => ?_) (fun h4 => ?_)
  · rw [h2, h3, h4]; exact rfl
  rw [h2, h3, h4]
  have h2 := of_decide_eq_false h2
  have h3 := of_decide_eq_false h3
  have u1 := fiV_lt l a
  have u2 := fiV_lt l b
  obtain ⟨i, hi⟩ := Int.eq_ofNat_of_zero_le (show 0 ≤ fiV l a by omega)
  obtain ⟨k, hk⟩ := Int.eq_ofNat_of_zero_le (show 0 ≤ fiV l b by omega)
  obtain ⟨r1, r2, r3, r4⟩ := rnd_ok i (by omega) k (by omega)
  rw [hi, hk]
  unfold m1_me
  rw [wrapU (n := xorI i k) r1 (by omega)]
  refine sat_must (decide_eq_true ⟨r1, r2⟩) ?_
  rw [r3]
  exact rfl
theorem q_eMeet : PureOk Try.prog 22 s_Meet := q_by (ctx_ok mixed puMe (fns_cons is_eMeet fns_nil)) 6 (fun x => T_eMe x.1 x.2.1 x.2.2.1) (fun x => by kernel_rfl) fun x _ _ => T_eMe_ok x.1 x.2.1 x.2.2.1
def T_rMe (l : List Int) (a b : Int) : TMe := bif drV l != 0 then .leaf (0, drV l, ()) else bif decide (fiV l a < 0) then .leaf (0, 5, ()) else bif decide (fiV l b < 0) then .leaf (0, 5, ()) else bif a == b then .leaf (0, 5, ()) else rM 8 (fiV l a) (fiV l b) (-1)
theorem T_rMe_ok (l : List Int) (a b : Int) : (T_rMe l a b).sat (fun y => y = ((meV l a b).1, (meV l a b).2, ())) := by
  unfold T_rMe meV
  refine sat_cond (fun h => ?_) (fun h => ?_)
  · rw [h]; exact rfl
  have hl := dr_len h
  rw [h]
  refine sat_cond (fun h2 => ?_) (fun h2 => ?_)
  · rw [h2]; exact rfl
  refine sat_cond (fun h3 => ?_) (fun h3 => ?_)
  · rw [h2, h3]; exact rfl
  rw [h2, h3]
  have h2 := of_decide_eq_false h2
  have h3 := of_decide_eq_false h3
  obtain ⟨i, hi, hil, ei, ni⟩ := fiV_get (l := l) (p := a) (by omega)
  obtain ⟨k, hk, hkl, ek, nk⟩ := fiV_get (l := l) (p := b) (by omega)
  refine sat_cond (fun h4 => ?_) (fun h4 => ?_)
  · have e : a = b := by simpa using h4
    rw [e, show (fiV l b == fiV l b) = true by simp]
    exact rfl
  · have ne : a ≠ b := by simpa using h4
    have nik : i ≠ k := fun e => ne (by subst e; exact ei.symm.trans ek)
    obtain ⟨r1, r2, r3, r4⟩ := rnd_ok i (by omega) k (by omega)
    rw [show (fiV l a == fiV l b) = false by rw [hi, hk]; simp; omega, hi, hk]
    exact rM_sat 8 i k (-1) _ (r4 nik)
theorem q_rMeet : PureOk Try.prog 28 s_Meet := q_by (ctxU_ok (u := 8) mixed puMe (fns_cons is_rMeet fns_nil)) 6 (fun x => T_rMe x.1 x.2.1 x.2.2.1) (fun x => by kernel_rfl) fun x _ _ => T_rMe_ok x.1 x.2.1 x.2.2.1
/-! Substitute -/
def suV (l : List Int) (a b : Int) : List Int × Int := bif drV l != 0 then ([], drV l) else bif decide (fiV l a < 0) then ([], 5) else bif decide (b < 0) || decide (b > 1000) then ([], 2) else bif decide (fiV l b ≥ 0) then ([], 12) else (setA l (fiV l a).toNat b, 0)
abbrev s_Sub : PureT := spec [.sl cI, cI, cI] [.sl cI, cI] (fun _ => true) (fun x => ((suV x.1 x.2.1 x.2.2.1).1, (suV x.1 x.2.1 x.2.2.1).2, ()))
def m1_su (l : List Int) (i b : Int) : TDw := bif appOk ([] : List Int) l 8 then inO l.length i (.leaf (setA l (Int.toNat i) b, 0, ())) else .fail
def T_rSu (l : List Int) (a b : Int) : TDw := bif drV l != 0 then .leaf ([], drV l, ()) else bif decide (fiV l a < 0) then .leaf ([], 5, ()) else bif decide (b < 0) then .leaf ([], 2, ()) else bif decide (b > 1000) then .leaf ([], 2, ()) else bif decide (fiV l b ≥ 0) then .leaf ([], 12, ()) else m1_su l (fiV l a) b
theorem T_rSu_ok (l : List Int) (a b : Int) : (T_rSu l a b).sat (fun y => y = ((suV l a b).1, (suV l a b).2, ())) := by
  unfold T_rSu suV
  refine sat_cond (fun h => ?_) (fun h => ?_)
  · rw [h]; exact rfl
  have hl := dr_len h
  rw [h]
  refine sat_cond (fun h2 => ?_) (fun h2 => ?_)
  · rw [h2]; exact rfl
  refine sat_cond (fun h3 => ?_) (fun h3 => ?_)
  · rw [h2, h3]; exact rfl
  refine sat_cond (fun h4 => ?_) (fun h4 => ?_)
  · rw [h2, h3, h4]; exact rfl
  refine sat_cond (fun h5 => ?_) (fun h5 => ?_)
  · rw [h2, h3, h4, h5]; exact rfl
  rw [h2, h3, h4, h5]
  have h2 := of_decide_eq_false h2
  have u1 := fiV_lt l a
  unfold m1_su
  rw [app_ok (by simp; omega) (by omega), inO_ok (by omega)]
  exact rfl
theorem q_rSub : PureOk Try.prog 30 s_Sub := q_by (ctx_ok mixed puMe (fns_cons is_rSub fns_nil)) 6 (fun x => T_rSu x.1 x.2.1 x.2.2.1) (fun x => by kernel_rfl) fun x _ _ => T_rSu_ok x.1 x.2.1 x.2.2.1
noncomputable def lb_su : Code := (loopsOf (bodyOf Try.f29)).getD 0 .skip
def L_su : Lay := { keys := [0, 1, 2, 9, 23, 24, 25], ks := [.d (.sl cI), .d cI, .d cI, .q 0, .d (.sl cI), .d cI, .d cI], bs := [(0, 0, [.m cI cI])], n := 63, nx := 1000, marks := [] }
def R_su : Lay := { keys := [0, 1, 2, 9], ks := [.d (.sl cI), .d cI, .d cI, .q 0], bs := [(0, 0, [.m cI cI])], n := 63, nx := 1000, marks := [] }
def E_su : XE → Lay := fun _ => R_su
abbrev cSu := L_su.T ⊕ Left' E_su
def hd_su (l : List Int) (a b n i : Int) (m : Int → Option Int) : L_su.T := ((l, a, b, (), l, n, i, ()), (m, ()), ())
def ex_su (l : List Int) (a b : Int) (m : Int → Option Int) : Left' E_su := ⟨.exit 0, ((l, a, b, (), ()), (m, ()), ())⟩
def sm_su (l : List Int) (a b : Int) (l2 : List Int) (n i : Int) (m : Int → Option Int) : Tree cSu := bif decide (i < n) then inN l2.length i (.leaf (.inl ((l, a, b, (), l2, n, W64 (i + 1), ()), (upd m (getA l2 (Int.toNat i) 0) i, ()), ()))) else .leaf (.inr (ex_su l a b m))
def st_su (g : L_su.T) : Tree cSu := sm_su g.1.1 g.1.2.1 g.1.2.2.1 g.1.2.2.2.2.1 g.1.2.2.2.2.2.1 g.1.2.2.2.2.2.2.1 g.2.1.1
def fu_su (g : L_su.T) : Nat := (g.1.1 : List Int).length + 1
theorem e_su (g : L_su.T) : evC Try.prog (evFn X_ix0 6) X_ix0.pures 29 X_ix0.u (fun _ => none) lb_su (L_su.of g) (stepOut L_su E_su) = st_su g := by kernel_rfl
noncomputable def X_su : Ctx := ctxL Try.prog plMe [(29, Try.f29), (63, Try.f63)] [((29, 6), loopSum L_su E_su (finX [.exit 0] st_su fu_su))]
end Ev
end V
end Go.Proofs.Ytgchccljmjmibaa
