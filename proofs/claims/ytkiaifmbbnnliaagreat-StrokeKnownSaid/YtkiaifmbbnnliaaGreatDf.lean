import Derived.Test.YtkiaifmbbnnliaaGreatCq
namespace Go.Proofs.YtkiaifmbbnnliaaGreat
open Go.RowKit
namespace V
namespace St
theorem is_sRuns : FnIs Tryz.prog (43, Tryz.f43) := ⟨Tryz.func43, by kernel_rfl, by kernel_rfl⟩
theorem is_sStand : FnIs Tryz.prog (96, Tryz.f96) := ⟨Tryz.func96, by kernel_rfl, by kernel_rfl⟩
theorem is_rStands : FnIs Tryz.prog (101, Tryz.f101) := ⟨Tryz.func101, by kernel_rfl, by kernel_rfl⟩
def stn (u v gp wr r : Int) : Int := bif decide (max v (W64 (0 - v)) ≥ W64 (Int.tdiv gp 2)) then 0 else bif decide (W64 (u - r) ≥ W64 (0 - wr)) then 3 else bif decide (W64 (u + r) > wr) then 2 else bif decide (W64 (u + r) > W64 (0 - wr)) then 1 else 0
def stT (u v gp wr r : Int) : TEr := bif decide (max v (W64 (0 - v)) ≥ W64 (Int.tdiv gp 2)) then .leaf (0, ()) else bif decide (W64 (u - r) ≥ W64 (0 - wr)) then .leaf (3, ()) else bif decide (W64 (u + r) > wr) then .leaf (2, ()) else bif decide (W64 (u + r) > W64 (0 - wr)) then .leaf (1, ()) else .leaf (0, ())
theorem stT_eq {u v gp wr r : Int} : stT u v gp wr r = .leaf (stn u v gp wr r, ()) := by
  unfold stT stn
  cases decide (max v (W64 (0 - v)) ≥ W64 (Int.tdiv gp 2)) with
  | true => rfl
  | false =>
    cases decide (W64 (u - r) ≥ W64 (0 - wr)) with
    | true => rfl
    | false =>
      cases decide (W64 (u + r) > wr) with
      | true => rfl
      | false => cases decide (W64 (u + r) > W64 (0 - wr)) <;> rfl
def uH (h : TCT cHoop) (p : TCT cPt) : Int := bif h.2.2.2.2.1 then W64 (p.1 - h.1) else W64 (p.2.1 - h.2.1)
def vH (h : TCT cHoop) (p : TCT cPt) : Int := bif h.2.2.2.2.1 then W64 (p.2.1 - h.2.1) else W64 (p.1 - h.1)
def fwd (f : Bool) (u : Int) : Int := bif !f then W64 (0 - u) else u
def standV (h : TCT cHoop) (f : Bool) (p : TCT cPt) (r : Int) : Int := stn (fwd f (uH h p)) (vH h p) h.2.2.1 h.2.2.2.1 r
abbrev s_std : PureT := spec [cHoop, .b, cPt, cI] [cI] (fun _ => true) (fun x => (standV x.1 x.2.1 x.2.2.1 x.2.2.2.1, ()))
def T_std (h : TCT cHoop) (f : Bool) (p : TCT cPt) (r : Int) : TEr := bif h.2.2.2.2.1 then bif !f then stT (W64 (0 - W64 (p.1 - h.1))) (W64 (p.2.1 - h.2.1)) h.2.2.1 h.2.2.2.1 r else stT (W64 (p.1 - h.1)) (W64 (p.2.1 - h.2.1)) h.2.2.1 h.2.2.2.1 r
  else bif !f then stT (W64 (0 - W64 (p.2.1 - h.2.1))) (W64 (p.1 - h.1)) h.2.2.1 h.2.2.2.1 r else stT (W64 (p.2.1 - h.2.1)) (W64 (p.1 - h.1)) h.2.2.1 h.2.2.2.1 r
theorem T_std_ok {h : TCT cHoop} {f : Bool} {p : TCT cPt} {r : Int} : (T_std h f p r).sat (fun y => y = (standV h f p r, ())) := by
  unfold T_std standV fwd uH vH
  simp only [stT_eq]
  cases h.2.2.2.2.1 <;> cases f <;> exact rfl
noncomputable def X_sd : Ctx := ctx Tryz.prog [] [(96, Tryz.f96), (101, Tryz.f101)]
theorem X_sd_ok : CtxOk X_sd := ctx_ok mixed puOk_nil (fns_cons is_sStand (fns_cons is_rStands fns_nil))
theorem q_sStand : PureOk Tryz.prog 96 s_std := q_by X_sd_ok 7 (fun x => T_std x.1 x.2.1 x.2.2.1 x.2.2.2.1) (fun x => by kernel_rfl) fun x _ _ => T_std_ok
theorem q_rStands : PureOk Tryz.prog 101 s_std := q_by X_sd_ok 7 (fun x => T_std x.1 x.2.1 x.2.2.1 x.2.2.2.1) (fun x => by kernel_rfl) fun x _ _ => T_std_ok
noncomputable def lb_ru : Code := (loopsOf (bodyOf Tryz.f43)).getD 0 .skip
abbrev kHo : List SK := [.d cI, .d cI, .d cI, .d cI, .d .b]
def plRu : List (Nat × PureT) := (75, s_law) :: (42, s_law) :: (94, s_cfPt) :: (100, s_Check) :: (96, s_std) :: (101, s_std) :: []
theorem puRu : PuOk Tryz.prog plRu := puOk_cons is_lCheck.plain q_lCheck (puOk_cons is_rLaw.plain q_rLaw (puOk_cons is_cfPt.plain q_cfPt (puOk_cons is_rCk1.plain q_rCk1 (puOk_cons is_sStand.plain q_sStand (puOk_cons is_rStands.plain q_rStands puOk_nil)))))
noncomputable def X_ru0 : Ctx := ctx Tryz.prog plRu []
theorem X_ru0_ok : CtxOk X_ru0 := ctx_ok mixed puRu fns_nil
abbrev Trk : Type := List (TCT cPt)
def L_ru : Lay := { keys := [2, 3, 13, 16, 89, 90, 91], ks := [.d .b, .d cI, .p 12 0 0 0, .d cI, .d (.sl cPt), .d cI, .d cI], bs := [(12, 80, kHo)], n := 117, nx := 1000, marks := [] }
def R_ru : Lay := { keys := [], ks := [], bs := [], n := 117, nx := 1000, marks := [] }
def Rf_ru : Lay := { keys := [10, 11], ks := [.d .b, .d cI], bs := [], n := 117, nx := 1000, marks := [] }
def E_ru : XE → Lay := fun e => match e with | .ret => Rf_ru | _ => R_ru
abbrev TRu := Tree (L_ru.T ⊕ Left' E_ru)
def hd_ru (h : TCT cHoop) (f : Bool) (r : Int) (l : Trk) (n i was : Int) : L_ru.T := ((f, r, (), was, l, n, i, ()), (h, ()))
def rt_ru : Left' E_ru := ⟨.ret, ((true, 0, ()), ())⟩
def ex_ru : Left' E_ru := ⟨.exit 1, ((), ())⟩
def getPt (l : Trk) (i : Nat) : TCT cPt := getA l i (dflt cPt)
def nx_ru (h : TCT cHoop) (f : Bool) (r : Int) (l : Trk) (n i : Int) : TRu := .leaf (.inl (hd_ru h f r l n (W64 (i + 1)) (standV h f (getPt l (Int.toNat i)) r)))
def st_ru' (h : TCT cHoop) (f : Bool) (r : Int) (l : Trk) (n i was : Int) : TRu := bif decide (i < n) then inN l.length i (bif decide (i > 0) then bif standV h f (getPt l (Int.toNat i)) r == 3 then bif was == 1 then .leaf (.inr rt_ru) else bif was == 2 then .leaf (.inr rt_ru) else nx_ru h f r l n i else nx_ru h f r l n i else nx_ru h f r l n i) else .leaf (.inr ex_ru)
def st_ru (g : L_ru.T) : TRu := st_ru' g.2.1 g.1.1 g.1.2.1 g.1.2.2.2.2.1 g.1.2.2.2.2.2.1 g.1.2.2.2.2.2.2.1 g.1.2.2.2.1
def fu_ru (g : L_ru.T) : Nat := Int.toNat g.1.2.2.2.2.2.1 + 1
theorem l_ru : LoopOk Tryz.prog 43 lb_ru (loopSum L_ru E_ru (finX [.ret, .exit 1] st_ru fu_ru)) := loopOk_x0 X_ru0_ok 7 _ L_ru E_ru (fun e => by cases e <;> exact Nat.le_refl _) [.ret, .exit 1] st_ru fu_ru (fun g => by kernel_rfl)
end St
end V
end Go.Proofs.YtkiaifmbbnnliaaGreat
