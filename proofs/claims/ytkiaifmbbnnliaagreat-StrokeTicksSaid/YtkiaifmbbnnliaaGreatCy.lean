import Derived.Test.YtkiaifmbbnnliaaGreatCx
namespace Go.Proofs.YtkiaifmbbnnliaaGreat
open Go.RowKit
namespace V
namespace St
def FL_rtD : FLay := { ks := [.d cGr, .d cSt], bs := [], nx := 4 }
def FR_rt : FLay := { ks := [.ag kSo, kKn, .d cI], bs := [], nx := 1000 }
def FE_rt (b : Bool) : FLay := bif b then FR_rt else FN
theorem FE_rt_nxD (b : Bool) : 4 ≤ (FE_rt b).nx := by cases b <;> exact (by decide : (4 : Nat) ≤ 1000)
abbrev TRt := Tree (LeftF FE_rt)
def erT (e : Int) : (FE_rt true).T := ((([], [], 0, 0, 0, ()), [], e, ()), ())
def pn_rt (e : Int) : TRt := .leaf ⟨true, erT e⟩
def ou_rt (s : SKTs kSo) (fl : Int) (ks : Kns) : TRt := .leaf ⟨true, (((s.1, s.2.1, s.2.2.1, fl, W64 (s.2.2.2.2.1 + 1), ()), ks, 0, ()), ())⟩
def fi_rt (r : R_t0.T) : TRt := bif decide (r.2.1.2.2.2.1 > 0) then ou_rt r.2.1 (W64 (r.2.1.2.2.2.1 - 1)) r.1.2.2.1 else ou_rt r.2.1 r.2.1.2.2.2.1 r.1.2.2.1
def k_rt (y : Option (Left' E_t0)) : TRt := bif isE .ret y then .leaf ⟨true, (((valE .ret y).2.1, (valE .ret y).1.2.1, (valE .ret y).1.2.2.1, ()), ())⟩ else bif isE (.exit 0) y then fi_rt (valE (.exit 0) y) else .fail
def cT4 (g : TCT cGr) (s : SKTs kSo) : RT := ⟨grTo g, r0, s.2.2.1, s.2.2.2.1, s.2.2.2.2.1, postsV g.1, 1⟩
def y_t0 (Y : YR4) (g : TCT cGr) (s : SKTs kSo) (ms : Mots) : Option (Left' E_t0) := iter (st_t0 Y) 17 (hd_t0 (cT4 g s) (ms, s.2.1, []))
def T_rt (Y : YR4) (y : Option (Mots ⊕ Int)) (g : TCT cGr) (s : SKTs kSo) : TRt := bif s.2.2.2.2.1 == 4000 then pn_rt 3 else thL y [] pn_rt (fun ms => szT g.1 (k_rt (y_t0 Y g s ms))) [4]
noncomputable def X_rtD (Y : YR4) (YW : FL_rw.T → Option (Mots ⊕ Int)) : Ctx := ctxS Tryz.prog plR4 [(69, Tryz.f69)] [((69, 9), sm_t0 Y)] [(63, spYR Y), (27, spYW YW)]
theorem e_rtD (Y : YR4) (YW : FL_rw.T → Option (Mots ⊕ Int)) (x : FL_rtD.T) : evBody (X_rtD Y YW) (evFn (X_rtD Y YW) 6) 69 (ofKs FL_rtD.ks x.1 FL_rtD.nx) (FL_rtD.lay.hp x) (FL_rtD.lay.of x).nx (foutK FE_rt) = T_rt Y (YW ((x.1.1, x.1.2.1, ()), ())) x.1.1 x.1.2.1 := by kernel_rfl
end St
end V
end Go.Proofs.YtkiaifmbbnnliaaGreat
