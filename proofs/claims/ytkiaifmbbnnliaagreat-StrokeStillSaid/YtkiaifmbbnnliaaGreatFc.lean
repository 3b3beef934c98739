import Derived.Test.YtkiaifmbbnnliaaGreatFb
import Derived.Test.YtkiaifmbbnnliaaGreatEr
import Derived.Test.YtkiaifmbbnnliaaGreatDo
namespace Go.Proofs.YtkiaifmbbnnliaaGreat
open Go.RowKit
namespace V
namespace St
theorem is_StrokeStill : FnIs Tryz.prog (7, Tryz.f7) := ⟨Tryz.func7, by kernel_rfl, by kernel_rfl⟩
noncomputable def lb_so : Code := (loopsOf (bodyOf Tryz.f7)).getD 0 .skip
noncomputable def lb_si : Code := (loopsOf (bodyOf Tryz.f7)).getD 1 .skip
abbrev bsSt : List BK := [(0, 34, kGr), (1, 38, kSt), (7, 38, kSt)]
def L_si : Lay := { keys := [3, 4, 10, 11, 12, 13, 14, 15], ks := [.p 0 0 0 0, .p 1 0 0 0, .p 7 0 0 0, .d (.sl cKn), .d .b, .d cI, .d .b, .d cI], bs := bsSt, n := 253, nx := 2000, marks := [] }
def R_si : Lay := { keys := [3, 4, 10, 11, 12, 13, 14], ks := [.p 0 0 0 0, .p 1 0 0 0, .p 7 0 0 0, .d (.sl cKn), .d .b, .d cI, .d .b], bs := bsSt, n := 253, nx := 2000, marks := [] }
def E_si : XE → Lay := fun _ => R_si
def L_so : Lay := { keys := [3, 4, 10, 11, 12, 13], ks := [.p 0 0 0 0, .p 1 0 0 0, .p 7 0 0 0, .d (.sl cKn), .d .b, .d cI], bs := bsSt, n := 253, nx := 1000, marks := [] }
def R_so : Lay := { keys := [3, 4, 11, 12], ks := [.p 0 0 0 0, .p 1 0 0 0, .d (.sl cKn), .d .b], bs := [(0, 34, kGr), (1, 38, kSt)], n := 253, nx := 1000, marks := [] }
def Rf_so : Lay := { keys := [6], ks := [.d .b], bs := [], n := 253, nx := 1000, marks := [] }
def E_so : XE → Lay := fun e => match e with | .ret => Rf_so | _ => R_so
noncomputable def X_s00 : Ctx := ctx Tryz.prog [] []
theorem X_s00_ok : CtxOk X_s00 := ctx_ok mixed puOk_nil fns_nil
def tcI (i : Int) (x : TCT cKn) : Bool := x.2.2.2.1 == i || (x.2.2.1 == 0 && x.2.2.2.2.1 == i)
structure QS4 where
  g : SKTs kGr
  s : SKTs kSt
  u : SKTs kSt
  k : Kns
  t : Bool
def hd_si (q : QS4) (i : Int) (t : Bool) (n : Int) : L_si.T := (((), (), (), q.k, q.t, i, t, n, ()), (q.g, q.s, q.u, ()))
def ex_si (q : QS4) (i : Int) (t : Bool) : Left' E_si := ⟨.exit 2, (((), (), (), q.k, q.t, i, t, ()), (q.g, q.s, q.u, ()))⟩
abbrev TSi := Tree (L_si.T ⊕ Left' E_si)
def getK4 (k : Kns) (n : Int) : TCT cKn := getA k (Int.toNat n) (dflt cKn)
def st_si' (q : QS4) (i : Int) (t : Bool) (n : Int) : TSi := bif decide (n < (q.k.length : Int)) then bif t then .leaf (.inl (hd_si q i true (W64 (n + 1)))) else inN q.k.length n (bif (getK4 q.k n).2.2.2.1 == i then .leaf (.inl (hd_si q i true (W64 (n + 1)))) else inN q.k.length n (bif (getK4 q.k n).2.2.1 == 0 then inN q.k.length n (.leaf (.inl (hd_si q i ((getK4 q.k n).2.2.2.2.1 == i) (W64 (n + 1))))) else .leaf (.inl (hd_si q i false (W64 (n + 1)))))) else .leaf (.inr (ex_si q i t))
def qsi (g : L_si.T) : QS4 := ⟨g.2.1, g.2.2.1, g.2.2.2.1, g.1.2.2.2.1, g.1.2.2.2.2.1⟩
def st_si (g : L_si.T) : TSi := st_si' (qsi g) g.1.2.2.2.2.2.1 g.1.2.2.2.2.2.2.1 g.1.2.2.2.2.2.2.2.1
def fu_si (g : L_si.T) : Nat := (g.1.2.2.2.1 : Kns).length + 1
theorem l_si : LoopOk Tryz.prog 7 lb_si (loopSum L_si E_si (finX [.exit 2] st_si fu_si)) := loopOk_x0 X_s00_ok 7 _ L_si E_si (fun _ => Nat.le_refl _) [.exit 2] st_si fu_si (fun g => by kernel_rfl)
theorem si_run {q : QS4} {i : Int} {t : Bool} {n : Nat} (hn : n < q.k.length) (hl : (q.k.length : Int) ≤ maxK .i64) : st_si' q i t (n : Int) = .leaf (.inl (hd_si q i (t || tcI i (getA q.k n (dflt cKn))) ((n + 1 : Nat) : Int))) := by
  unfold st_si' getK4 tcI
  rw [decide_eq_true (show (n : Int) < (q.k.length : Int) by omega), W64_succ hn hl, inN_ok (by omega), inN_ok (by omega), inN_ok (by omega), show Int.toNat (n : Int) = n from rfl]
  cases t with
  | true => rfl
  | false =>
    cases (getA q.k n (dflt cKn)).2.2.2.1 == i with
    | true => rfl
    | false =>
      cases (getA q.k n (dflt cKn)).2.2.1 == 0 with
      | true => rfl
      | false => rfl
theorem runO_any4 {α E : Type} {qf : α → Bool} {e : Bool → E} : ∀ (l : List α) (i : Nat) (t : Bool), runO (fun _ x (t : Bool) => some (.inl (t || qf x))) (fun t => some (e t)) i l t = some (e (t || l.any qf))
  | [], _, t => by simp [runO]
  | x :: l, i, t => by
    simp only [runO, List.any_cons]
    rw [runO_any4 l (i + 1), Bool.or_assoc]
theorem it_si {q : QS4} {i : Int} (hl : (q.k.length : Int) ≤ maxK .i64) : iter st_si (q.k.length + 1) (hd_si q i false 0) = some (ex_si q i (q.k.any (tcI i))) := by
  refine iter_list q.k (fun (j : Nat) (t : Bool) => hd_si q i t (j : Int)) (fun _ x t => some (.inl (t || tcI i x))) (fun t => some (ex_si q i t)) (fun _ _ => True) (fun j t hj _ => ⟨?_, trivial⟩) (fun t e _ he => ?_) q.k.length 0 false _ (q.k.length + 1) (by omega) (by omega) trivial ?_
  · show (st_si' q i t (j : Int)).run = _
    rw [si_run hj hl, getA_lt hj]
    rfl
  · show (st_si' q i t (q.k.length : Int)).run = _
    cases he
    unfold st_si'
    rw [decide_eq_false (show ¬ (q.k.length : Int) < (q.k.length : Int) by omega)]
    rfl
  · rw [List.drop_zero, runO_any4, Bool.false_or]
def hd_so (q : QS4) (i : Int) : L_so.T := (((), (), (), q.k, q.t, i, ()), (q.g, q.s, q.u, ()))
def ex_so (q : QS4) : Left' E_so := ⟨.exit 0, (((), (), q.k, q.t, ()), (q.g, q.s, ()))⟩
def rt_so : Left' E_so := ⟨.ret, ((false, ()), ())⟩
abbrev TSo := Tree (L_so.T ⊕ Left' E_so)
def RFo : TSo := .leaf (.inr rt_so)
def ptQ (a b : TCT cPt) : Bool := a.1 == b.1 && (a.2.1 == b.2.1 && true)
def moQ (a b : TCT cMot) : Bool := ptQ a.1 b.1 && (ptQ a.2.1 b.2.1 && (ptQ a.2.2.1 b.2.2.1 && true))
def msQ (s : SKTs kSt) : Mots := s.1
def osQ (s : SKTs kSt) : List Bool := s.2.1
def mAtQ (s : SKTs kSt) (i : Int) : TCT cMot := getM (msQ s) (Int.toNat i)
def oAtQ (s : SKTs kSt) (i : Int) : Bool := getA (osQ s) (Int.toNat i) (dflt .b)
def C_so (q : QS4) (i : Int) : TSo := bif q.t then inN (msQ q.u).length i (inN (msQ q.s).length i (bif !moQ (mAtQ q.u i) (mAtQ q.s i) then RFo else inN (osQ q.u).length i (inN (osQ q.s).length i (bif !(oAtQ q.u i == oAtQ q.s i) then RFo else .leaf (.inl (hd_so q (W64 (i + 1)))))))) else .leaf (.inl (hd_so q (W64 (i + 1))))
def B_so (q : QS4) (i : Int) (t : Bool) : TSo := inN (msQ q.s).length i (bif (mAtQ q.s i).2.1.1 == 0 && ((mAtQ q.s i).2.1.2.1 == 0 && true) then bif !t then inN (msQ q.u).length i (inN (msQ q.s).length i (bif !moQ (mAtQ q.u i) (mAtQ q.s i) then RFo else C_so q i)) else C_so q i else C_so q i)
def A_so (q : QS4) (i : Int) (t : Bool) : TSo := inN (osQ q.s).length i (bif oAtQ q.s i then inN (osQ q.u).length i (bif !oAtQ q.u i then RFo else inN (msQ q.u).length i (inN (msQ q.s).length i (bif !ptQ (mAtQ q.u i).1 (mAtQ q.s i).1 then RFo else bif t then RFo else B_so q i t))) else B_so q i t)
def kI_so (y : Option (Left' E_si)) : TSo := bif isE (.exit 2) y then A_so ⟨(valE (.exit 2) y).2.1, (valE (.exit 2) y).2.2.1, (valE (.exit 2) y).2.2.2.1, (valE (.exit 2) y).1.2.2.2.1, (valE (.exit 2) y).1.2.2.2.2.1⟩ (valE (.exit 2) y).1.2.2.2.2.2.1 (valE (.exit 2) y).1.2.2.2.2.2.2.1 else .fail
def st_so' (q : QS4) (i : Int) : TSo := bif decide (i < ((msQ q.s).length : Int)) then kI_so (iter st_si (q.k.length + 1) (hd_si q i false 0)) else .leaf (.inr (ex_so q))
def qso (g : L_so.T) : QS4 := ⟨g.2.1, g.2.2.1, g.2.2.2.1, g.1.2.2.2.1, g.1.2.2.2.2.1⟩
def st_so (g : L_so.T) : TSo := st_so' (qso g) g.1.2.2.2.2.2.1
def fu_so (g : L_so.T) : Nat := (msQ g.2.2.1).length + 1
def Lt_so : LoopT := fun k => bif Nat.beq k 17 then some (loopSum L_si E_si (finX [.exit 2] st_si fu_si)) else none
theorem e_so (g : L_so.T) : evC Tryz.prog (evFn X_s00 7) X_s00.pures 7 X_s00.u Lt_so lb_so (L_so.of g) (stepOut L_so E_so) = st_so g := by kernel_rfl
end St
end V
end Go.Proofs.YtkiaifmbbnnliaaGreat
