import Derived.Test.YtkiaifmbbnnliaaGreatCq
namespace Go.Proofs.YtkiaifmbbnnliaaGreat
open Go.RowKit
namespace V
namespace St
theorem is_sMet : FnIs Tryz.prog (47, Tryz.f47) := ⟨Tryz.func47, by kernel_rfl, by kernel_rfl⟩
theorem is_sMet1 : FnIs Tryz.prog (98, Tryz.f98) := ⟨Tryz.func98, by kernel_rfl, by kernel_rfl⟩
theorem is_rMet : FnIs Tryz.prog (48, Tryz.f48) := ⟨Tryz.func48, by kernel_rfl, by kernel_rfl⟩
theorem is_cont : FnIs Tryz.prog (99, Tryz.f99) := ⟨Tryz.func99, by kernel_rfl, by kernel_rfl⟩
theorem is_indx : FnIs Tryz.prog (148, Tryz.f148) := ⟨Tryz.func148, by kernel_rfl, by kernel_rfl⟩
noncomputable def lb_ix : Code := (loopsOf (bodyOf Tryz.f148)).getD 0 .skip
def L_ix : Lay := { keys := [0, 1, 7, 8], ks := [.d (.sl cI), .d cI, .d cI, .d cI], bs := [], n := 19, nx := 1000, marks := [] }
def R_ix : Lay := { keys := [], ks := [], bs := [], n := 19, nx := 1000, marks := [] }
def Rf_ix : Lay := { keys := [4], ks := [.d cI], bs := [], n := 19, nx := 1000, marks := [] }
def E_ix : XE → Lay := fun e => match e with | .ret => Rf_ix | _ => R_ix
def hd_ix (l : List Int) (v n i : Int) : L_ix.T := ((l, v, n, i, ()), ())
abbrev TIx := Tree (L_ix.T ⊕ Left' E_ix)
def rt_ix (i : Int) : Left' E_ix := ⟨.ret, ((i, ()), ())⟩
def ex_ix : Left' E_ix := ⟨.exit 0, ((), ())⟩
def st_ix' (l : List Int) (v n i : Int) : TIx := bif decide (i < n) then inN l.length i (bif v == getA l (Int.toNat i) (dflt cI) then .leaf (.inr (rt_ix i)) else .leaf (.inl (hd_ix l v n (W64 (i + 1))))) else .leaf (.inr ex_ix)
def st_ix (g : L_ix.T) : TIx := st_ix' g.1.1 g.1.2.1 g.1.2.2.1 g.1.2.2.2.1
def fu_ix (g : L_ix.T) : Nat := Int.toNat g.1.2.2.1 + 1
noncomputable def X_n : Ctx := ctx Tryz.prog [] []
theorem X_n_ok : CtxOk X_n := ctx_ok mixed puOk_nil fns_nil
theorem l_ix : LoopOk Tryz.prog 148 lb_ix (loopSum L_ix E_ix (finX [.ret, .exit 0] st_ix fu_ix)) := loopOk_x0 X_n_ok 7 _ L_ix E_ix (fun e => by cases e <;> exact Nat.le_refl _) [.ret, .exit 0] st_ix fu_ix (fun g => by kernel_rfl)
def ixE (l : List Int) (v : Int) (i : Nat) (_ : Unit) : Unit ⊕ Int := bif v == getA l i (dflt cI) then .inr i else .inl ()
def res_ix : Unit ⊕ Int → Left' E_ix
  | .inl _ => ex_ix
  | .inr i => rt_ix i
theorem it_ix {l : List Int} {v : Int} (hl : (l.length : Int) ≤ maxK .i64) : iter st_ix (l.length + 1) (hd_ix l v l.length 0) = some (res_ix (foldN (ixE l v) 0 l.length ())) := by
  refine iter_n l.length (fun i _ => hd_ix l v l.length i) (ixE l v) res_ix (fun _ _ => True) (fun i s hi _ => ?_) (fun _ _ _ _ _ _ => trivial) (fun s _ => ?_) l.length 0 () (by omega) trivial
  · show (st_ix' l v l.length i).run = _
    unfold st_ix' ixE
    rw [decide_eq_true (show (i : Int) < (l.length : Int) by omega), inN_ok (by omega), show Int.toNat (i : Int) = i from rfl, W64_succ hi hl]
    cases v == getA l i (dflt cI) <;> rfl
  · show (st_ix' l v l.length l.length).run = _
    unfold st_ix'
    rw [decide_eq_false (show ¬ (l.length : Int) < (l.length : Int) by omega)]
    rfl
def anyB (l : List Int) (v : Int) : Bool := l.any (fun y => y == v)
theorem ix_any {l : List Int} {v : Int} : ∀ (k i : Nat), i + k = l.length → (match foldN (ixE l v) i k () with
    | .inl _ => anyB (l.drop i) v = false
    | .inr j => anyB (l.drop i) v = true ∧ 0 ≤ j)
  | 0, i, h => by
    show anyB (l.drop i) v = false
    rw [List.drop_eq_nil_of_le (by omega)]; rfl
  | k + 1, i, h => by
    have hi : i < l.length := by omega
    have e : anyB (l.drop i) v = ((l[i] == v) || anyB (l.drop (i + 1)) v) := by rw [List.drop_eq_getElem_cons hi]; rfl
    unfold foldN
    unfold ixE
    rw [getA_lt hi]
    cases hv : v == l[i] with
    | true =>
      rw [e, show (l[i] == v) = true by rw [← beq_iff_eq.1 hv]; exact beq_self_eq_true _]
      exact ⟨rfl, Int.natCast_nonneg i⟩
    | false =>
      have hv' : (l[i] == v) = false := by
        cases hc : l[i] == v with
        | false => rfl
        | true => rw [← beq_iff_eq.1 hc, beq_self_eq_true] at hv; cases hv
      rw [e, hv', Bool.false_or]
      exact ix_any k (i + 1) (by omega)
abbrev s_con : PureT := spec [.sl cI, cI] [.b] (fun _ => true) (fun x => (anyB x.1 x.2.1, ()))
noncomputable def X_con : Ctx := ctxL Tryz.prog [] [(99, Tryz.f99), (148, Tryz.f148)] [((148, 2), loopSum L_ix E_ix (finX [.ret, .exit 0] st_ix fu_ix))]
def k_con (y : Option (Left' E_ix)) : Tree (TCTs [.b]) := bif isE .ret y then .leaf (decide ((valE .ret y).1.1 ≥ 0), ()) else bif isE (.exit 0) y then .leaf (false, ()) else .fail
noncomputable def lb_me : Code := (loopsOf (bodyOf Tryz.f47)).getD 0 .skip
abbrev kIn : SK := .o 3 cI
abbrev bsM : List BK := [(0, 34, kGr)]
def L_me : Lay := { keys := [2, 9, 10, 27, 28, 29], ks := [.d cI, .f 98 [] [.p 0 0 0 0], kIn, .d (.sl cKn), .d cI, .d cI], bs := bsM, n := 82, nx := 1000, marks := [] }
def R_me : Lay := { keys := [10], ks := [kIn], bs := [], n := 82, nx := 1000, marks := [] }
def Rf_me : Lay := { keys := [6, 7], ks := [.d (.sl cI), .d cI], bs := [], n := 82, nx := 1000, marks := [] }
def E_me : XE → Lay := fun e => match e with | .ret => Rf_me | _ => R_me
abbrev TMe := Tree (L_me.T ⊕ Left' E_me)
noncomputable def X_me1 : Ctx := ctx Tryz.prog [(99, s_con)] [(98, Tryz.f98)]
def rt_me : Left' E_me := ⟨.ret, (([], 2, ()), ())⟩
def ex_me (out : List Int) : Left' E_me := ⟨.exit 0, ((out, ()), ())⟩
def hd_me (x : SKTs kGr) (ball : Int) (l : Kns) (n i : Int) (out : List Int) : L_me.T := ((ball, ((), (), ()), out, l, n, i, ()), (x, ()))
def ad_me {β : Type} (out : List Int) (o : Int) (k : List Int → Tree β) : Tree β := bif decide (o ≥ 0) then bif !anyB out o then bif appOk out [o] 8 then k (out ++ [o]) else .fail else k out else k out
def chk_me {β : Type} (n b o : Int) (bad k : Tree β) : Tree β := bif decide (b ≥ 0) then bif !decide (b < n) then bad else bif decide (o ≥ 0) then bif !decide (o < n) then bad else bif b == o then bad else k else bad else bad
def getK (l : Kns) (i : Nat) : TCT cKn := getA l i (dflt cKn)
def one_me {β : Type} (ball : Int) (out : List Int) (b o : Int) (k : List Int → Tree β) : Tree β := bif ball == b then ad_me out o k else bif ball == o then ad_me out b k else k out
def st_me' (x : SKTs kGr) (ball : Int) (l : Kns) (n i : Int) (out : List Int) : TMe := bif decide (i < n) then inN l.length i (bif (getK l (Int.toNat i)).2.2.1 != 0 then .leaf (.inl (hd_me x ball l n (W64 (i + 1)) out)) else
  chk_me ((blX x).length : Int) (getK l (Int.toNat i)).2.2.2.1 (getK l (Int.toNat i)).2.2.2.2.1 (.leaf (.inr rt_me)) (one_me ball out (getK l (Int.toNat i)).2.2.2.1 (getK l (Int.toNat i)).2.2.2.2.1 fun out => .leaf (.inl (hd_me x ball l n (W64 (i + 1)) out)))) else .leaf (.inr (ex_me out))
def st_me (g : L_me.T) : TMe := st_me' g.2.1 g.1.1 g.1.2.2.2.1 g.1.2.2.2.2.1 g.1.2.2.2.2.2.1 g.1.2.2.1
def fu_me (g : L_me.T) : Nat := Int.toNat g.1.2.2.2.2.1 + 1
noncomputable def lb_r1 : Code := (loopsOf (bodyOf Tryz.f48)).getD 0 .skip
noncomputable def lb_r2 : Code := (loopsOf (bodyOf Tryz.f48)).getD 1 .skip
noncomputable def lb_r3 : Code := (loopsOf (bodyOf Tryz.f48)).getD 2 .skip
def L_r1 : Lay := { keys := [1, 2, 8, 9], ks := [.d (.sl cKn), .d cI, .d cI, .d cI], bs := [], n := 156, nx := 1000, marks := [] }
def R_r1 : Lay := { keys := [1, 2], ks := [.d (.sl cKn), .d cI], bs := [], n := 156, nx := 1000, marks := [] }
def Rf_r1 : Lay := { keys := [6, 7], ks := [.d (.sl cI), .d cI], bs := [], n := 156, nx := 1000, marks := [] }
def E_r1 : XE → Lay := fun e => match e with | .ret => Rf_r1 | _ => R_r1
abbrev TMr1 := Tree (L_r1.T ⊕ Left' E_r1)
def hd_r1 (l : Kns) (ball n i : Int) : L_r1.T := ((l, ball, n, i, ()), ())
def rt_r1 : Left' E_r1 := ⟨.ret, (([], 2, ()), ())⟩
def ex_r1 (l : Kns) (ball : Int) : Left' E_r1 := ⟨.exit 0, ((l, ball, ()), ())⟩
def st_r1' (l : Kns) (ball n i : Int) : TMr1 := bif decide (i < (l.length : Int)) then inN l.length i (bif (getK l (Int.toNat i)).2.2.1 == 0 then inN l.length i (
  bif decide ((getK l (Int.toNat i)).2.2.2.1 < 0) then .leaf (.inr rt_r1) else inN l.length i (bif decide ((getK l (Int.toNat i)).2.2.2.1 ≥ n) then .leaf (.inr rt_r1) else inN l.length i (
  bif decide ((getK l (Int.toNat i)).2.2.2.2.1 < 0) then .leaf (.inr rt_r1) else inN l.length i (bif decide ((getK l (Int.toNat i)).2.2.2.2.1 ≥ n) then .leaf (.inr rt_r1) else inN l.length i (inN l.length i (
  bif (getK l (Int.toNat i)).2.2.2.1 == (getK l (Int.toNat i)).2.2.2.2.1 then .leaf (.inr rt_r1) else .leaf (.inl (hd_r1 l ball n (W64 (i + 1)))))))))) else .leaf (.inl (hd_r1 l ball n (W64 (i + 1))))) else .leaf (.inr (ex_r1 l ball))
def st_r1 (g : L_r1.T) : TMr1 := st_r1' g.1.1 g.1.2.1 g.1.2.2.1 g.1.2.2.2.1
def fu_r1 (g : L_r1.T) : Nat := (g.1.1 : Kns).length + 1
theorem l_r1 : LoopOk Tryz.prog 48 lb_r1 (loopSum L_r1 E_r1 (finX [.ret, .exit 0] st_r1 fu_r1)) := loopOk_x0 X_n_ok 7 _ L_r1 E_r1 (fun e => by cases e <;> exact Nat.le_refl _) [.ret, .exit 0] st_r1 fu_r1 (fun g => by kernel_rfl)
def L_r3 : Lay := { keys := [1, 2, 10, 11, 12, 13], ks := [.d (.sl cKn), .d cI, kIn, .d cI, .d cI, .d cI], bs := [], n := 156, nx := 3000, marks := [] }
def R_r3 : Lay := { keys := [1, 2, 10, 11, 12], ks := [.d (.sl cKn), .d cI, kIn, .d cI, .d cI], bs := [], n := 156, nx := 3000, marks := [] }
def E_r3 : XE → Lay := fun _ => R_r3
abbrev TMr3 := Tree (L_r3.T ⊕ Left' E_r3)
def hd_r3 (l : Kns) (ball : Int) (out : List Int) (i o k : Int) : L_r3.T := ((l, ball, out, i, o, k, ()), ())
def ex_r3 (l : Kns) (ball : Int) (out : List Int) (i o : Int) : Left' E_r3 := ⟨.exit 4, ((l, ball, out, i, o, ()), ())⟩
def st_r3' (l : Kns) (ball : Int) (out : List Int) (i o k : Int) : TMr3 := bif decide (k < (out.length : Int)) then inO out.length k (bif getA out (Int.toNat k) (dflt cI) == o then .leaf (.inl (hd_r3 l ball out i (-1) (W64 (k + 1)))) else .leaf (.inl (hd_r3 l ball out i o (W64 (k + 1))))) else .leaf (.inr (ex_r3 l ball out i o))
def st_r3 (g : L_r3.T) : TMr3 := st_r3' g.1.1 g.1.2.1 g.1.2.2.1 g.1.2.2.2.1 g.1.2.2.2.2.1 g.1.2.2.2.2.2.1
def fu_r3 (g : L_r3.T) : Nat := (g.1.2.2.1 : List Int).length + 1
def sm_r3 : St → Tree (XE × St) := loopSum L_r3 E_r3 (finX [.exit 4] st_r3 fu_r3)
theorem l_r3 : LoopOk Tryz.prog 48 lb_r3 sm_r3 := loopOk_x0 X_n_ok 7 _ L_r3 E_r3 (fun _ => Nat.le_refl _) [.exit 4] st_r3 fu_r3 (fun g => by kernel_rfl)
def L_r2 : Lay := { keys := [1, 2, 10, 11], ks := [.d (.sl cKn), .d cI, kIn, .d cI], bs := [], n := 156, nx := 2000, marks := [] }
def R_r2 : Lay := { keys := [10], ks := [kIn], bs := [], n := 156, nx := 2000, marks := [] }
def E_r2 : XE → Lay := fun _ => R_r2
abbrev TM2' := Tree (L_r2.T ⊕ Left' E_r2)
def hd_r2 (l : Kns) (ball : Int) (i : Int) (out : List Int) : L_r2.T := ((l, ball, out, i, ()), ())
def ex_r2 (out : List Int) : Left' E_r2 := ⟨.exit 2, ((out, ()), ())⟩
def k3_r2 (y : Option (Left' E_r3)) : TM2' := bif isE (.exit 4) y then bif decide ((valE (.exit 4) y).1.2.2.2.2.1 ≥ 0) then bif appOk ((valE (.exit 4) y).1.2.2.1 : List Int) [(valE (.exit 4) y).1.2.2.2.2.1] 8 then
  .leaf (.inl (hd_r2 (valE (.exit 4) y).1.1 (valE (.exit 4) y).1.2.1 (W64 ((valE (.exit 4) y).1.2.2.2.1 + 1)) ((valE (.exit 4) y).1.2.2.1 ++ [(valE (.exit 4) y).1.2.2.2.2.1]))) else .fail else
  .leaf (.inl (hd_r2 (valE (.exit 4) y).1.1 (valE (.exit 4) y).1.2.1 (W64 ((valE (.exit 4) y).1.2.2.2.1 + 1)) (valE (.exit 4) y).1.2.2.1)) else .fail
def y_r3 (l : Kns) (ball : Int) (out : List Int) (i o : Int) : TM2' := k3_r2 (iter st_r3 (out.length + 1) (hd_r3 l ball out i o 0))
def el_r2 (l : Kns) (ball i : Int) (out : List Int) : TM2' := inN l.length i (bif (getK l (Int.toNat i)).2.2.1 == 0 then inN l.length i (bif (getK l (Int.toNat i)).2.2.2.2.1 == ball then inN l.length i (y_r3 l ball out i (getK l (Int.toNat i)).2.2.2.1) else y_r3 l ball out i (-1)) else y_r3 l ball out i (-1))
def st_r2' (l : Kns) (ball i : Int) (out : List Int) : TM2' := bif decide (i < (l.length : Int)) then inN l.length i (bif (getK l (Int.toNat i)).2.2.1 == 0 then inN l.length i (bif (getK l (Int.toNat i)).2.2.2.1 == ball then inN l.length i (y_r3 l ball out i (getK l (Int.toNat i)).2.2.2.2.1) else el_r2 l ball i out) else el_r2 l ball i out) else .leaf (.inr (ex_r2 out))
def st_r2 (g : L_r2.T) : TM2' := st_r2' g.1.1 g.1.2.1 g.1.2.2.2.1 g.1.2.2.1
def fu_r2 (g : L_r2.T) : Nat := (g.1.1 : Kns).length + 1
def Lt_r2 : LoopT := fun k => bif Nat.beq k 23 then some sm_r3 else none
theorem loops_r2 : loopsOf lb_r2 = [lb_r3] := by kernel_rfl
theorem key_r3 : keyOf lb_r3 = 23 := by kernel_rfl
theorem l_r2 : LoopOk Tryz.prog 48 lb_r2 (loopSum L_r2 E_r2 (finX [.exit 2] st_r2 fu_r2)) := loopOk_x X_n_ok 7 _ Lt_r2 (fun d hd f hf => by
    rw [loops_r2, List.mem_singleton] at hd
    subst hd
    rw [key_r3] at hf
    cases hf
    exact l_r3) L_r2 E_r2 (fun _ => Nat.le_refl _) [.exit 2] st_r2 fu_r2 (fun g => by kernel_rfl)
end St
end V
end Go.Proofs.YtkiaifmbbnnliaaGreat
