/- The reference: values, worths, the best act: the walks. -/
import Derived.Test.YtdblbofagfhlbaaJr
namespace Go.Proofs.Ytdblbofagfhlbaa
open Go.RowKit
namespace V
namespace K9
def L_rv : FLay := { ks := [.p 0 0 0 0, .d cB, .d cSc], bs := bsKn 0, nx := 1000 }
def L_rw : FLay := { ks := [.p 0 0 0 0, .d cB, .d cSc, .d cA], bs := bsKn 0, nx := 1000 }
def R_rv : FLay := { ks := [.d cC], bs := bsKn 0, nx := 3000 }
def N_rv : FLay := { ks := [], bs := [], nx := 3000 }
def E_rv (b : Bool) : FLay := bif b then R_rv else N_rv
abbrev RKp : Type := Option (TCT cC × Kn)
abbrev VR : Type := TCT cB → TCT cSc → Kn → RKp
def gvK (r : RKp) : TCT cC := match r with
  | some x => (x.1.1, x.1.2.1, ())
  | none => (0, 0, ())
def gkK (r : RKp) : Kn := match r with
  | some x => x.2
  | none => []
def res_rv (r : RKp) : LeftF E_rv := ⟨true, ((((gvK r).1, (gvK r).2.1, ()), ()), ((gkK r, ()), ()))⟩
def brT (r : RKp) : Tree (LeftF E_rv) := .br r.isSome (.leaf (res_rv r)) .fail
def fin_rv (V : VR) (g : L_rv.T) : Tree (LeftF E_rv) := brT (V g.1.2.1 g.1.2.2.1 g.2.1.1)
def probeK (hp : Heap) (args : List AV) : Option (List Nat) := match args with
  | .ptr id _ _ _ :: _ => match hp id with
    | some (.blk b) => match nth b.cs 0 with
      | some (.own m) => some [id, m]
      | _ => none
    | _ => none
  | _ => none
def plRv : List (Nat × PureT) := (88, s_num) :: (55, s_Down) :: (56, s_Up) :: plRf
theorem puRv : PuOk Try.prog plRv := puOk_cons is_rnum.plain q_num (puOk_cons is_Down.plain q_Down (puOk_cons is_Up.plain q_Up puRf))
/-! worth -/
def chR (b : TCT cB) (x : TCT cSc) (a : TCT cA) : Option (TCT cC) := bif a.1 == 1 then bif decide (0 ≤ x.2.1 ∧ x.2.1 < (b.2.2.1.length : Int)) then bif b.1 != 0 then pickO b.2.2.2.1 (awayF b x.1 (getA b.2.2.1 x.2.1.toNat (dflt cI))) else none else none
  else bif decide (0 ≤ a.2.1 ∧ a.2.1 < (x.2.2.1.length : Int)) then bif b.1 != 0 then pickO b.2.2.2.2.1 (awayF b x.1 (getA x.2.2.1 a.2.1.toNat (dflt cI))) else none else none
def rw1 (c v : TCT cC) : TCT cC := (W64 (Int.tdiv (W64 (c.1 * W64 (v.1 + 1000000))) 1000000), W64 (Int.tdiv (W64 (W64 (W64 (c.2.1 * W64 (v.2.1 + 1000000)) + 1000000) - 1)) 1000000), ())
def rw0 (c v : TCT cC) : TCT cC := (W64 (Int.tdiv (W64 (c.1 * v.1)) 1000000), W64 (Int.tdiv (W64 (W64 (W64 (c.2.1 * v.2.1) + 1000000) - 1)) 1000000), ())
def okR (b : TCT cB) (x : TCT cSc) (a : TCT cA) : Bool := bOk b && (placeOk b x && legalB b (placeF x) a)
def wR (V : VR) (b : TCT cB) (x : TCT cSc) (a : TCT cA) (k : Kn) : RKp := bif okR b x a then (V b (afR b x a) k).bind fun r => (chR b x a).map fun c => (bif a.1 == 1 then rw1 c r.1 else rw0 c r.1, r.2) else none
def kR (r : RKp) (w : TCT cC) : Tree (LeftF E_rv) := .leaf ⟨true, (((w.1, w.2.1, ()), ()), ((gkK r, ()), ()))⟩
def T_rw (V : VR) (b : TCT cB) (x : TCT cSc) (a : TCT cA) (k : Kn) : Tree (LeftF E_rv) := bif okR b x a then bif okR b x a then bif (V b (afR b x a) k).isSome then
    bif a.1 == 1 then bif decide (0 ≤ x.2.1 ∧ x.2.1 < (b.2.2.1.length : Int)) then bif b.1 != 0 then pick3 b.2.2.2.1 (awayF b x.1 (getA b.2.2.1 x.2.1.toNat (dflt cI))) (fun c => kR (V b (afR b x a) k) (rw1 c (gvK (V b (afR b x a) k)))) else .fail else .fail
    else bif decide (0 ≤ a.2.1 ∧ a.2.1 < (x.2.2.1.length : Int)) then bif b.1 != 0 then pick3 b.2.2.2.2.1 (awayF b x.1 (getA x.2.2.1 a.2.1.toNat (dflt cI))) (fun c => kR (V b (afR b x a) k) (rw0 c (gvK (V b (afR b x a) k)))) else .fail else .fail
  else .fail else .fail else .fail
def fin_rw (V : VR) (g : L_rw.T) : Tree (LeftF E_rv) := brT (wR V g.1.2.1 g.1.2.2.1 g.1.2.2.2.1 g.2.1.1)
abbrev sp_rv (V : VR) : Heap → Nat → List AV → Tree (Out × Heap × Nat) := fspec probeK L_rv E_rv (fin_rv V)
abbrev sp_rw (V : VR) : Heap → Nat → List AV → Tree (Out × Heap × Nat) := fspec probeK L_rw E_rv (fin_rw V)
noncomputable def X_rw (V : VR) : Ctx := ctxS Try.prog plRv [(67, Try.f67)] [] [(63, sp_rv V)]
theorem e_rw (V : VR) (g : L_rw.T) : evBody (X_rw V) (evFn (X_rw V) 6) 67 (ofKs L_rw.ks g.1 L_rw.nx) (L_rw.lay.hp g) (L_rw.lay.of g).nx (foutK E_rv) = T_rw V g.1.2.1 g.1.2.2.1 g.1.2.2.2.1 g.2.1.1 := by kernel_rfl
theorem pick3_sat {α : Type} {t : TCT (.st [cC, cC, cC])} {aw : Int} {k : TCT cC → Tree α} {R : α → Prop} {c : TCT cC} (h : pickO t aw = some c) (hk : (k c).sat R) : (pick3 t aw k).sat R := by
  unfold pickO at h
  show (bif decide (aw = 0) then _ else bif decide (aw = 1) then _ else bif decide (aw = 2) then _ else _ : Tree α).sat R
  cases h0 : decide (aw = 0) with
  | true => rw [h0] at h; cases h; exact hk
  | false =>
    rw [h0] at h
    cases h1 : decide (aw = 1) with
    | true => rw [h1] at h; cases h; exact hk
    | false =>
      rw [h1] at h
      cases h2 : decide (aw = 2) with
      | true => rw [h2] at h; cases h; exact hk
      | false => rw [h2] at h; cases h
theorem T_rw_sat {V : VR} {b : TCT cB} {x : TCT cSc} {a : TCT cA} {k : Kn} {R : LeftF E_rv → Prop} (h : (brT (wR V b x a k)).sat R) : (T_rw V b x a k).sat R := by
  obtain ⟨h1, h2⟩ := h
  cases hs : (wR V b x a k).isSome with
  | false => exact (h2 hs).elim
  | true =>
    have h1 := h1 hs
    clear h2
    unfold wR at h1 hs
    unfold T_rw
    cases ho : okR b x a with
    | false => rw [ho] at hs; cases hs
    | true =>
      rw [ho, cond_true] at h1 hs
      rw [cond_true, cond_true]
      cases hv : V b (afR b x a) k with
      | none => rw [hv] at hs; cases hs
      | some r =>
        rw [hv, Option.bind_some] at h1 hs
        cases hc : chR b x a with
        | none => rw [hc] at hs; cases hs
        | some c =>
          rw [hc] at h1
          unfold chR at hc
          show (bif a.1 == 1 then _ else _ : Tree (LeftF E_rv)).sat R
          cases ha : a.1 == 1 with
          | true =>
            rw [ha] at hc h1
            simp only [cond_true] at hc h1 ⊢
            cases hd : decide (0 ≤ x.2.1 ∧ x.2.1 < (b.2.2.1.length : Int)) with
            | false => rw [hd] at hc; cases hc
            | true =>
              rw [hd] at hc
              cases hb : b.1 != 0 with
              | false => rw [hb] at hc; cases hc
              | true => rw [hb] at hc; exact pick3_sat (k := fun c => kR (some r) (rw1 c (gvK (some r)))) hc h1
          | false =>
            rw [ha] at hc h1
            simp only [cond_false] at hc h1 ⊢
            cases hd : decide (0 ≤ a.2.1 ∧ a.2.1 < (x.2.2.1.length : Int)) with
            | false => rw [hd] at hc; cases hc
            | true =>
              rw [hd] at hc
              cases hb : b.1 != 0 with
              | false => rw [hb] at hc; cases hc
              | true => rw [hb] at hc; exact pick3_sat (k := fun c => kR (some r) (rw0 c (gvK (some r)))) hc h1
theorem E_rv_nx (b : Bool) : 1000 ≤ (E_rv b).nx := by cases b <;> exact Nat.le_of_ble_eq_true rfl
theorem sp_rw_ok {V : VR} (hV : SpecOk Try.prog 63 (sp_rv V)) : SpecOk Try.prog 67 (sp_rw V) :=
  fspec_ok (X := X_rw V) (ctxS_ok mixed puRv (fns_cons is_rworth fns_nil) no_loops (one_spec is_rvalue.plain hV)) 6 E_rv_nx fun g R _ hf => by
    rw [e_rw]
    exact sat_loose (T_rw_sat hf) fun x hx _ => hx
/-! value -/
def idx {β : Type} (n i : Int) (t : Tree β) : Tree β := bif decide (0 ≤ i ∧ i < n) then t else .fail
abbrev kC : List SK := [.d cI, .d cI]
noncomputable def lb_rv : Code := (loopsOf (bodyOf Try.f63)).getD 0 .skip
def L_lv : Lay := { keys := [0, 4, 5, 6, 7, 8, 9, 10], ks := [.p 0 0 0 0, .p 1001 0 0 0, .p 1002 0 0 0, .p 1003 0 0 0, .d cI, .p 1004 0 0 0, .d cAs, .d cI], bs := [(0, 137, [.o 24 cC]), (1001, 33, kBd), (1002, 36, kSc), (1003, 24, kC), (1004, 24, kC)], n := 68, nx := 2000, marks := [] }
def E_lv' : XE → Lay := fun _ => { keys := [0, 6, 7, 8], ks := [.p 0 0 0 0, .p 1003 0 0 0, .d cI, .p 1004 0 0 0], bs := [(0, 137, [.o 24 cC]), (1003, 24, kC), (1004, 24, kC)], n := 68, nx := 2000, marks := [] }
def hd_lv (b : TCT cB) (x : TCT cSc) (n : Int) (l : List (TCT cA)) (i : Int) (r o : TCT cC) (k : Kn) : L_lv.T := (((), (), (), (), n, (), l, i, ()), ((k, ()), cellsBd b, x, (r.1, r.2.1, ()), (o.1, o.2.1, ()), ()))
def ex_lv (n : Int) (r o : TCT cC) (k : Kn) : Left' E_lv' := ⟨.exit 0, (((), (), n, (), ()), ((k, ()), (r.1, r.2.1, ()), (o.1, o.2.1, ()), ()))⟩
def mxC (o w : TCT cC) : TCT cC := (max o.1 w.1, max o.2.1 w.2.1, ())
def st_lv (V : VR) (b : TCT cB) (x : TCT cSc) (n : Int) (l : List (TCT cA)) (i : Int) (r o : TCT cC) (k : Kn) : Tree (L_lv.T ⊕ Left' E_lv') := forS (l.length : Int) i
  (idx (l.length : Int) i (bif (wR V b x (getA l i.toNat (dflt cA)) k).isSome then .leaf (.inl (hd_lv b x n l (W64 (i + 1)) r (mxC o (gvK (wR V b x (getA l i.toNat (dflt cA)) k))) (gkK (wR V b x (getA l i.toNat (dflt cA)) k)))) else .fail)) (.leaf (.inr (ex_lv n r o k)))
def stg_lv (V : VR) (g : L_lv.T) : Tree (L_lv.T ⊕ Left' E_lv') := st_lv V (brdB g.2.2.1) g.2.2.2.1 g.1.2.2.2.2.1 g.1.2.2.2.2.2.2.1 g.1.2.2.2.2.2.2.2.1 g.2.2.2.2.1 g.2.2.2.2.2.1 g.2.1.1
def fu_lv (g : L_lv.T) : Nat := g.1.2.2.2.2.2.2.1.length + 1
noncomputable def X_lv (V : VR) : Ctx := ctxS Try.prog plRv [] [] [(67, sp_rw V)]
theorem X_lv_ok {V : VR} (h : SpecOk Try.prog 67 (sp_rw V)) : CtxOk (X_lv V) := ctxS_ok mixed puRv fns_nil no_loops (one_spec is_rworth.plain h)
theorem l_lv {V : VR} (h : SpecOk Try.prog 67 (sp_rw V)) : LoopOk Try.prog 63 lb_rv (loopSum L_lv E_lv' (finX [.exit 0] (stg_lv V) fu_lv)) :=
  loopOk_x0 (X_lv_ok h) 7 _ L_lv E_lv' (fun e => by cases e <;> exact Nat.le_refl _) _ (stg_lv V) fu_lv (fun g => by kernel_rfl)
end K9
end V
end Go.Proofs.Ytdblbofagfhlbaa
