/- The law TacticsBest: the walk. -/
import Derived.Test.YtialgmhhkbdegaaGreatJk
import Derived.Test.YtialgmhhkbdegaaGreatJd
namespace Go.Proofs.YtialgmhhkbdegaaGreat
open Go.RowKit
namespace V
theorem is_tDist : FnIs Tryz.prog (10, Tryz.f10) := ⟨Tryz.func10, by kernel_rfl, by kernel_rfl⟩
/-! CheckScene, Distance -/
def T_tS (b : TCT cB) (x : TCT cSc) : TI := bif boardF b != 0 then .leaf (boardF b, ()) else bif placeOk b x then .leaf (0, ()) else .leaf (3, ())
theorem T_tS_ok (b : TCT cB) (x : TCT cSc) : (T_tS b x).sat (fun y => y = (sceneE b x, ())) := by
  unfold T_tS sceneE
  rw [board0]
  unfold boardF
  cases bOk b <;> cases placeOk b x <;> exact rfl
def distE (b : TCT cB) (c d : Int) : Int := bif bOk b then bif cellOk b c && cellOk b d then 0 else 3 else 2
def distV (b : TCT cB) (c d : Int) : Int := bif distE b c d == 0 then awayF b c d else 0
abbrev s_Dist : PureT := spec [cB, cI, cI] [cI, cI] (fun _ => true) (fun x => (distV x.1 x.2.1 x.2.2.1, distE x.1 x.2.1 x.2.2.1, ()))
noncomputable def X_tD : Ctx := ctx Tryz.prog plEx [(10, Tryz.f10), (15, Tryz.f15), (27, Tryz.f27), (14, Tryz.f14)]
theorem X_tD_ok : CtxOk X_tD := ctx_ok mixed puEx (fns_cons is_tDist (fns_cons is_open (fns_cons is_must (fns_cons is_catch fns_nil))))
abbrev TDi := Tree (TCTs [cI, cI])
def T_tD (b : TCT cB) (c d : Int) : TDi := bif boardF b != 0 then .leaf (0, boardF b, ()) else bif cellOk b c then bif cellOk b d then bif b.1 != 0 then .leaf (awayF b c d, 0, ()) else .fail else .leaf (0, 3, ()) else .leaf (0, 3, ())
theorem w_ne {b : TCT cB} (hb : OkB b) : (b.1 != 0) = true := by
  have h : 1 ≤ bW b ∧ bW b ≤ 3 := hb.w
  cases hx : b.1 != 0 with
  | true => rfl
  | false =>
    have e : bW b = 0 := by
      have hx : (bW b != 0) = false := hx
      simpa using hx
    omega
theorem T_tD_ok (b : TCT cB) (c d : Int) : (T_tD b c d).sat (fun y => y = (distV b c d, distE b c d, ())) := by
  unfold T_tD distV distE
  rw [board0]
  cases hb : bOk b with
  | false =>
    have e : boardF b = 2 := by unfold boardF; rw [hb]; rfl
    rw [e]
    exact rfl
  | true =>
    have hw := w_ne (okB_of hb)
    rw [Bool.not_true, cond_false]
    cases cellOk b c with
    | false => exact rfl
    | true =>
      cases cellOk b d with
      | false => exact rfl
      | true => rw [hw]; exact rfl
theorem q_tDist : PureOk Tryz.prog 10 s_Dist := q_by X_tD_ok 8 (fun x => T_tD x.1 x.2.1 x.2.2.1) (fun x => by kernel_rfl) fun x _ _ => T_tD_ok _ _ _
/-! the loop over acts -/
abbrev kC2 : List SK := [.d cI, .d cI]
def bs_bt : List BK := [(0, 33, kBd), (1, 36, kSc), (2, 30, kC2), (3, 52, kA), (4, 30, kC2), (5, 30, kC2)]
def L_bt : Lay := { keys := [2, 3, 5, 7, 9, 10, 12, 13, 14], ks := [.p 0 0 0 0, .p 1 0 0 0, .d cAs, .p 2 0 0 0, .p 3 0 0 0, .p 4 0 0 0, .p 5 0 0 0, .d cI, .d cI], bs := bs_bt, n := 291, nx := 1000, marks := [] }
def R_bt : Lay := { keys := [2, 3, 5, 7, 9, 10, 12, 13], ks := [.p 0 0 0 0, .p 1 0 0 0, .d cAs, .p 2 0 0 0, .p 3 0 0 0, .p 4 0 0 0, .p 5 0 0 0, .d cI], bs := bs_bt, n := 291, nx := 1000, marks := [] }
def Q_bt : Lay := { keys := [4], ks := [.d .b], bs := [], n := 291, nx := 1000, marks := [] }
def E_bt : XE → Lay
  | .ret => Q_bt
  | _ => R_bt
structure Cbt where
  b : TCT cB
  s : TCT cSc
  l : List (TCT cA)
  v : TCT cC
  a : TCT cA
  w : TCT cC
abbrev Sbt : Type := Int × Int × Int
def cellsBd (b : TCT cB) : SKTs kBd := (b.1, b.2.1, b.2.2.1, b.2.2.2.1.1.1, b.2.2.2.1.1.2.1, b.2.2.2.1.2.1.1, b.2.2.2.1.2.1.2.1, b.2.2.2.1.2.2.1.1, b.2.2.2.1.2.2.1.2.1, b.2.2.2.2.1.1.1, b.2.2.2.2.1.1.2.1, b.2.2.2.2.1.2.1.1, b.2.2.2.2.1.2.1.2.1, b.2.2.2.2.1.2.2.1.1, b.2.2.2.2.1.2.2.1.2.1, ())
def bsbt (c : Cbt) (s : Sbt) : BTs bs_bt := (cellsBd c.b, c.s, c.v, c.a, c.w, (s.2.1, s.2.2, ()), ())
def hd_bt (c : Cbt) (i : Int) (s : Sbt) : L_bt.T := (((), (), c.l, (), (), (), (), s.1, i, ()), bsbt c s)
def ex_bt (c : Cbt) (s : Sbt) : Left' E_bt := ⟨.exit 0, (((), (), c.l, (), (), (), (), s.1, ()), bsbt c s)⟩
def rt_bt : Left' E_bt := ⟨.ret, ((false, ()), ())⟩
abbrev Tbt := Tree (L_bt.T ⊕ Left' E_bt)
def RTbt : Tbt := .leaf (.inr rt_bt)
def chk_bt (wo va ch : TCT cC) (g : Int) (k : Tbt) : Tbt := bif decide (W64 (wo.1 * 1000000) > W64 (ch.1 * W64 (va.1 + g))) then RTbt else bif decide (W64 (W64 (wo.1 + 1) * 1000000) ≤ W64 (ch.1 * W64 (va.1 + g))) then RTbt else
  bif decide (W64 (wo.2.1 * 1000000) < W64 (ch.2.1 * W64 (va.2.1 + g))) then RTbt else bif decide (W64 (W64 (wo.2.1 - 1) * 1000000) ≥ W64 (ch.2.1 * W64 (va.2.1 + g))) then RTbt else k
def dst_bt (e d : Int) (t : TCT c3) (wo va : TCT cC) (g : Int) (k : Tbt) : Tbt := bif e != 0 then RTbt else bif decide (d < 0) then RTbt else bif decide (d > 2) then RTbt else pick3 t d fun ch => chk_bt wo va ch g k
def stepB (s : Sbt) (i : Int) (wo : TCT cC) : Sbt := (bif decide (wo.1 > s.2.1) then i else s.1, max s.2.1 wo.1, max s.2.2 wo.2.1)
def end_bt (c : Cbt) (i : Int) (s : Sbt) (wo : TCT cC) : Tbt := bif decide (wo.1 > s.2.1) then .leaf (.inl (hd_bt c (W64 (i + 1)) (i, max s.2.1 wo.1, max s.2.2 wo.2.1))) else .leaf (.inl (hd_bt c (W64 (i + 1)) (s.1, max s.2.1 wo.1, max s.2.2 wo.2.1)))
def idx_bt (c : Cbt) (i : Int) (k : Tbt) : Tbt := bif decide (0 ≤ i ∧ i < (c.l.length : Int)) then k else .fail
def ballA (x : TCT cSc) (i : Int) : Int := getA (x.2.2.1 : List Int) i.toNat (dflt cI)
def hoopS (b : TCT cB) (x : TCT cSc) : Int := getA (b.2.2.1 : List Int) (Int.toNat x.2.1) (dflt cI)
def row_bt (c : Cbt) (i : Int) (a : TCT cA) (k : Tbt) : Tbt := idx_bt c i (idx_bt c i (
  bif worthE c.b c.s a != 0 then RTbt else bif worthE c.b c.s a != 0 then RTbt else bif sceneE c.b (afterV c.b c.s a) != 0 then RTbt else
  bif decide (0 ≤ c.s.2.1 ∧ c.s.2.1 < (c.b.2.2.1.length : Int)) then idx_bt c i (
    bif a.1 == 2 then idx_bt c i (bif decide (a.2.1 < 0) then RTbt else idx_bt c i (bif decide (a.2.1 ≥ (c.s.2.2.1.length : Int)) then RTbt else idx_bt c i (bif decide (0 ≤ a.2.1 ∧ a.2.1 < (c.s.2.2.1.length : Int)) then
      dst_bt (distE c.b c.s.1 (ballA c.s a.2.1)) (distV c.b c.s.1 (ballA c.s a.2.1)) c.b.2.2.2.2.1 (worthV c.b c.s a) (valF c.b (afterV c.b c.s a)) 0 k else .fail)))
    else dst_bt (distE c.b c.s.1 (hoopS c.b c.s)) (distV c.b c.s.1 (hoopS c.b c.s)) c.b.2.2.2.1 (worthV c.b c.s a) (valF c.b (afterV c.b c.s a)) 1000000 k) else .fail))
def st_bt (c : Cbt) (i : Int) (s : Sbt) : Tbt := bif decide (i < (c.l.length : Int)) then row_bt c i (getA c.l i.toNat (dflt cA)) (end_bt c i s (worthV c.b c.s (getA c.l i.toNat (dflt cA)))) else .leaf (.inr (ex_bt c s))
def cbt (g : L_bt.T) : Cbt := ⟨brdB g.2.1, g.2.2.1, g.1.2.2.1, g.2.2.2.1, g.2.2.2.2.1, g.2.2.2.2.2.1⟩
def sbt (g : L_bt.T) : Sbt := (g.1.2.2.2.2.2.2.2.1, g.2.2.2.2.2.2.1.1, g.2.2.2.2.2.2.1.2.1)
/-- what the law checks of an act -/
def okChk (wo va ch : TCT cC) (g : Int) : Bool := !decide (W64 (wo.1 * 1000000) > W64 (ch.1 * W64 (va.1 + g))) && (!decide (W64 (W64 (wo.1 + 1) * 1000000) ≤ W64 (ch.1 * W64 (va.1 + g))) &&
  (!decide (W64 (wo.2.1 * 1000000) < W64 (ch.2.1 * W64 (va.2.1 + g))) && !decide (W64 (W64 (wo.2.1 - 1) * 1000000) ≥ W64 (ch.2.1 * W64 (va.2.1 + g)))))
def okDst (e d : Int) (t : TCT c3) (wo va : TCT cC) (g : Int) : Bool := !(e != 0) && (!decide (d < 0) && (!decide (d > 2) && (match pickO t d with
  | some ch => okChk wo va ch g
  | none => false)))
def okAct (b : TCT cB) (x : TCT cSc) (a : TCT cA) : Bool := !(worthE b x a != 0) && (!(sceneE b (afterV b x a) != 0) && (decide (0 ≤ x.2.1 ∧ x.2.1 < (b.2.2.1.length : Int)) &&
  (bif a.1 == 2 then decide (0 ≤ a.2.1 ∧ a.2.1 < (x.2.2.1.length : Int)) && okDst (distE b x.1 (ballA x a.2.1)) (distV b x.1 (ballA x a.2.1)) b.2.2.2.2.1 (worthV b x a) (valF b (afterV b x a)) 0
   else okDst (distE b x.1 (hoopS b x)) (distV b x.1 (hoopS b x)) b.2.2.2.1 (worthV b x a) (valF b (afterV b x a)) 1000000)))
theorem chk_ok {wo va ch : TCT cC} {g : Int} {k : Tbt} {Q : L_bt.T ⊕ Left' E_bt → Prop} (h : okChk wo va ch g = true) (hk : k.sat Q) : (chk_bt wo va ch g k).sat Q := by
  unfold okChk at h
  simp only [Bool.and_eq_true, Bool.not_eq_true'] at h
  unfold chk_bt
  rw [h.1, h.2.1, h.2.2.1, h.2.2.2]
  exact hk
theorem dst_ok {e d : Int} {t : TCT c3} {wo va : TCT cC} {g : Int} {k : Tbt} {Q : L_bt.T ⊕ Left' E_bt → Prop} (h : okDst e d t wo va g = true) (hk : k.sat Q) : (dst_bt e d t wo va g k).sat Q := by
  unfold okDst at h
  simp only [Bool.and_eq_true, Bool.not_eq_true'] at h
  obtain ⟨h1, h2, h3, h4⟩ := h
  unfold dst_bt
  rw [h1, h2, h3, cond_false, cond_false, cond_false]
  unfold pickO at h4
  unfold pick3
  show (bif decide (d = 0) then _ else bif decide (d = 1) then _ else bif decide (d = 2) then _ else _ : Tbt).sat Q
  cases c0 : decide (d = 0) with
  | true => rw [c0] at h4; exact chk_ok h4 hk
  | false =>
    rw [c0, cond_false] at h4
    rw [cond_false]
    cases c1 : decide (d = 1) with
    | true => rw [c1] at h4; exact chk_ok h4 hk
    | false =>
      rw [c1, cond_false] at h4
      rw [cond_false]
      cases c2 : decide (d = 2) with
      | true => rw [c2] at h4; exact chk_ok h4 hk
      | false => rw [c2] at h4; cases h4
theorem row_bt_ok {c : Cbt} {i : Int} {a : TCT cA} {k : Tbt} {Q : L_bt.T ⊕ Left' E_bt → Prop} (hi : 0 ≤ i ∧ i < (c.l.length : Int)) (h : okAct c.b c.s a = true) (hk : k.sat Q) : (row_bt c i a k).sat Q := by
  unfold okAct at h
  simp only [Bool.and_eq_true, Bool.not_eq_true'] at h
  obtain ⟨h1, h2, h3, h4⟩ := h
  unfold row_bt idx_bt
  rw [decide_eq_true hi, h1, h2, h3]
  simp only [cond_true, cond_false]
  cases ha : a.1 == 2 with
  | true =>
    rw [ha, cond_true, Bool.and_eq_true] at h4
    have hb := of_decide_eq_true h4.1
    have n1 : decide (a.2.1 < 0) = false := by
      cases hx : decide (a.2.1 < 0) with
      | false => rfl
      | true => have := of_decide_eq_true hx; have h0 := hb.1; exact absurd this (Int.not_lt.2 h0)
    have n2 : decide (a.2.1 ≥ (c.s.2.2.1.length : Int)) = false := by
      cases hx : decide (a.2.1 ≥ (c.s.2.2.1.length : Int)) with
      | false => rfl
      | true => have := of_decide_eq_true hx; exact absurd hb.2 (Int.not_lt.2 this)
    rw [n1, n2, h4.1]
    simp only [cond_true, cond_false]
    exact dst_ok h4.2 hk
  | false =>
    rw [ha, cond_false] at h4
    exact dst_ok h4 hk
def g_bt (b : TCT cB) (x : TCT cSc) (l : List (TCT cA)) (s : Sbt) (k : Nat) : Option (Sbt ⊕ Unit) := bif okAct b x (getA l k (dflt cA)) then some (.inl (stepB s (k : Int) (worthV b x (getA l k (dflt cA))))) else none
def all_bt (b : TCT cB) (x : TCT cSc) (l : List (TCT cA)) (s : Sbt) : Option (Sbt ⊕ Unit) := foldX (g_bt b x l) (List.range l.length) s
def s0_bt : Sbt := (-1, -1, -1)
def shortA (l : List (TCT cA)) (i : Int) : Bool := decide (i = 0 ∧ l.length ≤ 1000)
def fin_bt' (c : Cbt) (i : Int) (s : Sbt) : Tree (Left' E_bt) := .br (shortA c.l i && okX (all_bt c.b c.s c.l s)) (.leaf (ex_bt c (gX s0_bt (all_bt c.b c.s c.l s)))) .fail
def fin_bt (g : L_bt.T) : Tree (Left' E_bt) := fin_bt' (cbt g) g.1.2.2.2.2.2.2.2.2.1 (sbt g)
abbrev cs_tacticsBest : List TC := [cB, cSc]
def rs_bt (b : TCT cB) (x : TCT cSc) : Option (Sbt ⊕ Unit) := all_bt b x (actsV b x) s0_bt
def post_bt (l : List (TCT cA)) (v w : TCT cC) (a : TCT cA) (s : Sbt) : Tree Unit := bif v.1 == s.2.1 && (v.2.1 == s.2.2 && true) then bif decide (0 ≤ s.1 ∧ s.1 < (l.length : Int)) then
  bif eqAct a (getA l s.1.toNat (dflt cA)) then bif w.1 == v.1 then .leaf () else .fail else .fail else .fail else .fail
def T_tb (b : TCT cB) (x : TCT cSc) : Tree Unit := bif greatF b then .leaf () else bif wideF x then .leaf () else bif sceneE b x != 0 then .leaf () else
  bif sceneE b x != 0 then .fail else bif sceneE b x != 0 then .fail else bif sceneE b x != 0 then .fail else
  bif ((actsV b x).length : Int) == 0 then
    bif eqAct (bestA b x) zA then bif (bestV b x).1 == 0 && ((bestV b x).2.1 == 0 && true) then bif (valF b x).1 == (bestV b x).1 && ((valF b x).2.1 == (bestV b x).2.1 && true) then bif x.2.1 == (b.2.2.1.length : Int) then .leaf () else .fail else .fail else .fail else .fail
  else bif shortA (actsV b x) 0 && okX (rs_bt b x) then post_bt (actsV b x) (valF b x) (bestV b x) (bestA b x) (gX s0_bt (rs_bt b x)) else .fail
def TY_tb (y : TCTs cs_tacticsBest) : Tree Unit := T_tb y.1 y.2.1
end V
end Go.Proofs.YtialgmhhkbdegaaGreat
