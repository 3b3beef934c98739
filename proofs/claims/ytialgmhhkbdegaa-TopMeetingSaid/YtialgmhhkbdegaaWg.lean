/- The law TopStraight: for all arguments it returns true. -/
import Derived.Test.YtialgmhhkbdegaaWf
namespace Go.Proofs.Ytialgmhhkbdegaa
open Go.RowKit
namespace V
theorem is_TopStraight : FnIs Try.prog (3, Try.f3) := ⟨Try.func3, by kernel_rfl, by kernel_rfl⟩
theorem is_round : FnIs Try.prog (7, Try.f7) := ⟨Try.func7, by kernel_rfl, by kernel_rfl⟩
theorem is_spot : FnIs Try.prog (8, Try.f8) := ⟨Try.func8, by kernel_rfl, by kernel_rfl⟩
theorem is_cStep : FnIs Try.prog (9, Try.f9) := ⟨Try.func9, by kernel_rfl, by kernel_rfl⟩
def plTs : List (Nat × PureT) := (9, s_Step) :: plTf
theorem puTs : PuOk Try.prog plTs := puOk_cons is_cStep.plain q_step puTf
noncomputable def X_ts0 : Ctx := ctx Try.prog plTs []
theorem X_ts0_ok : CtxOk X_ts0 := ctx_ok mixed puTs fns_nil
abbrev kM6 : List SK := [.d cI, .d cI, .d cI, .d cI, .d cI, .d cI]
abbrev M6 : Type := SKTs kM6
abbrev kB2 : List SK := [.d cI, .d cI]
def mot6 (s : M6) : TCT cMot := ((s.1, s.2.1, ()), (s.2.2.1, s.2.2.2.1, ()), (s.2.2.2.2.1, s.2.2.2.2.2.1, ()), ())
def flat6 (s : TCT cMot) : M6 := (s.1.1, s.1.2.1, s.2.1.1, s.2.1.2.1, s.2.2.1.1, s.2.2.1.2.1, ())
noncomputable def lb_t1 : Code := (loopsOf (bodyOf Try.f3)).getD 0 .skip
noncomputable def lb_t2 : Code := (loopsOf (bodyOf Try.f3)).getD 1 .skip
def L_t1 : Lay := { keys := [3, 9, 10, 11, 12], ks := [.d (.i .u8), .p 2 0 0 0, .p 5 0 0 0, .o 29 cPt, .d cI], bs := [(2, 26, kB2), (5, 32, kM6)], n := 84, nx := 1000, marks := [] }
def Q_t1 : Lay := { keys := [8], ks := [.d .b], bs := [], n := 84, nx := 2000, marks := [] }
def R_t1 : Lay := { keys := [10, 11], ks := [.p 5 0 0 0, .o 29 cPt], bs := [(5, 32, kM6)], n := 84, nx := 2000, marks := [] }
def E_t1 : XE → Lay
  | .ret => Q_t1
  | _ => R_t1
def L_t2 : Lay := { keys := [10, 11, 15], ks := [.p 5 0 0 0, .o 29 cPt, .d cI], bs := [(5, 32, kM6)], n := 84, nx := 4000, marks := [] }
def Q_t2 : Lay := { keys := [8], ks := [.d .b], bs := [], n := 84, nx := 4000, marks := [] }
def E_t2 : XE → Lay
  | .ret => Q_t2
  | _ => { keys := [], ks := [], bs := [], n := 84, nx := 4000, marks := [] }
abbrev Pts : Type := List (TCT cPt)
def hd_t1 (n : Int) (b : SKTs kB2) (s : M6) (o : Pts) (i : Int) : L_t1.T := ((n, (), (), o, i, ()), (b, s, ()))
def rt_t1 (v : Bool) : Left' E_t1 := ⟨.ret, ((v, ()), ())⟩
def ex_t1 (s : M6) (o : Pts) : Left' E_t1 := ⟨.exit 0, (((), o, ()), (s, ()))⟩
def stp (b : SKTs kB2) (s : M6) : RMot := StepR (bm (b.1, b.2.1, ()) (mot6 s))
def ptS (r : RMot) : TCT cPt := (r.1.1.1, r.1.1.2.1, ())
def st_t1 (n : Int) (b : SKTs kB2) (s : M6) (o : Pts) (i : Int) : Tree (L_t1.T ⊕ Left' E_t1) := bif decide (i < Int.tmod (W64 n) 65) then
  bif (stp b s).2.1 != 0 then bif (stp b s).2.1 == 4 then .leaf (.inr (rt_t1 true)) else .leaf (.inr (rt_t1 false)) else
  bif appOk o [ptS (stp b s)] 16 then .leaf (.inl (hd_t1 n b (flat6 (stp b s).1) (o ++ [ptS (stp b s)]) (W64 (i + 1)))) else .fail else .leaf (.inr (ex_t1 s o))
def stg_t1 (g : L_t1.T) : Tree (L_t1.T ⊕ Left' E_t1) := st_t1 g.1.1 g.2.1 g.2.2.1 g.1.2.2.2.1 g.1.2.2.2.2.1
def fu_t1 (g : L_t1.T) : Nat := (Int.tmod (W64 g.1.1) 65).toNat + 1
theorem l_t1 : LoopOk Try.prog 3 lb_t1 (loopSum L_t1 E_t1 (finX [.ret, .exit 0] stg_t1 fu_t1)) := loopOk_x0 X_ts0_ok 7 _ L_t1 E_t1 (fun e => by cases e <;> exact Nat.le_of_ble_eq_true rfl) _ stg_t1 fu_t1 (fun g => by kernel_rfl)
def hd_t2 (s : M6) (o : Pts) (i : Int) : L_t2.T := (((), o, i, ()), (s, ()))
def rt_t2 : Left' E_t2 := ⟨.ret, ((false, ()), ())⟩
def ex_t2 : Left' E_t2 := ⟨.exit 2, ((), ())⟩
def lsT (s : M6) (p q : TCT cPt) : Int × Int := LsR p.1 p.2.1 s.1 s.2.1 q.1 q.2.1 2
def st_t2 (s : M6) (o : Pts) (i : Int) : Tree (L_t2.T ⊕ Left' E_t2) := bif decide (i < (o.length : Int)) then bif decide ((0 : Int) ≤ 0 ∧ (0 : Int) < (o.length : Int)) then bif decide ((0 : Int).toNat < o.length) then
  bif decide (0 ≤ i ∧ i < (o.length : Int)) then bif decide (i.toNat < o.length) then
    bif (lsT s (getA o (0 : Int).toNat (dflt cPt)) (getA o i.toNat (dflt cPt))).2 != 0 then .leaf (.inr rt_t2) else bif decide ((lsT s (getA o (0 : Int).toNat (dflt cPt)) (getA o i.toNat (dflt cPt))).1 > 0) then .leaf (.inr rt_t2)
    else .leaf (.inl (hd_t2 s o (W64 (i + 1)))) else .fail else .fail else .fail else .fail else .leaf (.inr ex_t2)
def stg_t2 (g : L_t2.T) : Tree (L_t2.T ⊕ Left' E_t2) := st_t2 g.2.1 g.1.2.1 g.1.2.2.1
def fu_t2 (g : L_t2.T) : Nat := g.1.2.1.length + 1
theorem l_t2 : LoopOk Try.prog 3 lb_t2 (loopSum L_t2 E_t2 (finX [.exit 2] stg_t2 fu_t2)) := loopOk_x0 X_ts0_ok 7 _ L_t2 E_t2 (fun e => by cases e <;> exact Nat.le_of_ble_eq_true rfl) _ stg_t2 fu_t2 (fun g => by kernel_rfl)
noncomputable def X_topStraight : Ctx := ctxL Try.prog plTs [(3, Try.f3), (7, Try.f7), (8, Try.f8)] [((3, 5), loopSum L_t1 E_t1 (finX [.ret, .exit 0] stg_t1 fu_t1)), ((3, 13), loopSum L_t2 E_t2 (finX [.exit 2] stg_t2 fu_t2))]
theorem X_topStraight_ok : CtxOk X_topStraight := ctxL_ok mixed puTs (fns_cons is_TopStraight (fns_cons is_round (fns_cons is_spot fns_nil))) (by
  intro p hp d hd g hg
  simp only [List.mem_cons, List.not_mem_nil, or_false] at hp
  rcases hp with rfl | rfl | rfl
  · have hl : loopsOf (bodyOf Try.f3) = [lb_t1, lb_t2] := by kernel_rfl
    simp only at hd hg
    rw [hl] at hd
    simp only [List.mem_cons, List.not_mem_nil, or_false] at hd
    rcases hd with rfl | rfl
    · have hk : keyOf lb_t1 = 5 := by kernel_rfl
      rw [hk] at hg
      have h2 : some (loopSum L_t1 E_t1 (finX [.ret, .exit 0] stg_t1 fu_t1)) = some g := hg
      cases h2
      exact l_t1
    · have hk : keyOf lb_t2 = 13 := by kernel_rfl
      rw [hk] at hg
      have h2 : some (loopSum L_t2 E_t2 (finX [.exit 2] stg_t2 fu_t2)) = some g := hg
      cases h2
      exact l_t2
  · exact nomatch (show (none : Option (St → Tree (XE × St))) = some g from hg)
  · exact nomatch (show (none : Option (St → Tree (XE × St))) = some g from hg))
abbrev cs_topStraight : List TC := [.st [.i .u16, .i .u16], .i .i32, .i .i32, .i .u8]
def dX (x : Int) : Int := W64 (Int.tdiv (W64 (W64 x * 3)) 2)
def dY (y : Int) : Int := W64 (W64 y * 3)
def mM (m : Int) : Int := Int.tmod (W64 m) 16777216
def y_t1 (n x y mx my : Int) : Option (Left' E_t1) := iter stg_t1 ((Int.tmod (W64 n) 65).toNat + 1) (hd_t1 n (450, 2946, ()) (x, y, mx, my, 0, 0, ()) [(x, y, ())] 0)
def y_t2 (s : M6) (o : Pts) : Option (Left' E_t2) := iter stg_t2 (o.length + 1) (hd_t2 s o 0)
def T_ts2 (s : M6) (o : Pts) : Tree Unit := bif isE (.exit 2) (y_t2 s o) then .leaf () else .fail
def T_ts (n x y mx my : Int) : Tree Unit := bif isE .ret (y_t1 n x y mx my) then bif (valE .ret (y_t1 n x y mx my)).1.1 then .leaf () else .fail else
  bif isE (.exit 0) (y_t1 n x y mx my) then T_ts2 (valE (.exit 0) (y_t1 n x y mx my)).2.1 (valE (.exit 0) (y_t1 n x y mx my)).1.2.1 else .fail
def TY_topStraight (y : TCTs cs_topStraight) : Tree Unit := T_ts y.2.2.2.1 (dX y.1.1) (dY y.1.2.1) (mM y.2.1) (mM y.2.2.1)
theorem TY_topStraight_eq (x : TCTs cs_topStraight) : evFn X_topStraight 12 (.fn 3) (encAs cs_topStraight x) noHeap 0 lawK = TY_topStraight x := by kernel_rfl
/-! the plain law -/
def m1 (s : M6) : Int := s.1
def m2 (s : M6) : Int := s.2.1
def m3 (s : M6) : Int := s.2.2.1
def m4 (s : M6) : Int := s.2.2.2.1
def m5 (s : M6) : Int := s.2.2.2.2.1
def m6 (s : M6) : Int := s.2.2.2.2.2.1
def pX (p : TCT cPt) : Int := p.1
def pY (p : TCT cPt) : Int := p.2.1
open Roll in
/-- a ball after some steps, and its places so far -/
structure InvT (x0 y0 mx my : Int) (i : Nat) (s : M6) (o : Pts) : Prop where
  len : o.length = i + 1
  at_ : ∀ (j : Nat) (hj : j < o.length), At x0 mx (j : Int) (pX o[j]) ∧ At y0 my (j : Int) (pY o[j]) ∧ fpt (pX o[j]) (pY o[j]) = true
  zero : getA o 0 (dflt cPt) = (x0, y0, ())
  last : getA o i (dflt cPt) = (m1 s, m2 s, ())
  e3 : m3 s = mx
  e4 : m4 s = my
  e1 : D * (m1 s - x0) = (i : Int) * mx - m5 s
  e2 : D * (m2 s - y0) = (i : Int) * my - m6 s
  r5 : -14400 ≤ m5 s ∧ m5 s ≤ 14399
  r6 : -14400 ≤ m6 s ∧ m6 s ≤ 14399
theorem dwr (n : Int) : n = DW n 28800 * 28800 + DR n 28800 ∧ -14400 ≤ DR n 28800 ∧ DR n 28800 ≤ 14399 := by
  unfold DR DW
  omega
theorem strong_of {x y : Int} (h1 : -16777216 ≤ x ∧ x ≤ 16777216) (h2 : -16777216 ≤ y ∧ y ≤ 16777216) : strongB x y = true := by
  unfold strongB outB
  rw [decide_eq_false (show ¬ x < -16777216 by omega), decide_eq_false (show ¬ 16777216 < x by omega), decide_eq_false (show ¬ y < -16777216 by omega), decide_eq_false (show ¬ 16777216 < y by omega)]
  rfl
def bmT (s : M6) : Bm := ⟨450, 2946, m1 s, m2 s, m3 s, m4 s, m5 s, m6 s⟩
theorem stp_eq (s : M6) : stp (450, 2946, ()) s = StepR (bmT s) := rfl
theorem InvT.fp {x0 y0 mx my : Int} {i : Nat} {s : M6} {o : Pts} (h : InvT x0 y0 mx my i s o) : fpt (m1 s) (m2 s) = true := by
  have hi : i < o.length := by have := h.len; omega
  have := (h.at_ i hi).2.2
  have hl := h.last
  rw [getA_lt hi] at hl
  rw [hl] at this
  exact this
theorem InvT.ok {x0 y0 mx my : Int} {i : Nat} {s : M6} {o : Pts} (h : InvT x0 y0 mx my i s o) (hx : -16777216 ≤ mx ∧ mx ≤ 16777216) (hy : -16777216 ≤ my ∧ my ≤ 16777216) : (bmT s).ok = true := by
  have hr5 := h.r5
  have hr6 := h.r6
  have hs : strongB (m3 s) (m4 s) = true := by rw [h.e3, h.e4]; exact strong_of hx hy
  show motB 450 2946 (m1 s) (m2 s) (m3 s) (m4 s) (m5 s) (m6 s) = true
  unfold motB
  rw [h.fp, hs]
  have e1 : outB (m5 s) (-(32 * 450)) (32 * 450 - 1) = false := by
    unfold outB
    rw [decide_eq_false (show ¬ m5 s < -(32 * 450) by omega), decide_eq_false (show ¬ 32 * 450 - 1 < m5 s by omega)]; rfl
  have e2 : outB (m6 s) (-(32 * 450)) (32 * 450 - 1) = false := by
    unfold outB
    rw [decide_eq_false (show ¬ m6 s < -(32 * 450) by omega), decide_eq_false (show ¬ 32 * 450 - 1 < m6 s by omega)]; rfl
  rw [e1, e2]
  decide
theorem st_t1_step {n : Int} {x0 y0 mx my : Int} {i : Nat} {s : M6} {o : Pts} (h : InvT x0 y0 mx my i s o) (hx : -16777216 ≤ mx ∧ mx ≤ 16777216) (hy : -16777216 ≤ my ∧ my ≤ 16777216) (hi : (i : Int) < Int.tmod (W64 n) 65) (hi2 : i ≤ 100) :
    (stg_t1 (hd_t1 n (450, 2946, ()) s o (i : Int))).run = some (.inr (rt_t1 true)) ∨ ∃ s' o', (stg_t1 (hd_t1 n (450, 2946, ()) s o (i : Int))).run = some (.inl (hd_t1 n (450, 2946, ()) s' o' ((i + 1 : Nat) : Int))) ∧ InvT x0 y0 mx my (i + 1) s' o' := by
  have hok := h.ok hx hy
  have hl := h.len
  have e0 : stg_t1 (hd_t1 n (450, 2946, ()) s o (i : Int)) = st_t1 n (450, 2946, ()) s o (i : Int) := rfl
  rw [e0]
  unfold st_t1
  rw [decide_eq_true hi, cond_true, stp_eq]
  unfold StepR
  rw [hok]
  simp only [Bool.not_true, cond_false]
  cases hf : fpt (sX (bmT s)) (sY (bmT s)) with
  | false => exact .inl rfl
  | true =>
    simp only [Bool.not_true, cond_false]
    have e1 : W64 ((i : Int) + 1) = ((i + 1 : Nat) : Int) := W64_id (by omega) (by omega)
    have ha : appOk o [(((sX (bmT s), sY (bmT s), ()) : TCT cPt))] 16 = true := by
      rw [appOk_eq]
      exact decide_eq_true (by rw [List.length_singleton]; omega)
    obtain ⟨d1, d2, d3⟩ := dwr (m3 s + m5 s)
    obtain ⟨d4, d5, d6⟩ := dwr (m4 s + m6 s)
    have ex : sX (bmT s) = m1 s + DW (m3 s + m5 s) 28800 := rfl
    have ey : sY (bmT s) = m2 s + DW (m4 s + m6 s) 28800 := rfl
    refine .inr ⟨(sX (bmT s), sY (bmT s), m3 s, m4 s, DR (m3 s + m5 s) 28800, DR (m4 s + m6 s) 28800, ()), o ++ [(sX (bmT s), sY (bmT s), ())], ?_, ?_⟩
    · show (bif (0 : Int) != 0 then _ else bif appOk o [((sX (bmT s), sY (bmT s), ()) : TCT cPt)] 16 then Tree.leaf (.inl (hd_t1 n (450, 2946, ()) (sX (bmT s), sY (bmT s), m3 s, m4 s, DR (m3 s + m5 s) (64 * 450), DR (m4 s + m6 s) (64 * 450), ()) (o ++ [(sX (bmT s), sY (bmT s), ())]) (W64 ((i : Int) + 1)))) else .fail : Tree (L_t1.T ⊕ Left' E_t1)).run = _
      rw [ha, e1]
      rfl
    · have hAx : Roll.At x0 mx ((i + 1 : Nat) : Int) (sX (bmT s)) := by
        refine ⟨DR (m3 s + m5 s) 28800, ?_, d2, by omega⟩
        rw [ex, show (((i + 1 : Nat) : Int)) = (i : Int) + 1 by omega]
        have hm := h.e3
        exact Roll.At.step h.e1 (by rw [← hm]; exact d1) ⟨d2, by omega⟩
      have hAy : Roll.At y0 my ((i + 1 : Nat) : Int) (sY (bmT s)) := by
        refine ⟨DR (m4 s + m6 s) 28800, ?_, d5, by omega⟩
        rw [ey, show (((i + 1 : Nat) : Int)) = (i : Int) + 1 by omega]
        have hm := h.e4
        exact Roll.At.step h.e2 (by rw [← hm]; exact d4) ⟨d5, by omega⟩
      refine ⟨by rw [List.length_append, List.length_singleton, hl], fun j hj => ?_, ?_, ?_, h.e3, h.e4, ?_, ?_, ⟨d2, d3⟩, ⟨d5, d6⟩⟩
      · rw [List.length_append, List.length_singleton] at hj
        by_cases hjo : j < o.length
        · rw [List.getElem_append_left hjo]
          exact h.at_ j hjo
        · have : j = o.length := by omega
          subst this
          rw [List.getElem_append_right (Nat.le_refl _)]
          simp only [Nat.sub_self, List.getElem_singleton]
          rw [hl]
          exact ⟨hAx, hAy, hf⟩
      · have hz := h.zero
        rw [getA_lt (by omega)] at hz
        rw [getA_lt (by rw [List.length_append, List.length_singleton]; omega), List.getElem_append_left (by omega)]
        exact hz
      · rw [getA_lt (by rw [List.length_append, List.length_singleton]; omega), List.getElem_append_right (by omega)]
        simp only [hl, Nat.sub_self, List.getElem_singleton]
        rfl
      · obtain ⟨r, q1, _⟩ := hAx
        have := Roll.At.step h.e1 (w := DW (m3 s + m5 s) 28800) (r' := DR (m3 s + m5 s) 28800) (by rw [← h.e3]; exact d1) ⟨d2, by omega⟩
        rw [show (((i + 1 : Nat) : Int)) = (i : Int) + 1 by omega]
        exact this
      · have := Roll.At.step h.e2 (w := DW (m4 s + m6 s) 28800) (r' := DR (m4 s + m6 s) 28800) (by rw [← h.e4]; exact d4) ⟨d5, by omega⟩
        rw [show (((i + 1 : Nat) : Int)) = (i : Int) + 1 by omega]
        exact this
theorem it_t1 {n : Int} {x0 y0 mx my : Int} (hx : -16777216 ≤ mx ∧ mx ≤ 16777216) (hy : -16777216 ≤ my ∧ my ≤ 16777216) (hn : Int.tmod (W64 n) 65 ≤ 64) : ∀ (k i : Nat) (s : M6) (o : Pts) (m : Nat), (i : Int) + (k : Int) = Int.tmod (W64 n) 65 → k + 1 ≤ m → InvT x0 y0 mx my i s o →
    iter stg_t1 m (hd_t1 n (450, 2946, ()) s o (i : Int)) = some (rt_t1 true) ∨ ∃ s' o' i', iter stg_t1 m (hd_t1 n (450, 2946, ()) s o (i : Int)) = some (ex_t1 s' o') ∧ i' ≤ 64 ∧ InvT x0 y0 mx my i' s' o'
  | 0, i, s, o, m, hk, hm, h => by
    cases m with
    | zero => omega
    | succ m =>
      refine .inr ⟨s, o, i, iter_out ?_, by omega, h⟩
      show (st_t1 n (450, 2946, ()) s o (i : Int)).run = _
      unfold st_t1
      rw [decide_eq_false (show ¬ (i : Int) < Int.tmod (W64 n) 65 by omega)]
      rfl
  | k + 1, i, s, o, m, hk, hm, h => by
    cases m with
    | zero => omega
    | succ m =>
      rcases st_t1_step (n := n) h hx hy (by omega) (by omega) with e | ⟨s', o', e, h'⟩
      · exact .inl (iter_out e)
      · rw [iter_in e]
        exact it_t1 hx hy hn k (i + 1) s' o' m (by omega) (by omega) h'
theorem it_t2 {x0 y0 mx my : Int} {i : Nat} {s : M6} {o : Pts} (h : InvT x0 y0 mx my i s o) (hi : i ≤ 64) : y_t2 s o = some ex_t2 := by
  have hl := h.len
  have hz := h.zero
  have h0 : fpt x0 y0 = true := by
    have := (h.at_ 0 (by omega)).2.2
    rw [getA_lt (by omega)] at hz
    rw [hz] at this
    exact this
  obtain ⟨s', _, q, _⟩ := iter_inv (st := stg_t2) (fun j (_ : Unit) => hd_t2 s o (j : Int)) (fun _ u => u) (fun _ => ex_t2) (fun _ _ => True) o.length (by
    intro j _ hj _
    refine ⟨?_, trivial⟩
    obtain ⟨a1, a2, a3⟩ := h.at_ j hj
    have key : lsT s (x0, y0, ()) o[j] = (LsV x0 y0 (m1 s) (m2 s) (pX o[j]) (pY o[j]) 2, 0) := by
      show LsR x0 y0 (m1 s) (m2 s) (pX o[j]) (pY o[j]) 2 = _
      unfold LsR
      rw [h0, h.fp, a3]
      rfl
    have hle : LsV x0 y0 (m1 s) (m2 s) (pX o[j]) (pY o[j]) 2 ≤ 0 := by
      refine Roll.lies_le (N := (i : Int)) (k := (j : Int)) (mx := mx) (my := my) ⟨by omega, by omega⟩ ⟨m5 s, h.e1, h.r5.1, by have := h.r5; omega⟩ ⟨m6 s, h.e2, h.r6.1, by have := h.r6; omega⟩ a1 a2 fun hN => ?_
      have hj0 : j = 0 := by omega
      subst hj0
      rw [getA_lt (by omega)] at hz
      rw [hz]
      exact ⟨rfl, rfl⟩
    show (st_t2 s o (j : Int)).run = _
    unfold st_t2
    have e0 : (0 : Int).toNat = 0 := rfl
    have ej : (j : Int).toNat = j := by omega
    rw [decide_eq_true (show (j : Int) < (o.length : Int) by omega), decide_eq_true (show (0 : Int) ≤ 0 ∧ (0 : Int) < (o.length : Int) by omega), e0, ej, decide_eq_true (show 0 < o.length by omega), decide_eq_true (show 0 ≤ (j : Int) ∧ (j : Int) < (o.length : Int) by omega), decide_eq_true hj, hz, getA_lt hj, key, W64_succ hj (by simp only [maxK]; omega)]
    simp only [cond_true]
    rw [decide_eq_false (show ¬ LsV x0 y0 (m1 s) (m2 s) (pX o[j]) (pY o[j]) 2 > 0 by omega)]
    rfl) (by
    intro _ _
    show (st_t2 s o (o.length : Int)).run = _
    unfold st_t2
    rw [decide_eq_false (show ¬ (o.length : Int) < (o.length : Int) by omega)]
    rfl) o.length 0 () (o.length + 1) (by omega) (by omega) trivial
  exact q
theorem T_ts_ok {n x y mx my : Int} (hf : fpt x y = true) (hx : -16777216 ≤ mx ∧ mx ≤ 16777216) (hy : -16777216 ≤ my ∧ my ≤ 16777216) (hn : 0 ≤ Int.tmod (W64 n) 65 ∧ Int.tmod (W64 n) 65 ≤ 64) : (T_ts n x y mx my).sat (fun _ => True) := by
  have h0 : InvT x y mx my 0 (x, y, mx, my, 0, 0, ()) [(x, y, ())] := by
    refine ⟨rfl, fun j hj => ?_, rfl, rfl, rfl, rfl, ?_, ?_, (show (-14400 : Int) ≤ 0 ∧ (0 : Int) ≤ 14399 by decide), (show (-14400 : Int) ≤ 0 ∧ (0 : Int) ≤ 14399 by decide)⟩
    · have : j = 0 := by simpa using hj
      subst this
      exact ⟨⟨0, by simp [pX], by decide, by decide⟩, ⟨0, by simp [pY], by decide, by decide⟩, hf⟩
    · show Roll.D * (x - x) = _; simp [m5]
    · show Roll.D * (y - y) = _; simp [m6]
  unfold T_ts
  rcases it_t1 (n := n) hx hy hn.2 (Int.tmod (W64 n) 65).toNat 0 _ _ ((Int.tmod (W64 n) 65).toNat + 1) (by omega) (by omega) h0 with e | ⟨s', o', i', e, hi, h⟩
  · have e : y_t1 n x y mx my = _ := e
    rw [e]
    exact trivial
  · have e : y_t1 n x y mx my = _ := e
    rw [e]
    show (T_ts2 s' o').sat _
    unfold T_ts2
    rw [it_t2 h hi]
    exact trivial
theorem topStraight_sat : LawSat X_topStraight 3 cs_topStraight 12 := lawSat 12 TY_topStraight TY_topStraight_eq (fun y hy => by
  obtain ⟨⟨d1, d2, ⟨⟩⟩, mx, my, n, ⟨⟩⟩ := y
  obtain ⟨⟨h1, h2, _⟩, h3, h4, h5, _⟩ := hy
  have h1 : (0 : Int) ≤ d1 ∧ d1 ≤ 65535 := h1
  have h2 : (0 : Int) ≤ d2 ∧ d2 ≤ 65535 := h2
  have h3 : (-2147483648 : Int) ≤ mx ∧ mx ≤ 2147483647 := h3
  have h4 : (-2147483648 : Int) ≤ my ∧ my ≤ 2147483647 := h4
  have h5 : (0 : Int) ≤ n ∧ n ≤ 255 := h5
  have key : ∀ d1 d2 mx my n : Int, (0 ≤ d1 ∧ d1 ≤ 65535) → (0 ≤ d2 ∧ d2 ≤ 65535) → (-2147483648 ≤ mx ∧ mx ≤ 2147483647) → (-2147483648 ≤ my ∧ my ≤ 2147483647) → (0 ≤ n ∧ n ≤ 255) → (T_ts n (dX d1) (dY d2) (mM mx) (mM my)).sat (fun _ => True) := by
    intro d1 d2 mx my n h1 h2 h3 h4 h5
    have fx : 0 ≤ dX d1 ∧ dX d1 ≤ 98303 := by
      unfold dX
      rw [W64_id (n := d1) (by omega) (by omega), W64_id (n := d1 * 3) (by omega) (by omega), Int.tdiv_eq_ediv_of_nonneg (by omega), W64_id (by omega) (by omega)]
      omega
    have fy : 0 ≤ dY d2 ∧ dY d2 ≤ 196605 := by
      unfold dY
      rw [W64_id (n := d2) (by omega) (by omega), W64_id (n := d2 * 3) (by omega) (by omega)]
      omega
    have fm : ∀ m : Int, -2147483648 ≤ m ∧ m ≤ 2147483647 → -16777216 ≤ mM m ∧ mM m ≤ 16777216 := by
      intro m hm
      unfold mM
      rw [W64_id (n := m) (by omega) (by omega)]
      have := Int.tmod_lt_of_pos m (show (0 : Int) < 16777216 by decide)
      have := Int.lt_tmod_of_pos m (show (0 : Int) < 16777216 by decide)
      omega
    refine T_ts_ok (decide_eq_true (by omega)) (fm mx h3) (fm my h4) ?_
    rw [W64_id (n := n) (by omega) (by omega), Int.tmod_eq_emod_of_nonneg h5.1]
    omega
  exact key d1 d2 mx my n h1 h2 h3 h4 h5)
end V
end Go.Proofs.Ytialgmhhkbdegaa
