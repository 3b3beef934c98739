import Derived.Test.YtkiaifmbbnnliaaGreatUi
namespace Go.Proofs.YtkiaifmbbnnliaaGreat
open Go.RowKit
namespace V
theorem is_Slow : FnIs Tryz.prog (161, Tryz.f161) := ⟨Tryz.func161, by kernel_rfl, by kernel_rfl⟩
def slN (x y : Int) : Int := rt (64 * (x * x + y * y))
def SlowR (x y l : Int) : TCTs [cPt, cI] :=
  bif !strongB x y then ((0, 0, ()), 2, ()) else bif outB l 0 33554432 then ((0, 0, ()), 3, ()) else bif decide (slN x y ≤ 8 * l) then ((0, 0, ()), 0, ()) else
  (((x * (slN x y - 8 * l)).tdiv (slN x y), (y * (slN x y - 8 * l)).tdiv (slN x y), ()), 0, ())
def slQ (x y : Int) : Int := W64 (64 * W64 (W64 (x * x) + W64 (y * y)))
def slP (x y l n : Int) : TCTs [cPt, cI] := ((W64 ((W64 (x * W64 (n - W64 (8 * l)))).tdiv n), W64 ((W64 (y * W64 (n - W64 (8 * l)))).tdiv n), ()), 0, ())
def T_Slow (x y l : Int) : Tree (TCTs [cPt, cI]) :=
  bif !strongB x y then .leaf ((0, 0, ()), 2, ()) else bif outB l 0 33554432 then .leaf ((0, 0, ()), 3, ()) else
  bif decide (W64 (RtV (slQ x y) - W64 (8 * l)) ≤ 0) then .leaf ((0, 0, ()), 0, ()) else
  bif RtV (slQ x y) != 0 then bif RtV (slQ x y) != 0 then .leaf (slP x y l (RtV (slQ x y))) else .fail else .fail
theorem tdiv_bd' {a n A : Int} (h1 : -A ≤ a) (h2 : a ≤ A) : -A ≤ a.tdiv n ∧ a.tdiv n ≤ A := by
  have t1 := Int.natAbs_tdiv a n
  have t3 := Nat.div_le_self a.natAbs n.natAbs
  have t4 : (a.tdiv n).natAbs ≤ a.natAbs := t1 ▸ t3
  generalize a.tdiv n = z at *
  omega
structure SlW (x y l : Int) : Prop where
  q : slQ x y = 64 * (x * x + y * y)
  q0 : 0 ≤ 64 * (x * x + y * y)
  q1 : 64 * (x * x + y * y) ≤ 36028797018963968
  v : RtV (64 * (x * x + y * y)) = slN x y
  n0 : 0 ≤ slN x y
  n1 : slN x y ≤ 268435456
  l0 : W64 (8 * l) = 8 * l
  d : W64 (slN x y - 8 * l) = slN x y - 8 * l
  p : 8 * l < slN x y → slP x y l (slN x y) = (((x * (slN x y - 8 * l)).tdiv (slN x y), (y * (slN x y - 8 * l)).tdiv (slN x y), ()), 0, ())
theorem sl_W {x y l : Int} (h : strongB x y = true) (k : outB l 0 33554432 = false) : SlW x y l := by
  unfold strongB at h
  simp only [Bool.and_eq_true, Bool.not_eq_true'] at h
  have := out_no h.1; have := out_no h.2; have := out_no k
  have ⟨a1, a2⟩ := mul_bd (a := x) (b := x) (A := 16777216) (B := 16777216) (by omega) (by omega) (by omega) (by omega)
  have ⟨b1, b2⟩ := mul_bd (a := y) (b := y) (A := 16777216) (B := 16777216) (by omega) (by omega) (by omega) (by omega)
  have c1 : 0 ≤ x * x := by rcases Int.le_total 0 x with c | c; exact Int.mul_nonneg c c; exact Int.mul_nonneg_of_nonpos_of_nonpos c c
  have c2 : 0 ≤ y * y := by rcases Int.le_total 0 y with c | c; exact Int.mul_nonneg c c; exact Int.mul_nonneg_of_nonpos_of_nonpos c c
  have q : slQ x y = 64 * (x * x + y * y) := by
    unfold slQ
    rw [show W64 (x * x) = x * x from wrap_id (by omega) (by omega), show W64 (y * y) = y * y from wrap_id (by omega) (by omega), show W64 (x * x + y * y) = x * x + y * y from wrap_id (by omega) (by omega)]
    exact wrap_id (by omega) (by omega)
  have q0 : 0 ≤ 64 * (x * x + y * y) := by omega
  have ⟨n0, n3, _⟩ := rt_spec _ q0
  have n1 : rt (64 * (x * x + y * y)) ≤ 268435456 := rt_le _ _ q0 (by omega) (by omega)
  have e1 : W64 (8 * l) = 8 * l := wrap_id (by omega) (by omega)
  have e2 : W64 (slN x y - 8 * l) = slN x y - 8 * l := by unfold slN; exact wrap_id (by omega) (by omega)
  refine ⟨q, q0, by omega, ?_, n0, n1, e1, e2, fun g => ?_⟩
  · unfold RtV rtOk slN
    rw [if_pos (by simp; omega)]
  · unfold slP
    have n1' : slN x y ≤ 268435456 := n1
    have n0' : 0 ≤ slN x y := n0
    rw [e1, e2]
    have ⟨f1, f2⟩ := mul_bd (a := x) (b := slN x y - 8 * l) (A := 16777216) (B := 268435456) (by omega) (by omega) (by omega) (by omega)
    have ⟨f3, f4⟩ := mul_bd (a := y) (b := slN x y - 8 * l) (A := 16777216) (B := 268435456) (by omega) (by omega) (by omega) (by omega)
    rw [show W64 (x * (slN x y - 8 * l)) = x * (slN x y - 8 * l) from wrap_id (by omega) (by omega), show W64 (y * (slN x y - 8 * l)) = y * (slN x y - 8 * l) from wrap_id (by omega) (by omega)]
    have ⟨t1, t2⟩ := tdiv_bd' (n := slN x y) f1 f2
    have ⟨t3, t4⟩ := tdiv_bd' (n := slN x y) f3 f4
    rw [show W64 ((x * (slN x y - 8 * l)).tdiv (slN x y)) = (x * (slN x y - 8 * l)).tdiv (slN x y) from wrap_id (by omega) (by omega), show W64 ((y * (slN x y - 8 * l)).tdiv (slN x y)) = (y * (slN x y - 8 * l)).tdiv (slN x y) from wrap_id (by omega) (by omega)]
theorem T_Slow_ok (x y l : Int) : (T_Slow x y l).sat (fun r => r = SlowR x y l) := by
  unfold T_Slow SlowR
  cases h : strongB x y with
  | false => exact rfl
  | true =>
    cases k : outB l 0 33554432 with
    | true => exact rfl
    | false =>
      have w := sl_W h k
      rw [w.q, w.v, w.l0, w.d]
      have := w.n0
      rcases Int.lt_or_le (8 * l) (slN x y) with g | g
      · have := out_no k
        rw [show decide (slN x y - 8 * l ≤ 0) = false by simp; omega, show decide (slN x y ≤ 8 * l) = false by simp; omega, show (slN x y != 0) = true by simp; omega, w.p g]
        exact rfl
      · rw [show decide (slN x y - 8 * l ≤ 0) = true by simp; omega, show decide (slN x y ≤ 8 * l) = true by simp; omega]
        exact rfl
abbrev s_Slow : PureT := spec [cPt, cI] [cPt, cI] (fun _ => true) (fun x => (((SlowR x.1.1 x.1.2.1 x.2.1).1.1, (SlowR x.1.1 x.1.2.1 x.2.1).1.2.1, ()), (SlowR x.1.1 x.1.2.1 x.2.1).2.1, ()))
def plSl : List (Nat × PureT) := (185, s_Root) :: plK
theorem puSl : PuOk Tryz.prog plSl := puOk_cons is_Root.plain q_Root puK
theorem q_Slow : PureOk Tryz.prog 161 s_Slow := q_by (ctx_ok mixed puSl (fns_cons is_Slow fns_nil)) 7
  (fun x => T_Slow x.1.1 x.1.2.1 x.2.1) (fun x => by kernel_rfl) fun _ _ _ => T_Slow_ok _ _ _
end V
end Go.Proofs.YtkiaifmbbnnliaaGreat
