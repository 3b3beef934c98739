/- Ring and Passes of turf; Ring of its reference; Less for all numbers. -/
import Derived.Test.YthgmpjljlpacgaaQc
namespace Go.Proofs.Ythgmpjljlpacgaa
open Go.RowKit
namespace V
/-! fits -/
theorem is_fitsL : FnIs Try.prog (47, Try.f47) := ⟨Try.func47, by kernel_rfl, by kernel_rfl⟩
noncomputable def X_fits : Ctx := ctxL Try.prog [] [(47, Try.f47)] [((47, 2), loopSum L_fi E_fi fin_fi)]
theorem X_fits_ok : CtxOk X_fits := by
  refine ctxL_ok mixed puOk_nil (fns_cons is_fitsL fns_nil) ?_
  intro p hp d hd g hg
  simp only [List.mem_singleton] at hp
  subst hp
  have hl : loopsOf (bodyOf Try.f47) = [lb_fits] := by kernel_rfl
  simp only at hd hg
  rw [hl, List.mem_singleton] at hd
  subst hd
  have hk : keyOf lb_fits = 2 := by kernel_rfl
  rw [hk] at hg
  simp [assoc2] at hg
  subst hg
  exact l_fits
abbrev s_fits : PureT := spec [.sl cPt] [.b] (fun _ => true) (fun x => (x.1.all fp, ()))
def T_fits (l : List (TCT cPt)) : Tree (TCTs [.b]) := bif decide ((l.length : Int) = (l.length : Int) ∧ (0 : Int) = 0) then bif l.all fp then .leaf (true, ()) else .leaf (false, ()) else .fail
theorem T_fits_ok (l : List (TCT cPt)) : (T_fits l).sat (fun y => y = (l.all fp, ())) := by
  unfold T_fits
  rw [decide_eq_true (show (l.length : Int) = (l.length : Int) ∧ (0 : Int) = 0 from ⟨rfl, rfl⟩)]
  cases l.all fp <;> exact rfl
theorem q_fits : PureOk Try.prog 47 s_fits := q_by X_fits_ok 3 (fun x => T_fits x.1) (fun x => by kernel_rfl) fun _ _ _ => T_fits_ok _
/-! Ring -/
theorem is_Ring : FnIs Try.prog (30, Try.f30) := ⟨Try.func30, by kernel_rfl, by kernel_rfl⟩
theorem is_rRing : FnIs Try.prog (31, Try.f31) := ⟨Try.func31, by kernel_rfl, by kernel_rfl⟩
abbrev RRing := TCTs [.sl cPt, cI]
def RingR (x y r : Int) : RRing := bif u_cd x y r != 0 then ([], 2, ()) else bif !(ringW x y r).all fp then ([], 4, ()) else (ringW x y r, 0, ())
abbrev s_Ring : PureT := spec [cDisc] [.sl cPt, cI] (fun _ => true) (fun x => ((RingR x.1.1.1 x.1.1.2.1 x.1.2.1).1, (RingR x.1.1.1 x.1.1.2.1 x.1.2.1).2.1, ()))
def T_Ring (x y r : Int) : Tree RRing := bif u_cd x y r != 0 then .leaf ([], 2, ()) else bif !(ringW x y r).all fp then .leaf ([], 4, ()) else .leaf (ringW x y r, 0, ())
theorem T_Ring_ok (x y r : Int) : (T_Ring x y r).sat (fun z => z = RingR x y r) := by
  unfold T_Ring RingR
  cases u_cd x y r != 0 <;> cases (ringW x y r).all fp <;> exact rfl
def plRi : List (Nat × PureT) := [(37, s_CheckDisc), (59, s_ring), (47, s_fits)]
theorem puRi : PuOk Try.prog plRi := puOk_cons (show Plain Try.prog 37 from ⟨_, Try.func37, by kernel_rfl, by kernel_rfl⟩) q_CheckDisc (puOk_cons is_ring.plain q_ring (puOk_cons is_fitsL.plain q_fits puOk_nil))
theorem q_Ring : PureOk Try.prog 30 s_Ring := q_by (ctx_ok mixed puRi (fns_cons is_Ring fns_nil)) 5 (fun x => T_Ring x.1.1.1 x.1.1.2.1 x.1.2.1) (fun x => by kernel_rfl) fun _ _ _ => T_Ring_ok _ _ _
/-! Less, for all numbers -/
abbrev cQ : TC := .st [cI, cI, cI, cI]
def prodW (a b : Int) : TCT cQ :=
  let x := W64 (a.tdiv 2147483648)
  let y := a.tmod 2147483648
  let u := W64 (b.tdiv 2147483648)
  let v := b.tmod 2147483648
  let low := W64 (y * v)
  let m := W64 (x * v)
  let n := W64 (y * u)
  let mid := W64 (W64 (m.tmod 2147483648 + n.tmod 2147483648) + W64 (low.tdiv 2147483648))
  let high := W64 (W64 (W64 (m.tdiv 2147483648) + W64 (n.tdiv 2147483648)) + W64 (mid.tdiv 2147483648))
  let top := W64 (W64 (x * u) + high)
  (W64 (top.tdiv 2147483648), top.tmod 2147483648, mid.tmod 2147483648, low.tmod 2147483648, ())
def cmpF (a c k : Int) : Int := bif decide (a < c) then -1 else bif decide (a > c) then 1 else k
def lessF (p q : TCT cQ) : Int := cmpF p.1 q.1 (cmpF p.2.1 q.2.1 (cmpF p.2.2.1 q.2.2.1 (cmpF p.2.2.2.1 q.2.2.2.1 0)))
def LessW (a b c d : Int) : Int := lessF (prodW a b) (prodW c d)
abbrev s_prodT : PureT := spec [cI, cI] [cQ] (fun _ => true) (fun x => (((prodW x.1 x.2.1).1, (prodW x.1 x.2.1).2.1, (prodW x.1 x.2.1).2.2.1, (prodW x.1 x.2.1).2.2.2.1, ()), ()))
theorem q_prodT : PureOk Try.prog 73 s_prodT := q_leaf (ctx_ok mixed puOk_nil (fns_cons is_product fns_nil)) 3 (fun x => by kernel_rfl)
abbrev s_LessT : PureT := spec [cI, cI, cI, cI] [cI] (fun _ => true) (fun x => (LessW x.1 x.2.1 x.2.2.1 x.2.2.2.1, ()))
def T_cmp (a c : Int) (t : Tree (TCTs [cI])) : Tree (TCTs [cI]) := bif decide (a < c) then .leaf (-1, ()) else bif decide (a > c) then .leaf (1, ()) else t
theorem T_cmp_ok {a c k : Int} {t : Tree (TCTs [cI])} (h : t.sat (fun y => y = (k, ()))) : (T_cmp a c t).sat (fun y => y = (cmpF a c k, ())) := by
  unfold T_cmp cmpF
  cases decide (a < c) with
  | true => exact rfl
  | false => cases decide (a > c) with
    | true => exact rfl
    | false => exact h
def T_LessT (p q : TCT cQ) : Tree (TCTs [cI]) := T_cmp p.1 q.1 (T_cmp p.2.1 q.2.1 (T_cmp p.2.2.1 q.2.2.1 (T_cmp p.2.2.2.1 q.2.2.2.1 (.leaf (0, ())))))
theorem q_LessT : PureOk Try.prog 57 s_LessT := q_by (ctx_ok mixed (puOk_cons is_product.plain q_prodT puOk_nil) (fns_cons is_Less fns_nil)) 3
  (fun x => T_LessT (prodW x.1 x.2.1) (prodW x.2.2.1 x.2.2.2.1)) (fun x => by kernel_rfl) fun _ _ _ => T_cmp_ok (T_cmp_ok (T_cmp_ok (T_cmp_ok rfl)))
theorem prodW_ok {a b : Int} (h1 : 0 ≤ a) (h2 : a ≤ 4611686018427387904) (h3 : 0 ≤ b) (h4 : b ≤ 4611686018427387904) : prodW a b = (dTop a b / 2147483648, dTop a b % 2147483648, dMid a b % 2147483648, dLow a b % 2147483648, ()) := by
  unfold prodW
  dsimp only
  unfold W64
  obtain ⟨_, ⟨p1, p2, p3, p4, p5, p6, p7, p8⟩, p9, p10, p11, p12⟩ := dig a b h1 h3 h2 h4
  rw [Int.tdiv_eq_ediv_of_nonneg h1, Int.tdiv_eq_ediv_of_nonneg h3, Int.tmod_eq_emod_of_nonneg h1, Int.tmod_eq_emod_of_nonneg h3, wrap_id (n := a / 2147483648) (by omega) (by omega), wrap_id (n := b / 2147483648) (by omega) (by omega),
    wrap_id (n := a / 2147483648 * (b / 2147483648)) (by omega) (by omega), wrap_id (n := a / 2147483648 * (b % 2147483648)) (by omega) (by omega), wrap_id (n := a % 2147483648 * (b / 2147483648)) (by omega) (by omega), wrap_id (n := a % 2147483648 * (b % 2147483648)) (by omega) (by omega)]
  have hT : dTop a b = a / 2147483648 * (b / 2147483648) + ((a / 2147483648 * (b % 2147483648)) / 2147483648 + (a % 2147483648 * (b / 2147483648)) / 2147483648 + dMid a b / 2147483648) := rfl
  have hM : dMid a b = (a / 2147483648 * (b % 2147483648)) % 2147483648 + (a % 2147483648 * (b / 2147483648)) % 2147483648 + (a % 2147483648 * (b % 2147483648)) / 2147483648 := rfl
  have hL : dLow a b = a % 2147483648 * (b % 2147483648) := rfl
  generalize dTop a b = T at *
  generalize dMid a b = M at *
  generalize dLow a b = L at *
  generalize a / 2147483648 * (b / 2147483648) = A at *
  generalize a / 2147483648 * (b % 2147483648) = B at *
  generalize a % 2147483648 * (b / 2147483648) = C at *
  generalize a % 2147483648 * (b % 2147483648) = D at *
  rw [Int.tdiv_eq_ediv_of_nonneg p3, Int.tdiv_eq_ediv_of_nonneg p5, Int.tdiv_eq_ediv_of_nonneg p7, Int.tmod_eq_emod_of_nonneg p3, Int.tmod_eq_emod_of_nonneg p5, Int.tmod_eq_emod_of_nonneg p7,
    wrap_id (n := B / 2147483648) (by omega) (by omega), wrap_id (n := C / 2147483648) (by omega) (by omega), wrap_id (n := D / 2147483648) (by omega) (by omega), wrap_id (n := B % 2147483648 + C % 2147483648) (by omega) (by omega), wrap_id (n := B % 2147483648 + C % 2147483648 + D / 2147483648) (by omega) (by omega), ← hM,
    Int.tdiv_eq_ediv_of_nonneg (show 0 ≤ M by omega), Int.tmod_eq_emod_of_nonneg (show 0 ≤ M by omega), wrap_id (n := M / 2147483648) (by omega) (by omega), wrap_id (n := B / 2147483648 + C / 2147483648) (by omega) (by omega), wrap_id (n := B / 2147483648 + C / 2147483648 + M / 2147483648) (by omega) (by omega), wrap_id (n := A + (B / 2147483648 + C / 2147483648 + M / 2147483648)) (by omega) (by omega), ← hT,
    Int.tdiv_eq_ediv_of_nonneg (show 0 ≤ T by omega), Int.tmod_eq_emod_of_nonneg (show 0 ≤ T by omega), wrap_id (n := T / 2147483648) (by omega) (by omega), hL]
theorem cmpF_lt {a c k : Int} (h : a < c) : cmpF a c k = -1 := by unfold cmpF; rw [decide_eq_true h]; rfl
theorem cmpF_gt {a c k : Int} (h : c < a) : cmpF a c k = 1 := by unfold cmpF; rw [decide_eq_false (show ¬ a < c by omega), decide_eq_true (show a > c from h)]; rfl
theorem cmpF_eq {a c k : Int} (h : a = c) : cmpF a c k = k := by unfold cmpF; rw [decide_eq_false (show ¬ a < c by omega), decide_eq_false (show ¬ a > c by omega)]; rfl
theorem LessW_ok {a b c d : Int} (h : wdOk a b c d = true) : LessW a b c d = (a * b - c * d).sign := by
  obtain ⟨ha, hb, hc, hd⟩ := wdOk_bd h
  unfold LessW lessF
  rw [prodW_ok ha.1 ha.2 hb.1 hb.2, prodW_ok hc.1 hc.2 hd.1 hd.2]
  have e1 := digits a b ha.1 hb.1 ha.2 hb.2
  have e2 := digits c d hc.1 hd.1 hc.2 hd.2
  have r1 : 0 ≤ dTop a b % 2147483648 ∧ dTop a b % 2147483648 < 2147483648 := by omega
  have r2 : 0 ≤ dMid a b % 2147483648 ∧ dMid a b % 2147483648 < 2147483648 := by omega
  have r3 : 0 ≤ dLow a b % 2147483648 ∧ dLow a b % 2147483648 < 2147483648 := by omega
  have r4 : 0 ≤ dTop c d % 2147483648 ∧ dTop c d % 2147483648 < 2147483648 := by omega
  have r5 : 0 ≤ dMid c d % 2147483648 ∧ dMid c d % 2147483648 < 2147483648 := by omega
  have r6 : 0 ≤ dLow c d % 2147483648 ∧ dLow c d % 2147483648 < 2147483648 := by omega
  rw [e1, e2]
  simp only
  generalize dTop a b / 2147483648 = A0 at *
  generalize dTop c d / 2147483648 = C0 at *
  generalize dTop a b % 2147483648 = A1 at *
  generalize dTop c d % 2147483648 = C1 at *
  generalize dMid a b % 2147483648 = A2 at *
  generalize dMid c d % 2147483648 = C2 at *
  generalize dLow a b % 2147483648 = A3 at *
  generalize dLow c d % 2147483648 = C3 at *
  rcases Int.lt_trichotomy A0 C0 with k | k | k
  · rw [cmpF_lt k, sign_lt (by omega)]
  · rw [cmpF_eq k]
    rcases Int.lt_trichotomy A1 C1 with k1 | k1 | k1
    · rw [cmpF_lt k1, sign_lt (by omega)]
    · rw [cmpF_eq k1]
      rcases Int.lt_trichotomy A2 C2 with k2 | k2 | k2
      · rw [cmpF_lt k2, sign_lt (by omega)]
      · rw [cmpF_eq k2]
        rcases Int.lt_trichotomy A3 C3 with k3 | k3 | k3
        · rw [cmpF_lt k3, sign_lt (by omega)]
        · rw [cmpF_eq k3, sign_eq (by omega)]
        · rw [cmpF_gt k3, sign_gt (by omega)]
      · rw [cmpF_gt k2, sign_gt (by omega)]
    · rw [cmpF_gt k1, sign_gt (by omega)]
  · rw [cmpF_gt k, sign_gt (by omega)]
end V
end Go.Proofs.Ythgmpjljlpacgaa
