/- The law ContactLost: for all arguments it returns true. -/
import Derived.Test.YtmmhbianajpdgaaUj
import Derived.Test.YtmmhbianajpdgaaOb
namespace Go.Proofs.Ytmmhbianajpdgaa
open Go.RowKit
namespace V
theorem is_ContactLost : FnIs Try.prog (4, Try.f4) := ⟨Try.func4, by kernel_rfl, by kernel_rfl⟩
def plLo : List (Nat × PureT) := (17, s_CheckMotion) :: (19, s_Tick) :: plL
theorem puLo : PuOk Try.prog plLo := puOk_cons is_rCheckMotion.plain q_rCheckMotion (puOk_cons is_Tick.plain q_Tick puL)
def Llo : Lay := { keys := [3, 4, 6, 7, 8, 9, 10, 11], ks := [.p 0 0 0 0, .p 1 0 0 0, .d .b, .d cI, .p 2 0 0 0, .d cI, .p 3 0 0 0, .d cI], bs := [(0, 23, [.d cI, .d cI]), (1, 27, [.d cI, .d cI, .d cI, .d cI, .d cI, .d cI]), (2, 27, [.d cI, .d cI, .d cI, .d cI, .d cI, .d cI]), (3, 27, [.d cI, .d cI, .d cI, .d cI, .d cI, .d cI])], n := 143, nx := 1000, marks := [] }
noncomputable def lb_Lost : Code := (loopsOf (bodyOf Try.f4)).getD 0 .skip
def Lgo (rb : Bool) (n e i : Int) (s t : S6) (a : Bm) : Llo.T := (((), (), rb, n, (), e, (), i, ()), (a.m, a.r, ()), s, t, (a.px, a.py, a.mx, a.my, a.rx, a.ry, ()), ())
def E_lo : XE → Lay := fun _ => Llo
def jB (g : Llo.T) : Bm := ⟨g.2.1.1, g.2.1.2.1, g.2.2.2.2.1.1, g.2.2.2.2.1.2.1, g.2.2.2.2.1.2.2.1, g.2.2.2.2.1.2.2.2.1, g.2.2.2.2.1.2.2.2.2.1, g.2.2.2.2.1.2.2.2.2.2.1⟩
def st_lo (rb : Bool) (n e i : Int) (s t : S6) (a : Bm) : Tree (Llo.T ⊕ Left' E_lo) :=
  bif decide (i < W64 (16 * n)) then bif (StepR a).2.1 != 0 then bif (StepR a).2.1 == 4 then bif e == (StepR a).2.1 then .leaf (.inr ⟨.ret, Lgo true n e i s t a⟩) else .leaf (.inr ⟨.ret, Lgo false n e i s t a⟩) else .leaf (.inr ⟨.ret, Lgo false n e i s t a⟩)
  else .leaf (.inl (Lgo rb n e (W64 (i + 1)) s t (moB a (StepR a).1))) else .leaf (.inr ⟨.exit 0, Lgo rb n e i s t a⟩)
def fin_lo (g : Llo.T) : Tree (Left' E_lo) :=
  .br (decide (0 ≤ g.1.2.2.2.2.2.2.2.1 ∧ g.1.2.2.2.2.2.2.2.1 ≤ 16 * g.1.2.2.2.1 ∧ g.1.2.2.2.1 ≤ 1000) && (jB g).ok)
    (.br (stOk (16 * g.1.2.2.2.1 - g.1.2.2.2.2.2.2.2.1).toNat (jB g))
      (.leaf ⟨.exit 0, Lgo g.1.2.2.1 g.1.2.2.2.1 g.1.2.2.2.2.2.1 (16 * g.1.2.2.2.1) g.2.2.1 g.2.2.2.1 (stE (16 * g.1.2.2.2.1 - g.1.2.2.2.2.2.2.2.1).toNat (jB g))⟩)
      (.leaf ⟨.ret, Lgo (g.1.2.2.2.2.2.1 == 4) g.1.2.2.2.1 g.1.2.2.2.2.2.1 (stI (16 * g.1.2.2.2.1 - g.1.2.2.2.2.2.2.2.1).toNat g.1.2.2.2.2.2.2.2.1 (jB g)) g.2.2.1 g.2.2.2.1 (stP (16 * g.1.2.2.2.1 - g.1.2.2.2.2.2.2.2.1).toNat (jB g))⟩)) .fail
theorem rnds_lo {step : Llo.T → Tree (Llo.T ⊕ Left' E_lo)} (hs : ∀ rb n e i s t a, step (Lgo rb n e i s t a) = st_lo rb n e i s t a) (R : Left' E_lo → Prop) (rb : Bool) (e n : Int) (s t : S6) (ht : 0 ≤ n) (hn : n ≤ 1000) : ∀ (k : Nat) (i : Int) (a : Bm), a.Fit → 0 ≤ i → 16 * n - i = k →
    (stOk k a = true → R ⟨.exit 0, Lgo rb n e (16 * n) s t (stE k a)⟩) → (stOk k a = false → R ⟨.ret, Lgo (e == 4) n e (stI k i a) s t (stP k a)⟩) → Rnds Llo E_lo step R (k + 1) (Lgo rb n e i s t a)
  | 0, i, a, ha, hi, hk, h1, h2 => by
    have e1 : i = 16 * n := by omega
    subst e1
    intro _
    rw [hs]
    unfold st_lo
    rw [show W64 (16 * n) = 16 * n from wrap_id (by omega) (by omega), show decide (16 * n < 16 * n) = false by simp]
    exact fun _ => h1 rfl
  | k + 1, i, a, ha, hi, hk, h1, h2 => by
    intro _
    rw [hs]
    unfold st_lo
    rw [show W64 (16 * n) = 16 * n from wrap_id (by omega) (by omega), show decide (i < 16 * n) = true by simp; omega, cond_true, show W64 (i + 1) = i + 1 from wrap_id (by omega) (by omega)]
    unfold stOk stE at h1
    unfold stOk stP stI at h2
    cases hc : fpt (sX a) (sY a) with
    | true =>
      rw [hc] at h1 h2
      rw [StepR_in (fit_ok ha) hc]
      exact rnds_lo hs R rb e n s t ht hn k (i + 1) (stB a) (stB_fit ha hc) (by omega) (by omega) h1 h2
    | false =>
      rw [hc] at h1 h2
      rw [StepR_out (fit_ok ha) hc]
      have h3 := h2 rfl
      show Tree.sat _ (bif e == 4 then (.leaf (.inr ⟨.ret, Lgo true n e i s t a⟩) : Tree (Llo.T ⊕ Left' E_lo)) else .leaf (.inr ⟨.ret, Lgo false n e i s t a⟩))
      cases he : e == 4 with
      | true => rw [he] at h3; exact fun _ => h3
      | false => rw [he] at h3; exact fun _ => h3
theorem l_Lost : LoopOk Try.prog 4 lb_Lost (loopSum Llo E_lo fin_lo) := by
  refine loopOk_of (ctx_ok mixed puLo fns_nil) 7 4 (fun _ => none) (fun _ _ f h => by simp at h) Llo E_lo (fun _ => Nat.le_refl _) fin_lo (fun g => st_lo g.1.2.2.1 g.1.2.2.2.1 g.1.2.2.2.2.2.1 g.1.2.2.2.2.2.2.2.1 g.2.2.1 g.2.2.2.1 (jB g)) (fun g => by kernel_rfl) ?_
  intro g R _ hf
  obtain ⟨hf, h0⟩ := hf
  cases hc : (decide (0 ≤ g.1.2.2.2.2.2.2.2.1 ∧ g.1.2.2.2.2.2.2.2.1 ≤ 16 * g.1.2.2.2.1 ∧ g.1.2.2.2.1 ≤ 1000) && (jB g).ok) with
  | false => exact (h0 hc).elim
  | true =>
    obtain ⟨h1, h2⟩ := hf hc
    rw [Bool.and_eq_true] at hc
    obtain ⟨k1, k2, k3⟩ := of_decide_eq_true hc.1
    obtain ⟨k4, k5⟩ := nn16 k1 k2
    exact ⟨_, rnds_lo (fun _ _ _ _ _ _ _ => rfl) R g.1.2.2.1 g.1.2.2.2.2.2.1 g.1.2.2.2.1 g.2.2.1 g.2.2.2.1 k4 k3 (16 * g.1.2.2.2.1 - g.1.2.2.2.2.2.2.2.1).toNat g.1.2.2.2.2.2.2.2.1 (jB g) (Bm.fit hc.2) k1 k5 h1 h2⟩
noncomputable def X_contactLost : Ctx := ctxL Try.prog ((18, s_CheckMotion) :: plLo) [(4, Try.f4)] [((4, 7), loopSum Llo E_lo fin_lo)]
theorem X_contactLost_ok : CtxOk X_contactLost := ctxL_ok mixed (puOk_cons is_CheckMotion.plain q_CheckMotion puLo) (fns_cons is_ContactLost fns_nil) (loops_one (by kernel_rfl) (by kernel_rfl) l_Lost)
structure StSum (k : Nat) (a c : Bm) : Prop where
  f : c.Fit
  m : c.m = a.m
  r : c.r = a.r
  mx : c.mx = a.mx
  my : c.my = a.my
  x : 64 * a.m * (c.px - a.px) + c.rx - a.rx = k * a.mx
  y : 64 * a.m * (c.py - a.py) + c.ry - a.ry = k * a.my
theorem sum_num {M p p' r r' W R m : Int} {k : Nat} (d : m + r = W * (64 * M) + R) (x : 64 * M * (p' - (p + W)) + r' - R = k * m) : 64 * M * (p' - p) + r' - r = ((k + 1 : Nat) : Int) * m := by
  rw [show ((k + 1 : Nat) : Int) = (k : Int) + 1 from rfl]
  grind
theorem st_sum : ∀ (k : Nat) (a : Bm), a.Fit → stOk k a = true → StSum k a (stE k a)
  | 0, a, ha, _ => ⟨ha, rfl, rfl, rfl, rfl, by show 64 * a.m * (a.px - a.px) + a.rx - a.rx = _; rw [Int.sub_self, Int.mul_zero]; omega, by show 64 * a.m * (a.py - a.py) + a.ry - a.ry = _; rw [Int.sub_self, Int.mul_zero]; omega⟩
  | k + 1, a, ha, h => by
    unfold stOk at h
    cases hc : fpt (sX a) (sY a) with
    | false => rw [hc] at h; simp at h
    | true =>
      rw [hc, cond_true] at h
      obtain ⟨f, m, r, mx, my, x, y⟩ := st_sum k (stB a) (stB_fit ha hc) h
      have e : stE (k + 1) a = stE k (stB a) := by show (bif fpt (sX a) (sY a) then _ else _) = _; rw [hc]; rfl
      have ⟨d1, _, _⟩ := dw_spec (a.mx + a.rx) (64 * a.m) (by have := ha.m1; omega)
      have ⟨d2, _, _⟩ := dw_spec (a.my + a.ry) (64 * a.m) (by have := ha.m1; omega)
      rw [e]
      refine ⟨f, m, r, mx, my, ?_, ?_⟩
      · exact sum_num d1 x
      · exact sum_num d2 y
def lostX (c : Bm) (k : RMot) (a : Bm) (N : Int) : Bool := W64 (W64 (W64 (W64 (64 * c.m) * W64 (k.1.1.1 - a.px)) + k.1.2.2.1.1) - a.rx) == W64 (W64 (16 * N) * a.mx)
def lostY (c : Bm) (k : RMot) (a : Bm) (N : Int) : Bool := W64 (W64 (W64 (W64 (64 * c.m) * W64 (k.1.1.2.1 - a.py)) + k.1.2.2.1.2.1) - a.ry) == W64 (W64 (16 * N) * a.my)
def T_lost (N : Int) (a : Bm) (k : RMot) : Tree Unit :=
  bif okE a.ok != 0 then bif okE a.ok == 2 then .leaf () else .fail else
  bif decide ((0 : Int) ≤ 0 ∧ 0 ≤ 16 * N ∧ N ≤ 1000) && a.ok then
  bif stOk (Int.toNat (16 * N - 0)) a then
   bif k.2.1 != 0 then .fail else
   bif !eqM k.1 (mot (stE (Int.toNat (16 * N - 0)) a)) then .fail else
   bif !(k.1.2.1.1 == a.mx && (k.1.2.1.2.1 == a.my && true)) then .fail else
   bif lostX (stE (Int.toNat (16 * N - 0)) a) k a N then bif lostY (stE (Int.toNat (16 * N - 0)) a) k a N then
   bif okE (motB (stE (Int.toNat (16 * N - 0)) a).m (stE (Int.toNat (16 * N - 0)) a).r k.1.1.1 k.1.1.2.1 k.1.2.1.1 k.1.2.1.2.1 k.1.2.2.1.1 k.1.2.2.1.2.1) == 0 then .leaf () else .fail else .fail else .fail else
  bif k.2.1 == 4 then .leaf () else .fail else .fail
theorem lost_num {M p p' r r' N m : Int} (m1 : 400 ≤ M) (m2 : M ≤ 500) (p1 : -4194304 ≤ p) (p2 : p ≤ 4194304) (q1 : -4194304 ≤ p') (q2 : p' ≤ 4194304) (r1 : -(32 * M) ≤ r) (r2 : r ≤ 32 * M - 1) (s1 : -(32 * M) ≤ r') (s2 : r' ≤ 32 * M - 1)
    (k1 : -16777216 ≤ m) (k2 : m ≤ 16777216) (n1 : 0 ≤ N) (n2 : N ≤ 3) (h : 64 * M * (p' - p) + r' - r = 16 * N * m) : (W64 (W64 (W64 (W64 (64 * M) * W64 (p' - p)) + r') - r) == W64 (W64 (16 * N) * m)) = true := by
  have ⟨a1, a2⟩ := mul_bd (a := 64 * M) (b := p' - p) (A := 32000) (B := 8388608) (by omega) (by omega) (by omega) (by omega)
  have ⟨b1, b2⟩ := mul_bd (a := 16 * N) (b := m) (A := 48) (B := 16777216) (by omega) (by omega) k1 k2
  rw [show W64 (64 * M) = _ from wrap_id (by omega) (by omega), show W64 (p' - p) = _ from wrap_id (by omega) (by omega), show W64 (64 * M * (p' - p)) = _ from wrap_id (by omega) (by omega), show W64 (64 * M * (p' - p) + r') = _ from wrap_id (by omega) (by omega),
    h, show W64 (16 * N) = _ from wrap_id (by omega) (by omega)]
  exact beq_self_eq_true _
theorem T_lost_ok {N : Int} (h1 : 0 ≤ N) (h2 : N ≤ 3) (a : Bm) : (T_lost N a (TickR N a)).sat (fun _ => True) := by
  unfold T_lost TickR stepsR okE
  cases ha : a.ok with
  | false => trivial
  | true =>
    rw [show decide (N < 0) = false by simp; omega, show decide (N > 1000) = false by simp; omega, show decide ((0 : Int) ≤ 0 ∧ 0 ≤ 16 * N ∧ N ≤ 1000) = true by simp; omega, Int.sub_zero]
    cases hs : stOk (16 * N).toNat a with
    | false => trivial
    | true =>
      have fa := Bm.fit ha
      obtain ⟨f, m, r, mx, my, x, y⟩ := st_sum _ a fa hs
      have hx : lostX (stE (16 * N).toNat a) (mot (stE (16 * N).toNat a), 0, ()) a N = true := by
        have := f.rx1; have := f.rx2
        unfold lostX
        rw [m] at *
        exact lost_num (p' := (stE (16 * N).toNat a).px) (r' := (stE (16 * N).toNat a).rx) fa.m1 fa.m2 fa.px1 fa.px2 f.px1 f.px2 fa.rx1 fa.rx2 (by omega) (by omega) fa.mx1 fa.mx2 h1 h2 (by rw [x, Int.toNat_of_nonneg (by omega)])
      have hy : lostY (stE (16 * N).toNat a) (mot (stE (16 * N).toNat a), 0, ()) a N = true := by
        have := f.ry1; have := f.ry2
        unfold lostY
        rw [m] at *
        exact lost_num (p' := (stE (16 * N).toNat a).py) (r' := (stE (16 * N).toNat a).ry) fa.m1 fa.m2 fa.py1 fa.py2 f.py1 f.py2 fa.ry1 fa.ry2 (by omega) (by omega) fa.my1 fa.my2 h1 h2 (by rw [y, Int.toNat_of_nonneg (by omega)])
      show Tree.sat _ (bif (0 : Int) != 0 then .fail else bif !eqM (mot (stE (16 * N).toNat a)) (mot (stE (16 * N).toNat a)) then .fail else bif !((stE (16 * N).toNat a).mx == a.mx && ((stE (16 * N).toNat a).my == a.my && true)) then .fail else
        bif lostX (stE (16 * N).toNat a) (mot (stE (16 * N).toNat a), 0, ()) a N then bif lostY (stE (16 * N).toNat a) (mot (stE (16 * N).toNat a), 0, ()) a N then bif okE (stE (16 * N).toNat a).ok == 0 then .leaf () else .fail else .fail else .fail)
      rw [eqM_self, mx, my, hx, hy, fit_ok f]
      simp only [beq_self_eq_true, Bool.and_self]
      trivial
abbrev cs_contactLost : List TC := [cBall, cMot, .i .u8]
def TZ_lost (t : Int) (a : Bm) : Tree Unit := T_lost (W64 (t.tmod 4)) a (TickR (W64 (t.tmod 4)) a)
theorem TZ_lost_ok {t : Int} (h : inK .u8 t) (a : Bm) : (TZ_lost t a).sat (fun _ => True) := by
  simp only [inK, minK, maxK] at h
  have h1 : 0 ≤ t.tmod 4 := Int.tmod_nonneg _ h.1
  have h2 : t.tmod 4 < 4 := Int.tmod_lt_of_pos _ (by omega)
  unfold TZ_lost
  rw [show W64 (t.tmod 4) = _ from wrap_id (by omega) (by omega)]
  exact T_lost_ok h1 (by omega) a
def TY_lost (y : TCTs cs_contactLost) : Tree Unit := TZ_lost y.2.2.1 (bm y.1 y.2.1)
theorem TY_lost_ok (y : TCTs cs_contactLost) (h : WFDs cs_contactLost y) : (TY_lost y).sat (fun _ => True) := TZ_lost_ok h.2.2.1 _
theorem TY_lost_eq (y : TCTs cs_contactLost) : evFn X_contactLost 8 (.fn 4) (encAs cs_contactLost y) noHeap 0 lawK = TY_lost y := by kernel_rfl
theorem contactLost_sat : LawSat X_contactLost 4 cs_contactLost 8 := lawSat 8 TY_lost TY_lost_eq TY_lost_ok
end V
end Go.Proofs.Ytmmhbianajpdgaa
