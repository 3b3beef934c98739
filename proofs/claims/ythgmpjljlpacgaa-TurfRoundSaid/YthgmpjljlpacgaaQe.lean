/- Cross of turf's reference: the loops, the contract. -/
import Derived.Test.YthgmpjljlpacgaaQd
namespace Go.Proofs.Ythgmpjljlpacgaa
open Go.RowKit
namespace V
theorem is_Cross : FnIs Try.prog (62, Try.f62) := ⟨Try.func62, by kernel_rfl, by kernel_rfl⟩
def plCr : List (Nat × PureT) := [(67, s_left), (57, s_LessT)]
theorem puCr : PuOk Try.prog plCr := puOk_cons is_turn.plain q_turn (puOk_cons is_Less.plain q_LessT puOk_nil)
noncomputable def X_cr : Ctx := ctx Try.prog plCr []
theorem X_cr_ok : CtxOk X_cr := ctx_ok mixed puCr fns_nil
noncomputable def lbC (i : Nat) : Code := (loopsOf (bodyOf Try.f62)).getD i .skip
abbrev Il := List (TCT cI)
def allFrom (P : Nat → Bool) : Nat → Nat → Bool
  | 0, _ => true
  | f + 1, k => P k && allFrom P f (k + 1)
/-! the first loop: how far both ends are on the left of each side -/
def L_c1 : Lay := { keys := [2, 3, 4, 7, 8, 9], ks := [.d (.sl cPt), .p 0 0 0 0, .p 1 0 0 0, .o 2 cI, .o 2 cI, .d cI], bs := [(0, 35, [.d cI, .d cI]), (1, 35, [.d cI, .d cI])], n := 129, nx := 1000, marks := [] }
def X_c1 : Lay := { keys := [7, 8], ks := [.o 2 cI, .o 2 cI], bs := [], n := 129, nx := 1000, marks := [] }
def E_c1 : XE → Lay := fun _ => X_c1
def C1g (l : List (TCT cPt)) (c : PC) (p q : Il) (i : Int) : L_c1.T := ((l, (), (), p, q, i, ()), (c.ax, c.ay, ()), (c.bx, c.bY, ()), ())
def C1x (p q : Il) : X_c1.T := ((p, q, ()), ())
def st_c1 (l : List (TCT cPt)) (c : PC) (p q : Il) (i : Int) : Tree (L_c1.T ⊕ Left' E_c1) :=
  bif decide (i < (l.length : Int)) then bif (l.length : Int) != 0 then bif decide (0 ≤ i ∧ i < (l.length : Int)) then bif decide (0 ≤ nxt l i ∧ nxt l i < (l.length : Int)) then
  bif !sameB (ptAt l i) (ptAt l (nxt l i)) then
    bif decide (0 ≤ i ∧ i < (l.length : Int)) then bif decide (0 ≤ nxt l i ∧ nxt l i < (l.length : Int)) then bif okL (ptAt l i) (ptAt l (nxt l i)) c.ax c.ay then bif appOk p [lfP (ptAt l i) (ptAt l (nxt l i)) c.ax c.ay] 8 then
    bif decide (0 ≤ i ∧ i < (l.length : Int)) then bif decide (0 ≤ nxt l i ∧ nxt l i < (l.length : Int)) then bif okL (ptAt l i) (ptAt l (nxt l i)) c.bx c.bY then bif appOk q [lfP (ptAt l i) (ptAt l (nxt l i)) c.bx c.bY] 8 then
      .leaf (.inl (C1g l c (p ++ [lfP (ptAt l i) (ptAt l (nxt l i)) c.ax c.ay]) (q ++ [lfP (ptAt l i) (ptAt l (nxt l i)) c.bx c.bY]) (W64 (i + 1)))) else .fail else .fail else .fail else .fail else .fail else .fail else .fail else .fail
  else .leaf (.inl (C1g l c p q (W64 (i + 1)))) else .fail else .fail else .fail else .leaf (.inr ⟨.exit 0, C1x p q⟩)
def c1C (g : L_c1.T) : PC := ⟨g.2.1.1, g.2.1.2.1, g.2.2.1.1, g.2.2.1.2.1, false⟩
theorem e_c1 (g : L_c1.T) : evC Try.prog (evFn X_cr 7) plCr 62 64 (fun _ => none) (lbC 0) (L_c1.of g) (stepOut L_c1 E_c1) = st_c1 g.1.1 (c1C g) g.1.2.2.2.1 g.1.2.2.2.2.1 g.1.2.2.2.2.2.1 := by kernel_rfl
def xyR (c : PC) (l : List (TCT cPt)) : Nat → Nat → Il × Il → Il × Il
  | 0, _, s => s
  | f + 1, i, s => xyR c l f (i + 1) (bif sameB (getA l i (dflt cPt)) (getA l ((i + 1) % l.length) (dflt cPt)) then s else
    (s.1 ++ [lfP (getA l i (dflt cPt)) (getA l ((i + 1) % l.length) (dflt cPt)) c.ax c.ay], s.2 ++ [lfP (getA l i (dflt cPt)) (getA l ((i + 1) % l.length) (dflt cPt)) c.bx c.bY]))
def okC1 (l : List (TCT cPt)) (c : PC) (p q : Il) (i : Int) : Bool := decide (i = 0 ∧ l.length ≤ 1000 ∧ p.length = 0 ∧ q.length = 0) && (l.all fp && (fpt c.ax c.ay && fpt c.bx c.bY))
def fin_c1 (g : L_c1.T) : Tree (Left' E_c1) := .br (okC1 g.1.1 (c1C g) g.1.2.2.2.1 g.1.2.2.2.2.1 g.1.2.2.2.2.2.1)
  (.leaf ⟨.exit 0, C1x (xyR (c1C g) g.1.1 g.1.1.length 0 (g.1.2.2.2.1, g.1.2.2.2.2.1)).1 (xyR (c1C g) g.1.1 g.1.1.length 0 (g.1.2.2.2.1, g.1.2.2.2.2.1)).2⟩) .fail
theorem app8 {β : Type} {h : List β} {x : β} (k : h.length ≤ 1000000) : appOk h [x] 8 = true := by
  rw [appOk_eq]
  refine decide_eq_true ?_
  simp only [List.length_cons, List.length_nil]
  omega
theorem rnds_c1 {step : L_c1.T → Tree (L_c1.T ⊕ Left' E_c1)} (hs : ∀ l c p q i, step (C1g l c p q i) = st_c1 l c p q i) (R : Left' E_c1 → Prop) (l : List (TCT cPt)) (c : PC) (hl : l.length ≤ 1000) (hf : l.all fp = true) (ha : fpt c.ax c.ay = true) (hb : fpt c.bx c.bY = true) (f : Nat) :
    ∀ (i : Nat) (s : Il × Il), i + f = l.length → s.1.length ≤ i → s.2.length ≤ i → R ⟨.exit 0, C1x (xyR c l f i s).1 (xyR c l f i s).2⟩ → Rnds L_c1 E_c1 step R (f + 1) (C1g l c s.1 s.2 (i : Int)) := by
  induction f with
  | zero =>
    intro i s hi _ _ h1
    have e : i = l.length := by omega
    subst e
    intro _
    rw [hs]
    unfold st_c1
    rw [decide_eq_false (show ¬ (l.length : Int) < (l.length : Int) by omega)]
    exact fun _ => h1
  | succ f ih =>
    intro i s hi k1 k2 h1
    have hlt : i < l.length := by omega
    have hl0 : 0 < l.length := by omega
    have hm := Nat.mod_lt (i + 1) hl0
    intro _
    rw [hs]
    unfold st_c1
    have en : nxt l (i : Int) = (((i + 1) % l.length : Nat) : Int) := by
      unfold nxt
      rw [show W64 ((i : Int) + 1) = ((i + 1 : Nat) : Int) from (wrap_id (by omega) (by omega)).trans rfl]
      rfl
    have ep : ptAt l (i : Int) = getA l i (dflt cPt) := by unfold ptAt; rw [show (i : Int).toNat = i by omega]
    have eq : ptAt l (((i + 1) % l.length : Nat) : Int) = getA l ((i + 1) % l.length) (dflt cPt) := by unfold ptAt; rw [Int.toNat_natCast]
    have f1 := fp_at hf hlt
    have f2 := fp_at hf hm
    rw [en, ep, eq, decide_eq_true (show (i : Int) < (l.length : Int) by omega), decide_eq_true (show 0 ≤ (i : Int) ∧ (i : Int) < (l.length : Int) by omega), show ((l.length : Int) != 0) = true from bne_iff_ne.2 (by omega), decide_eq_true (show 0 ≤ (((i + 1) % l.length : Nat) : Int) ∧ (((i + 1) % l.length : Nat) : Int) < (l.length : Int) from ⟨Int.natCast_nonneg _, Int.ofNat_lt.2 hm⟩),
      show W64 ((i : Int) + 1) = ((i + 1 : Nat) : Int) from (wrap_id (by omega) (by omega)).trans rfl]
    rw [xyR] at h1
    cases hsame : sameB (getA l i (dflt cPt)) (getA l ((i + 1) % l.length) (dflt cPt)) with
    | true =>
      rw [hsame] at h1
      exact ih (i + 1) s (by omega) (by omega) (by omega) h1
    | false =>
      rw [hsame, cond_false] at h1
      generalize getA l i (dflt cPt) = p at *
      generalize getA l ((i + 1) % l.length) (dflt cPt) = q at *
      have o1 : okL p q c.ax c.ay = true := by unfold okL; rw [show fpt p.1 p.2.1 = true from f1, show fpt q.1 q.2.1 = true from f2, ha]; rfl
      have o2 : okL p q c.bx c.bY = true := by unfold okL; rw [show fpt p.1 p.2.1 = true from f1, show fpt q.1 q.2.1 = true from f2, hb]; rfl
      rw [o1, o2, app8 (show s.1.length ≤ 1000000 by omega), app8 (show s.2.length ≤ 1000000 by omega)]
      exact ih (i + 1) (s.1 ++ [lfP p q c.ax c.ay], s.2 ++ [lfP p q c.bx c.bY]) (by omega) (by simp; omega) (by simp; omega) h1
theorem l_c1 : LoopOk Try.prog 62 (lbC 0) (loopSum L_c1 E_c1 fin_c1) := by
  refine loopOk_of (X := X_cr) X_cr_ok 7 62 (fun _ => none) (fun _ _ f h => by simp at h) L_c1 E_c1 (fun _ => Nat.le_refl _) fin_c1 (fun g => st_c1 g.1.1 (c1C g) g.1.2.2.2.1 g.1.2.2.2.2.1 g.1.2.2.2.2.2.1) e_c1 ?_
  intro g R _ hf
  obtain ⟨hf, h0⟩ := hf
  cases hc : okC1 g.1.1 (c1C g) g.1.2.2.2.1 g.1.2.2.2.2.1 g.1.2.2.2.2.2.1 with
  | false => exact (h0 hc).elim
  | true =>
    have h1 := hf hc
    unfold okC1 at hc
    simp only [Bool.and_eq_true] at hc
    obtain ⟨hd, hfp, hfa, hfb⟩ := hc
    obtain ⟨k1, k2, k3, k4⟩ := of_decide_eq_true hd
    have eg : g = C1g g.1.1 (c1C g) g.1.2.2.2.1 g.1.2.2.2.2.1 ((0 : Nat) : Int) := by
      rw [show ((0 : Nat) : Int) = g.1.2.2.2.2.2.1 from k1.symm]
      rfl
    refine ⟨g.1.1.length + 1, ?_⟩
    rw [eg]
    exact rnds_c1 (fun _ _ _ _ _ => rfl) R g.1.1 (c1C g) k2 hfp hfa hfb g.1.1.length 0 (g.1.2.2.2.1, g.1.2.2.2.2.1) (by omega) (by rw [show List.length _ = 0 from k3]; omega) (by rw [show List.length _ = 0 from k4]; omega) h1
/-! the pairs -/
def L_c2 : Lay := { keys := [7, 8, 11], ks := [.o 2 cI, .o 2 cI, .d cI], bs := [], n := 129, nx := 1100, marks := [] }
def L_c3 : Lay := { keys := [7, 8, 11, 12], ks := [.o 2 cI, .o 2 cI, .d cI, .d cI], bs := [], n := 129, nx := 1200, marks := [] }
def X_c2 : Lay := { keys := [], ks := [], bs := [], n := 129, nx := 1100, marks := [] }
def R_c2 : Lay := { keys := [6], ks := [.d .b], bs := [], n := 129, nx := 1200, marks := [] }
def E_c3 : XE → Lay := fun e => match e with | .ret => R_c2 | _ => L_c3
def E_c2 : XE → Lay := fun e => match e with | .ret => R_c2 | _ => X_c2
def C2g (p q : Il) (i : Int) : L_c2.T := ((p, q, i, ()), ())
def C3g (p q : Il) (i k : Int) : L_c3.T := ((p, q, i, k, ()), ())
def C2x : X_c2.T := ((), ())
def C2r : R_c2.T := ((false, ()), ())
def iAt (p : Il) (i : Int) : Int := getA p i.toNat (0 : Int)
def inB {α : Type} (p : Il) (i : Int) (t : Tree α) : Tree α := bif decide (0 ≤ i ∧ i < (p.length : Int)) then bif decide (i.toNat < p.length) then t else .fail else .fail
def st_c3 (p q : Il) (i k : Int) : Tree (L_c3.T ⊕ Left' E_c3) :=
  bif decide (k < (p.length : Int)) then
    inB p i (bif decide (iAt p i ≤ 0) then inB q k (bif decide (iAt q k ≤ 0) then
      inB p i (inB p k (inB q k (inB p k (inB q i (inB p i (
        bif decide (LessW (W64 (0 - iAt p i)) (W64 (iAt p k - iAt q k)) (iAt p k) (W64 (iAt q i - iAt p i)) ≥ 0) then .leaf (.inr ⟨.ret, C2r⟩) else .leaf (.inl (C3g p q i (W64 (k + 1)))))))))) 
      else .leaf (.inl (C3g p q i (W64 (k + 1))))) else .leaf (.inl (C3g p q i (W64 (k + 1)))))
  else .leaf (.inr ⟨.exit 4, C3g p q i k⟩)
theorem e_c3 (g : L_c3.T) : evC Try.prog (evFn X_cr 7) plCr 62 64 (fun _ => none) (lbC 2) (L_c3.of g) (stepOut L_c3 E_c3) = st_c3 g.1.1 g.1.2.1 g.1.2.2.1 g.1.2.2.2.1 := by kernel_rfl
def nAt (p : Il) (i : Nat) : Int := getA p i (0 : Int)
/-- a pair that leaves a part of the segment -/
def prB (p q : Il) (i k : Nat) : Bool := !(decide (nAt p i ≤ 0) && (decide (nAt q k ≤ 0) && decide (LessW (W64 (0 - nAt p i)) (W64 (nAt p k - nAt q k)) (nAt p k) (W64 (nAt q i - nAt p i)) ≥ 0)))
def okC3 (p q : Il) (i k : Int) : Bool := decide (k = 0 ∧ 0 ≤ i ∧ i < (p.length : Int) ∧ p.length = q.length ∧ p.length ≤ 1000)
def fin_c3 (g : L_c3.T) : Tree (Left' E_c3) := .br (okC3 g.1.1 g.1.2.1 g.1.2.2.1 g.1.2.2.2.1)
  (.br (allFrom (prB g.1.1 g.1.2.1 g.1.2.2.1.toNat) g.1.1.length 0) (.leaf ⟨.exit 4, C3g g.1.1 g.1.2.1 g.1.2.2.1 (g.1.1.length : Int)⟩) (.leaf ⟨.ret, C2r⟩)) .fail
theorem inB_ok {α : Type} {R : α → Prop} {p : Il} {i : Nat} {t : Tree α} (h : i < p.length) (k : t.sat R) : (inB p (i : Int) t).sat R := by
  unfold inB
  rw [decide_eq_true (show 0 ≤ (i : Int) ∧ (i : Int) < (p.length : Int) by omega), decide_eq_true (show (i : Int).toNat < p.length by omega)]
  exact k
theorem iAt_eq (p : Il) (i : Nat) : iAt p (i : Int) = nAt p i := by unfold iAt nAt; rw [Int.toNat_natCast]
theorem rnds_c3 {step : L_c3.T → Tree (L_c3.T ⊕ Left' E_c3)} (hs : ∀ p q i k, step (C3g p q i k) = st_c3 p q i k) (R : Left' E_c3 → Prop) (p q : Il) (i : Nat) (hi : i < p.length) (hpq : p.length = q.length) (hl : p.length ≤ 1000) (f : Nat) :
    ∀ (k : Nat), k + f = p.length → (allFrom (prB p q i) f k = true → R ⟨.exit 4, C3g p q (i : Int) (p.length : Int)⟩) → (allFrom (prB p q i) f k = false → R ⟨.ret, C2r⟩) → Rnds L_c3 E_c3 step R (f + 1) (C3g p q (i : Int) (k : Int)) := by
  induction f with
  | zero =>
    intro k hk h1 _
    have e : k = p.length := by omega
    subst e
    intro _
    rw [hs]
    unfold st_c3
    rw [decide_eq_false (show ¬ (p.length : Int) < (p.length : Int) by omega)]
    exact fun _ => h1 rfl
  | succ f ih =>
    intro k hk h1 h2
    have hk' : k < p.length := by omega
    have hkq : k < q.length := by omega
    intro _
    rw [hs]
    unfold st_c3
    rw [decide_eq_true (show (k : Int) < (p.length : Int) by omega), show W64 ((k : Int) + 1) = ((k + 1 : Nat) : Int) from (wrap_id (by omega) (by omega)).trans rfl, iAt_eq, iAt_eq, iAt_eq, iAt_eq]
    have hall : allFrom (prB p q i) (f + 1) k = (prB p q i k && allFrom (prB p q i) f (k + 1)) := rfl
    have hpr : prB p q i k = !(decide (nAt p i ≤ 0) && (decide (nAt q k ≤ 0) && decide (LessW (W64 (0 - nAt p i)) (W64 (nAt p k - nAt q k)) (nAt p k) (W64 (nAt q i - nAt p i)) ≥ 0))) := rfl
    rw [hall, hpr] at h1 h2
    refine inB_ok hi ?_
    cases c1 : decide (nAt p i ≤ 0) with
    | false =>
      rw [c1] at h1 h2
      exact ih (k + 1) (by omega) h1 h2
    | true =>
      rw [c1] at h1 h2
      refine inB_ok hkq ?_
      cases c2 : decide (nAt q k ≤ 0) with
      | false =>
        rw [c2] at h1 h2
        exact ih (k + 1) (by omega) h1 h2
      | true =>
        rw [c2] at h1 h2
        refine inB_ok hi (inB_ok hk' (inB_ok hkq (inB_ok hk' (inB_ok (by omega) (inB_ok hi ?_)))))
        cases c3 : decide (LessW (W64 (0 - nAt p i)) (W64 (nAt p k - nAt q k)) (nAt p k) (W64 (nAt q i - nAt p i)) ≥ 0) with
        | true =>
          rw [c3] at h2
          exact fun _ => h2 rfl
        | false =>
          rw [c3] at h1 h2
          exact ih (k + 1) (by omega) h1 h2
theorem l_c3 : LoopOk Try.prog 62 (lbC 2) (loopSum L_c3 E_c3 fin_c3) := by
  refine loopOk_of (X := X_cr) X_cr_ok 7 62 (fun _ => none) (fun _ _ f h => by simp at h) L_c3 E_c3 (fun e => by cases e <;> exact Nat.le_refl _) fin_c3 (fun g => st_c3 g.1.1 g.1.2.1 g.1.2.2.1 g.1.2.2.2.1) e_c3 ?_
  rintro ⟨⟨p, q, i, k, _⟩, _⟩ R _ hf
  obtain ⟨hf, h0⟩ := hf
  cases hc : okC3 p q i k with
  | false => exact (h0 hc).elim
  | true =>
    obtain ⟨h1, h2⟩ := hf hc
    obtain ⟨k1, k2, k3, k4, k5⟩ := of_decide_eq_true hc
    subst k1
    have hi : ((i.toNat : Nat) : Int) = i := Int.toNat_of_nonneg k2
    refine ⟨p.length + 1, ?_⟩
    have := rnds_c3 (step := fun g => st_c3 g.1.1 g.1.2.1 g.1.2.2.1 g.1.2.2.2.1) (fun _ _ _ _ => rfl) R p q i.toNat (by omega) k4 k5 p.length 0 (by omega) (by rw [hi]; exact h1) h2
    rw [hi] at this
    exact this
noncomputable def Lt_c2 : LoopT := fun k => bif Nat.beq k 17 then some (loopSum L_c3 E_c3 fin_c3) else none
def st_c2 (p q : Il) (i : Int) : Tree (L_c2.T ⊕ Left' E_c2) :=
  bif decide (i < (p.length : Int)) then
    inB p i (bif decide (iAt p i ≤ 0) then inB q i (bif decide (iAt q i ≤ 0) then .leaf (.inr ⟨.ret, C2r⟩) else
      bif okC3 p q i 0 then bif allFrom (prB p q i.toNat) p.length 0 then .leaf (.inl (C2g p q (W64 (i + 1)))) else .leaf (.inr ⟨.ret, C2r⟩) else .fail)
    else bif okC3 p q i 0 then bif allFrom (prB p q i.toNat) p.length 0 then .leaf (.inl (C2g p q (W64 (i + 1)))) else .leaf (.inr ⟨.ret, C2r⟩) else .fail)
  else .leaf (.inr ⟨.exit 2, C2x⟩)
theorem e_c2 (g : L_c2.T) : evC Try.prog (evFn X_cr 7) plCr 62 64 Lt_c2 (lbC 1) (L_c2.of g) (stepOut L_c2 E_c2) = st_c2 g.1.1 g.1.2.1 g.1.2.2.1 := by kernel_rfl
def rowOkB (p q : Il) (i : Nat) : Bool := !(decide (nAt p i ≤ 0) && decide (nAt q i ≤ 0)) && allFrom (prB p q i) p.length 0
def okC2 (p q : Il) (i : Int) : Bool := decide (i = 0 ∧ p.length = q.length ∧ p.length ≤ 1000)
def fin_c2 (g : L_c2.T) : Tree (Left' E_c2) := .br (okC2 g.1.1 g.1.2.1 g.1.2.2.1) (.br (allFrom (rowOkB g.1.1 g.1.2.1) g.1.1.length 0) (.leaf ⟨.exit 2, C2x⟩) (.leaf ⟨.ret, C2r⟩)) .fail
theorem rnds_c2 {step : L_c2.T → Tree (L_c2.T ⊕ Left' E_c2)} (hs : ∀ p q i, step (C2g p q i) = st_c2 p q i) (R : Left' E_c2 → Prop) (p q : Il) (hpq : p.length = q.length) (hl : p.length ≤ 1000) (f : Nat) :
    ∀ (i : Nat), i + f = p.length → (allFrom (rowOkB p q) f i = true → R ⟨.exit 2, C2x⟩) → (allFrom (rowOkB p q) f i = false → R ⟨.ret, C2r⟩) → Rnds L_c2 E_c2 step R (f + 1) (C2g p q (i : Int)) := by
  induction f with
  | zero =>
    intro i hi h1 _
    have e : i = p.length := by omega
    subst e
    intro _
    rw [hs]
    unfold st_c2
    rw [decide_eq_false (show ¬ (p.length : Int) < (p.length : Int) by omega)]
    exact fun _ => h1 rfl
  | succ f ih =>
    intro i hi h1 h2
    have hi' : i < p.length := by omega
    intro _
    rw [hs]
    unfold st_c2
    rw [decide_eq_true (show (i : Int) < (p.length : Int) by omega), show W64 ((i : Int) + 1) = ((i + 1 : Nat) : Int) from (wrap_id (by omega) (by omega)).trans rfl, iAt_eq, iAt_eq, Int.toNat_natCast,
      show okC3 p q (i : Int) 0 = true from decide_eq_true ⟨rfl, by omega, by omega, hpq, hl⟩]
    have hall : allFrom (rowOkB p q) (f + 1) i = (rowOkB p q i && allFrom (rowOkB p q) f (i + 1)) := rfl
    have hro : rowOkB p q i = (!(decide (nAt p i ≤ 0) && decide (nAt q i ≤ 0)) && allFrom (prB p q i) p.length 0) := rfl
    rw [hall, hro] at h1 h2
    have last : ∀ (Q : L_c2.T ⊕ Left' E_c2 → Prop), (allFrom (prB p q i) p.length 0 = true → Q (.inl (C2g p q ((i + 1 : Nat) : Int)))) → (allFrom (prB p q i) p.length 0 = false → Q (.inr ⟨.ret, C2r⟩)) →
        (bif true then bif allFrom (prB p q i) p.length 0 then (.leaf (.inl (C2g p q ((i + 1 : Nat) : Int))) : Tree (L_c2.T ⊕ Left' E_c2)) else .leaf (.inr ⟨.ret, C2r⟩) else .fail).sat Q := by
      intro Q q1 q2
      cases hr : allFrom (prB p q i) p.length 0 with
      | true => exact q1 hr
      | false => exact q2 hr
    refine inB_ok hi' ?_
    cases c1 : decide (nAt p i ≤ 0) with
    | false =>
      rw [c1] at h1 h2
      refine last _ (fun hr => ?_) (fun hr => ?_)
      · rw [hr] at h1 h2; exact ih (i + 1) (by omega) h1 h2
      · rw [hr] at h2; exact fun _ => h2 rfl
    | true =>
      rw [c1] at h1 h2
      refine inB_ok (by omega) ?_
      cases c2 : decide (nAt q i ≤ 0) with
      | false =>
        rw [c2] at h1 h2
        refine last _ (fun hr => ?_) (fun hr => ?_)
        · rw [hr] at h1 h2; exact ih (i + 1) (by omega) h1 h2
        · rw [hr] at h2; exact fun _ => h2 rfl
      | true =>
        rw [c2] at h2
        exact fun _ => h2 rfl
theorem l_c2 : LoopOk Try.prog 62 (lbC 1) (loopSum L_c2 E_c2 fin_c2) := by
  refine loopOk_of (X := X_cr) X_cr_ok 7 62 Lt_c2 ?_ L_c2 E_c2 (fun e => by cases e <;> first | exact Nat.le_refl _ | exact (show 1100 ≤ 1200 by omega)) fin_c2 (fun g => st_c2 g.1.1 g.1.2.1 g.1.2.2.1) e_c2 ?_
  · intro d hd f hf
    have hl : loopsOf (lbC 1) = [lbC 2] := by kernel_rfl
    rw [hl, List.mem_singleton] at hd
    subst hd
    have hk : keyOf (lbC 2) = 17 := by kernel_rfl
    rw [hk] at hf
    have : Lt_c2 17 = some (loopSum L_c3 E_c3 fin_c3) := rfl
    rw [this, Option.some.injEq] at hf
    subst hf
    exact l_c3
  rintro ⟨⟨p, q, i, _⟩, _⟩ R _ hf
  obtain ⟨hf, h0⟩ := hf
  cases hc : okC2 p q i with
  | false => exact (h0 hc).elim
  | true =>
    obtain ⟨h1, h2⟩ := hf hc
    obtain ⟨k1, k2, k3⟩ := of_decide_eq_true hc
    subst k1
    exact ⟨p.length + 1, rnds_c2 (step := fun g => st_c2 g.1.1 g.1.2.1 g.1.2.2.1) (fun _ _ _ => rfl) R p q k2 k3 p.length 0 (by omega) h1 h2⟩
/-! the function -/
noncomputable def X_Cross : Ctx := ctxL Try.prog plCr [(62, Try.f62)] [((62, 3), loopSum L_c1 E_c1 fin_c1), ((62, 12), loopSum L_c2 E_c2 fin_c2)]
theorem X_Cross_ok : CtxOk X_Cross := by
  refine ctxL_ok mixed puCr (fns_cons is_Cross fns_nil) ?_
  intro p hp d hd g hg
  simp only [List.mem_singleton] at hp
  subst hp
  have hl : loopsOf (bodyOf Try.f62) = [lbC 0, lbC 1, lbC 2] := by kernel_rfl
  simp only at hd hg
  rw [hl] at hd
  simp only [List.mem_cons, List.not_mem_nil, or_false] at hd
  rcases hd with rfl | rfl | rfl
  · have hk : keyOf (lbC 0) = 3 := by kernel_rfl
    rw [hk] at hg
    simp [assoc2] at hg
    subst hg
    exact l_c1
  · have hk : keyOf (lbC 1) = 12 := by kernel_rfl
    rw [hk] at hg
    simp only [assoc2] at hg
    rw [show (Nat.beq 62 62 && Nat.beq 3 12) = false from rfl, show (Nat.beq 62 62 && Nat.beq 12 12) = true from rfl] at hg
    simp only [cond_false, cond_true, Option.some.injEq] at hg
    subst hg
    exact l_c2
  · have hk : keyOf (lbC 2) = 17 := by kernel_rfl
    rw [hk] at hg
    simp only [assoc2] at hg
    rw [show (Nat.beq 62 62 && Nat.beq 3 17) = false from rfl, show (Nat.beq 62 62 && Nat.beq 12 17) = false from rfl] at hg
    simp only [cond_false] at hg
    cases hg
def xyOf (c : PC) (l : List (TCT cPt)) : Il × Il := xyR c l l.length 0 ([], [])
def T_Cross (c : PC) (l : List (TCT cPt)) : Tree (TCTs [.b]) :=
  bif okC1 l c [] [] 0 then bif ((xyOf c l).1.length : Int) == 0 then .leaf (false, ()) else
    bif okC2 (xyOf c l).1 (xyOf c l).2 0 then bif allFrom (rowOkB (xyOf c l).1 (xyOf c l).2) (xyOf c l).1.length 0 then .leaf (true, ()) else .leaf (false, ()) else .fail else .fail
theorem T_Cross_eq (x : TCTs [cPt, cPt, .sl cPt]) : evFn X_Cross 7 (.fn 62) (encAs [cPt, cPt, .sl cPt] x) noHeap 0 (outK Try.prog [.b]) = T_Cross ⟨x.1.1, x.1.2.1, x.2.1.1, x.2.1.2.1, false⟩ x.2.2.1 := by kernel_rfl
def crossF (c : PC) (l : List (TCT cPt)) : Bool := !(((xyOf c l).1.length : Int) == 0) && allFrom (rowOkB (xyOf c l).1 (xyOf c l).2) (xyOf c l).1.length 0
theorem xyR_len (c : PC) (l : List (TCT cPt)) (f : Nat) : ∀ (i : Nat) (s : Il × Il), s.1.length = s.2.length → (xyR c l f i s).1.length = (xyR c l f i s).2.length ∧ (xyR c l f i s).1.length ≤ s.1.length + f := by
  induction f with
  | zero => intro i s h; exact ⟨h, by simp [xyR]⟩
  | succ f ih =>
    intro i s h
    rw [xyR]
    cases sameB (getA l i (dflt cPt)) (getA l ((i + 1) % l.length) (dflt cPt)) with
    | true => have := ih (i + 1) s h; exact ⟨this.1, by rw [cond_true]; omega⟩
    | false =>
      rw [cond_false]
      have := ih (i + 1) (s.1 ++ [lfP (getA l i (dflt cPt)) (getA l ((i + 1) % l.length) (dflt cPt)) c.ax c.ay], s.2 ++ [lfP (getA l i (dflt cPt)) (getA l ((i + 1) % l.length) (dflt cPt)) c.bx c.bY]) (by simp [h])
      refine ⟨this.1, ?_⟩
      have h2 := this.2
      simp only [List.length_append, List.length_cons, List.length_nil] at h2
      omega
theorem T_Cross_ok (c : PC) (l : List (TCT cPt)) (h1 : l.length ≤ 1000) (h2 : l.all fp = true) (h3 : fpt c.ax c.ay = true) (h4 : fpt c.bx c.bY = true) : (T_Cross c l).sat (fun y => y = (crossF c l, ())) := by
  unfold T_Cross crossF
  have hx := xyR_len c l l.length 0 ([], []) rfl
  rw [show okC1 l c [] [] 0 = true by unfold okC1; rw [h2, h3, h4, decide_eq_true (show (0 : Int) = 0 ∧ l.length ≤ 1000 ∧ ([] : Il).length = 0 ∧ ([] : Il).length = 0 from ⟨rfl, h1, rfl, rfl⟩)]; rfl,
    show okC2 (xyOf c l).1 (xyOf c l).2 0 = true from decide_eq_true ⟨rfl, hx.1, Nat.le_trans hx.2 (by simp; omega)⟩]
  cases (((xyOf c l).1.length : Int) == 0) with
  | true => exact rfl
  | false => cases allFrom (rowOkB (xyOf c l).1 (xyOf c l).2) (xyOf c l).1.length 0 <;> exact rfl
end V
end Go.Proofs.Ythgmpjljlpacgaa
