/- fits of turf, of lists of any length. -/
import Derived.Test.YthgmpjljlpacgaaQa
import Derived.Test.YthgmpjljlpacgaaVC
namespace Go.Proofs.Ythgmpjljlpacgaa
open Go.RowKit
namespace V
theorem W64_succ {i n : Nat} (h : i < n) (hn : (n : Int) ≤ maxK .i64) : W64 ((i : Int) + 1) = ((i + 1 : Nat) : Int) := by
  simp only [maxK] at hn
  rw [show W64 ((i : Int) + 1) = (i : Int) + 1 from wrap_id (by omega) (by omega)]; rfl
theorem in64' {x : Int} (h : inK .i64 x) : -9223372036854775808 ≤ x ∧ x ≤ 9223372036854775807 := h
def bad1 (x y : Int) : Bool := decide (max (max (max x (W64 (0 - x))) y) (W64 (0 - y)) > 4194304)
def bad2 (x y : Int) : Bool := decide (min x y < -4194304)
theorem fit_bad {x y : Int} (hx : inK .i64 x) (hy : inK .i64 y) : (bad1 x y || bad2 x y) = !fpt x y := by
  have ⟨x1, x2⟩ := in64' hx
  have ⟨y1, y2⟩ := in64' hy
  unfold bad1 bad2 fpt
  rw [← Bool.decide_or, ← decide_not]
  congr 1
  apply propext
  by_cases h1 : x = -9223372036854775808
  · constructor
    · intro _ h; omega
    · intro _; right; omega
  · by_cases h2 : y = -9223372036854775808
    · constructor
      · intro _ h; omega
      · intro _; right; omega
    · rw [show W64 (0 - x) = 0 - x from wrap_id (by omega) (by omega), show W64 (0 - y) = 0 - y from wrap_id (by omega) (by omega)]
      omega
noncomputable def lb_fits : Code := (loopsOf (bodyOf Try.f47)).getD 0 .skip
def L_fi : Lay := { keys := [2, 5, 6, 7], ks := [.d .b, .d (.sl cPt), .d cI, .d cI], bs := [], n := 32, nx := 1000, marks := [] }
def R_fi : Lay := { keys := [2], ks := [.d .b], bs := [], n := 32, nx := 1000, marks := [] }
def E_fi : XE → Lay := fun _ => R_fi
def Fg (b : Bool) (l : List (TCT cPt)) (n i : Int) : L_fi.T := ((b, l, n, i, ()), ())
def Fr (b : Bool) : R_fi.T := ((b, ()), ())
def st_fi (b : Bool) (l : List (TCT cPt)) (n i : Int) : Tree (L_fi.T ⊕ Left' E_fi) :=
  bif decide (i < n) then bif decide (0 ≤ i ∧ i < (l.length : Int)) then
    bif bad1 (getA l i.toNat (dflt cPt)).1 (getA l i.toNat (dflt cPt)).2.1 then .leaf (.inr ⟨.ret, Fr false⟩) else
    bif bad2 (getA l i.toNat (dflt cPt)).1 (getA l i.toNat (dflt cPt)).2.1 then .leaf (.inr ⟨.ret, Fr false⟩) else .leaf (.inl (Fg b l n (W64 (i + 1)))) else .fail else .leaf (.inr ⟨.exit 0, Fr b⟩)
def fp (p : TCT cPt) : Bool := fpt p.1 p.2.1
def fin_fi (g : L_fi.T) : Tree (Left' E_fi) :=
  .br (decide (g.1.2.2.1 = (g.1.2.1.length : Int) ∧ g.1.2.2.2.1 = 0)) (.br (g.1.2.1.all fp) (.leaf ⟨.exit 0, Fr g.1.1⟩) (.leaf ⟨.ret, Fr false⟩)) .fail
def f_fi (p : TCT cPt) (_ : Nat) (_ : Unit) : Unit ⊕ Left' E_fi := bif fp p then .inl () else .inr ⟨.ret, Fr false⟩
theorem run_fi (b : Bool) : ∀ (l : List (TCT cPt)) (i : Nat), runL f_fi (fun _ => (⟨.exit 0, Fr b⟩ : Left' E_fi)) l i () = bif l.all fp then ⟨.exit 0, Fr b⟩ else ⟨.ret, Fr false⟩
  | [], i => rfl
  | p :: l, i => by
    simp only [runL, f_fi, List.all_cons]
    cases fp p with
    | false => rfl
    | true => exact run_fi b l (i + 1)
theorem l_fits : LoopOk Try.prog 47 lb_fits (loopSum L_fi E_fi fin_fi) := by
  refine loopOk_of (X := ctx Try.prog [] []) (ctx_ok mixed puOk_nil fns_nil) 7 47 (fun _ => none) (fun _ _ f h => by simp at h) L_fi E_fi (fun _ => Nat.le_refl _) fin_fi (fun g => st_fi g.1.1 g.1.2.1 g.1.2.2.1 g.1.2.2.2.1) (fun g => by kernel_rfl) ?_
  rintro ⟨⟨b, l, n, i, ⟨⟩⟩, ⟨⟩⟩ R hw hf
  obtain ⟨hf, h0⟩ := hf
  by_cases hc : n = (l.length : Int) ∧ i = 0
  · obtain ⟨rfl, rfl⟩ := hc
    have hf := hf (decide_eq_true ⟨rfl, rfl⟩)
    have hlen : (l.length : Int) ≤ maxK .i64 := by
      simp only [Lay.WF, L_fi, WFKs, WFK, WFD] at hw
      exact hw.1.2.1.1
    have hmem : ∀ p ∈ l, inK .i64 p.1 ∧ inK .i64 p.2.1 := by
      simp only [Lay.WF, L_fi, WFKs, WFK, WFD] at hw
      intro p hp
      have := hw.1.2.1.2 p hp
      simp only [WFD, WFDs] at this
      exact ⟨this.1, this.2.1⟩
    refine ⟨_, rnds_runL l (fun i _ => Fg b l l.length i) f_fi (fun _ => ⟨.exit 0, Fr b⟩) (fun _ => True) ?_ ?_ l.length 0 () (by omega) trivial ?_⟩
    · intro i _ hi Q _ _ hQ
      show (st_fi b l l.length i).sat Q
      unfold st_fi
      rw [decide_eq_true (show (i : Int) < l.length by omega), decide_eq_true (show 0 ≤ (i : Int) ∧ (i : Int) < l.length by omega), cond_true, cond_true, W64_succ hi hlen]
      have ht : (i : Int).toNat = i := by omega
      rw [ht, getA_lt hi]
      obtain ⟨k1, k2⟩ := hmem l[i] (List.getElem_mem hi)
      have kb := fit_bad k1 k2
      unfold f_fi fp at hQ
      cases c1 : bad1 l[i].1 l[i].2.1 with
      | true =>
        rw [c1, Bool.true_or] at kb
        rw [show fpt l[i].1 l[i].2.1 = false by simpa using kb.symm] at hQ
        exact hQ
      | false =>
        rw [c1, Bool.false_or] at kb
        rw [kb]
        cases c2 : fpt l[i].1 l[i].2.1 with
        | true => rw [c2] at hQ; exact hQ trivial
        | false => rw [c2] at hQ; exact hQ
    · intro _ Q _ hQ
      show (st_fi b l l.length l.length).sat Q
      unfold st_fi
      rw [decide_eq_false (show ¬ (l.length : Int) < l.length by omega)]
      exact hQ
    · rw [List.drop_zero, run_fi]
      obtain ⟨h1, h2⟩ := hf
      have hwr : ∀ b, R_fi.WF (Fr b) := fun _ => ⟨⟨trivial, trivial⟩, trivial⟩
      cases ha : l.all fp with
      | true => exact h1 ha
      | false => exact h2 ha
  · exact (h0 (decide_eq_false hc)).elim
end V
end Go.Proofs.Ythgmpjljlpacgaa
