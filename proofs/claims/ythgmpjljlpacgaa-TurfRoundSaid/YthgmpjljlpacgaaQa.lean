/- Rings of turf: contracts of the small functions, of lists of places, of rings. -/
import Derived.Test.YthgmpjljlpacgaaUA
import Derived.Test.YthgmpjljlpacgaaVC
import Derived.Test.YthgmpjljlpacgaaTm
namespace Go.Proofs.Ythgmpjljlpacgaa
open Go.RowKit
namespace V
abbrev cPart : TC := .st [cI, cI]
abbrev cProd : TC := .st [.i .u64, .i .u64]
abbrev s_times : PureT := spec [cI, cI] [cProd] (fun x => decide (0 ≤ x.1 ∧ 0 ≤ x.2.1)) (fun x => ((x.1 * x.2.1 / 18446744073709551616, x.1 * x.2.1 % 18446744073709551616, ()), ()))
theorem q_times : PureOk Try.prog 55 s_times := bridge p_times _ _ rfl (fun _ => rfl)
abbrev s_compare : PureT := spec [cProd, cProd] [cI] (fun _ => true) (fun x => (((18446744073709551616 * x.1.1 + x.1.2.1) - (18446744073709551616 * x.2.1.1 + x.2.1.2.1)).sign, ()))
theorem q_compare : PureOk Try.prog 56 s_compare := bridge p_compare _ _ rfl (fun _ => rfl)
abbrev okLft (x : TCTs [cPt, cPt, cPt]) : Bool := fpt x.1.1 x.1.2.1 && (fpt x.2.1.1 x.2.1.2.1 && fpt x.2.2.1.1 x.2.2.1.2.1)
abbrev s_left : PureT := spec [cPt, cPt, cPt] [cI] okLft (fun x => (lft x.1.1 x.1.2.1 x.2.1.1 x.2.1.2.1 x.2.2.1.1 x.2.2.1.2.1, ()))
theorem q_left : PureOk Try.prog 65 s_left := bridge p_left _ _ rfl (fun _ => rfl)
theorem q_turn : PureOk Try.prog 67 s_left := bridge p_turn _ _ rfl (fun _ => rfl)
abbrev s_Less : PureT := spec [cI, cI, cI, cI] [cI] (fun x => wdOk x.1 x.2.1 x.2.2.1 x.2.2.2.1) (fun x => ((x.1 * x.2.1 - x.2.2.1 * x.2.2.2.1).sign, ()))
theorem q_Less : PureOk Try.prog 57 s_Less := bridge p_Less _ _ rfl (fun _ => rfl)
/-! below -/
theorem is_below : FnIs Try.prog (75, Try.f75) := ⟨Try.func75, by kernel_rfl, by kernel_rfl⟩
def plBe : List (Nat × PureT) := [(55, s_times), (56, s_compare)]
theorem puBe : PuOk Try.prog plBe := puOk_cons is_times.plain q_times (puOk_cons is_compare.plain q_compare puOk_nil)
def prv (a b c d : Int) : Int := ((18446744073709551616 * (a * d / 18446744073709551616) + a * d % 18446744073709551616) - (18446744073709551616 * (c * b / 18446744073709551616) + c * b % 18446744073709551616)).sign
def okBe (a b c d : Int) : Bool := decide (0 ≤ a ∧ 0 ≤ b ∧ 0 ≤ c ∧ 0 ≤ d)
def T_below (a b c d : Int) : Tree (TCTs [.b]) := bif decide (0 ≤ a ∧ 0 ≤ d) then bif decide (0 ≤ c ∧ 0 ≤ b) then .leaf (decide (prv a b c d < 0), ()) else .fail else .fail
theorem T_below_ok (a b c d : Int) (h : okBe a b c d = true) : (T_below a b c d).sat (fun y => y = (decide (a * d < c * b), ())) := by
  obtain ⟨h1, h2, h3, h4⟩ := of_decide_eq_true h
  unfold T_below prv
  rw [decide_eq_true (show 0 ≤ a ∧ 0 ≤ d from ⟨h1, h4⟩), decide_eq_true (show 0 ≤ c ∧ 0 ≤ b from ⟨h3, h2⟩), show 18446744073709551616 * (a * d / 18446744073709551616) + a * d % 18446744073709551616 = a * d by omega, show 18446744073709551616 * (c * b / 18446744073709551616) + c * b % 18446744073709551616 = c * b by omega]
  show (decide ((a * d - c * b).sign < 0), ()) = _
  congr 1
  rcases Int.lt_trichotomy (a * d) (c * b) with k | k | k
  · rw [sign_lt k, decide_eq_true k]; rfl
  · rw [sign_eq k, decide_eq_false (show ¬ a * d < c * b by omega)]; rfl
  · rw [sign_gt k, decide_eq_false (show ¬ a * d < c * b by omega)]; rfl
abbrev s_below : PureT := spec [cPart, cPart] [.b] (fun x => okBe x.1.1 x.1.2.1 x.2.1.1 x.2.1.2.1) (fun x => (decide (x.1.1 * x.2.1.2.1 < x.2.1.1 * x.1.2.1), ()))
theorem q_below : PureOk Try.prog 75 s_below := q_by (ctx_ok mixed puBe (fns_cons is_below fns_nil)) 3
  (fun x => T_below x.1.1 x.1.2.1 x.2.1.1 x.2.1.2.1) (fun x => by kernel_rfl) fun _ hok _ => T_below_ok _ _ _ _ hok
/-! rings -/
theorem is_ring : FnIs Try.prog (59, Try.f59) := ⟨Try.func59, by kernel_rfl, by kernel_rfl⟩
theorem is_Circle : FnIs Try.prog (60, Try.f60) := ⟨Try.func60, by kernel_rfl, by kernel_rfl⟩
def tab : List (Int × Int) := [(4096, 0), (3784, 1567), (2896, 2896), (1567, 3784), (0, 4096), (-1567, 3784), (-2896, 2896), (-3784, 1567), (-4096, 0), (-3784, -1567), (-2896, -2896), (-1567, -3784), (0, -4096), (1567, -3784), (2896, -2896), (3784, -1567)]
def ringP (x y r : Int) (t : Int × Int) : TCT cPt := (W64 (x + W64 ((W64 (r * t.1)).tdiv 4096)), W64 (y + W64 ((W64 (r * t.2)).tdiv 4096)), ())
def ringW (x y r : Int) : List (TCT cPt) := tab.map (ringP x y r)
abbrev s_ring : PureT := spec [cDisc] [.sl cPt] (fun _ => true) (fun x => (ringW x.1.1.1 x.1.1.2.1 x.1.2.1, ()))
theorem q_ring : PureOk Try.prog 59 s_ring := q_leaf (ctx_ok mixed puOk_nil (fns_cons is_ring fns_nil)) 7 (fun x => by kernel_rfl)
theorem q_Circle : PureOk Try.prog 60 s_ring := q_leaf (ctx_ok mixed puOk_nil (fns_cons is_Circle fns_nil)) 7 (fun x => by kernel_rfl)
end V
end Go.Proofs.Ythgmpjljlpacgaa
