/- Contract of turf.First: how many parts there are before the first contact. -/
import Derived.Test.YtmmhbianajpdgaaTb
import Derived.Test.YtmmhbianajpdgaaMc
namespace Go.Proofs.Ytmmhbianajpdgaa
open Go.RowKit Ev
theorem out_false {x lo hi : Int} (h : outB x lo hi = false) : lo ≤ x ∧ x ≤ hi := by
  unfold outB at h
  simp only [Bool.or_eq_false_iff, decide_eq_false_iff_not] at h
  omega
theorem out_true {x lo hi : Int} (h : outB x lo hi = true) : ¬ (lo ≤ x ∧ x ≤ hi) := by
  unfold outB at h
  simp only [Bool.or_eq_true, decide_eq_true_eq] at h
  omega

/-! the loop -/
def lv_first : Lv := { keys := [4, 5, 7, 9, 12, 13, 14, 15, 45, 46], ids := [1, 3], n := 104, nx := 25 }
structure GF where
  r : Int
  n : Int
  vx : Int
  vy : Int
  wx : Int
  wy : Int
  x : Int
  y : Int
  N : Int
  k : Int
def sn_first (g : GF) (a x y k : Int) : Snap := ([.int .i64 g.r, .int .i64 g.n, .ptr 1 0 0 0, .ptr 3 0 0 0, .int .i64 a, .int .i64 0, .int .i64 x, .int .i64 y, .int .i64 g.N, .int .i64 k], [some ⟨25, [.int .i64 g.vx, .int .i64 g.vy], true⟩, some ⟨25, [.int .i64 g.wx, .int .i64 g.wy], true⟩])
def at_first (g : GF) : Snap := sn_first g 0 g.x g.y g.k
def en_first : Snap → Option GF
  | ([.int .i64 r, .int .i64 n, .ptr 1 0 0 0, .ptr 3 0 0 0, .int .i64 0, .int .i64 0, .int .i64 x, .int .i64 y, .int .i64 N, .int .i64 k], [some ⟨25, [.int .i64 vx, .int .i64 vy], true⟩, some ⟨25, [.int .i64 wx, .int .i64 wy], true⟩]) => some ⟨r, n, vx, vy, wx, wy, x, y, N, k⟩
  | _ => none
def inv_first (g : GF) : Bool := decide (0 ≤ g.r ∧ g.r ≤ 131072 ∧ 1 ≤ g.n ∧ g.n ≤ 1024 ∧ g.N = g.n + 1 ∧ 0 ≤ g.k ∧ g.k ≤ g.n + 1 ∧ -8388608 ≤ g.vx - g.wx ∧ g.vx - g.wx ≤ 8388608 ∧ -8388608 ≤ g.vy - g.wy ∧ g.vy - g.wy ≤ 8388608 ∧
  -(8388608 * (g.n + g.k)) ≤ g.x ∧ g.x ≤ 8388608 * (g.n + g.k) ∧ -(8388608 * (g.n + g.k)) ≤ g.y ∧ g.y ≤ 8388608 * (g.n + g.k))
def jF (g : GF) : Nat := fN (g.vx - g.wx) (g.vy - g.wy) (g.r * g.n) (g.N - g.k).toNat g.x g.y
def fin_first (g : GF) : Tree (Exit × Snap) :=
  .br (inv_first g) (.br (Nat.blt (jF g) (g.N - g.k).toNat)
    (.leaf (.ret, sn_first g (g.k + jF g) (g.x + jF g * (g.vx - g.wx)) (g.y + jF g * (g.vy - g.wy)) (g.k + jF g)))
    (.leaf (.exit 0, sn_first g 0 (g.x + jF g * (g.vx - g.wx)) (g.y + jF g * (g.vy - g.wy)) (g.k + jF g)))) .fail
def nx_first (g : GF) : GF := { g with x := g.x + (g.vx - g.wx), y := g.y + (g.vy - g.wy), k := g.k + 1 }

/-! the places: each coordinate's amount is at most 2^22 -/
def fitC (x y : Int) : Bool := decide (max (max (max x (IntKind.i64.wrap (0 - x))) y) (IntKind.i64.wrap (0 - y)) > 4194304)
def fitD (x y : Int) : Bool := decide (min x y < -4194304)
def fpt (x y : Int) : Bool := decide (-4194304 ≤ x ∧ x ≤ 4194304 ∧ -4194304 ≤ y ∧ y ≤ 4194304)
theorem wrap_neg (x : Int) (h1 : -9223372036854775808 ≤ x) (h2 : x ≤ 9223372036854775807) : IntKind.i64.wrap (0 - x) = if x = -9223372036854775808 then x else -x := by
  split
  · rename_i h; subst h; rfl
  · rw [wrap_id (by omega) (by omega)]; omega
theorem fitC_yes {x y : Int} (hx : inK .i64 x) (hy : inK .i64 y) (h : fitC x y = true) : fpt x y = false := by
  simp only [inK, minK, maxK] at hx hy
  unfold fitC at h; unfold fpt
  have h1 := of_decide_eq_true h
  rw [wrap_neg x (by omega) (by omega), wrap_neg y (by omega) (by omega)] at h1
  refine decide_eq_false ?_
  split at h1 <;> split at h1 <;> omega
theorem fitD_yes {x y : Int} (h : fitD x y = true) : fpt x y = false := by
  unfold fitD at h; unfold fpt
  have h1 := of_decide_eq_true h
  refine decide_eq_false ?_
  omega
theorem fit_no {x y : Int} (h : fitC x y = false) (k : fitD x y = false) : fpt x y = true := by
  unfold fitC at h; unfold fitD at k; unfold fpt
  have h1 := of_decide_eq_false h
  have k1 := of_decide_eq_false k
  refine decide_eq_true ?_
  omega
theorem fpt_bd {x y : Int} (h : fpt x y = true) : -4194304 ≤ x ∧ x ≤ 4194304 ∧ -4194304 ≤ y ∧ y ≤ 4194304 := of_decide_eq_true h
theorem fit_sat {α : Type} {R : α → Prop} {x y : Int} {t u : Tree α} (hx : inK .i64 x) (hy : inK .i64 y) (h1 : fpt x y = false → t.sat R) (h2 : fpt x y = true → u.sat R) : (bif fitC x y then t else bif fitD x y then t else u).sat R :=
  sat_cond (fun h => h1 (fitC_yes hx hy h)) (fun h => sat_cond (fun k => h1 (fitD_yes k)) (fun k => h2 (fit_no h k)))

/-- the first contact, and the error -/
def jFs (px py vx vy qx qy wx wy r n : Int) : Nat := fN (vx - wx) (vy - wy) (r * n) (n + 1).toNat (n * (px - qx)) (n * (py - qy))
def Fs (px py vx vy qx qy wx wy r n : Int) : Int × Int :=
  bif fpt px py && (fpt vx vy && (fpt qx qy && fpt wx wy)) then bif outB r 0 131072 || outB n 1 1024 then (0, 3)
    else bif Nat.blt (jFs px py vx vy qx qy wx wy r n) (n + 1).toNat then ((jFs px py vx vy qx qy wx wy r n : Int), 0) else (0, 5)
  else (0, 2)
def g_First : PureT
  | [.agg [.int .i64 px, .int .i64 py], .agg [.int .i64 vx, .int .i64 vy], .agg [.int .i64 qx, .int .i64 qy], .agg [.int .i64 wx, .int .i64 wy], .int .i64 r, .int .i64 n] =>
    some (true, .tup [.int .i64 (Fs px py vx vy qx qy wx wy r n).1, .int .i64 (Fs px py vx vy qx qy wx wy r n).2])
  | _ => none
theorem loops_among {P : Program} {f : Nat} {fn : Func} {lb : Code} {sum : St → Tree (Exit × St)} {fns : List (Nat × Func)} (h1 : loopsOf (bodyOf fn) = [lb]) (h2 : LoopOk P lb sum) (h3 : ∀ p ∈ fns, p.1 = f → p.2 = fn) :
    ∀ p ∈ fns, ∀ d ∈ loopsOf (bodyOf p.2), ∀ g, assoc2 [((f, Ev.keyOf lb), sum)] p.1 (Ev.keyOf d) = some g → LoopOk P d g := by
  intro p hp d hd g hg
  by_cases h : p.1 = f
  · rw [h3 p hp h, h1, List.mem_singleton] at hd
    subst hd
    simp [assoc2, h] at hg
    subst hg
    exact h2
  · have hb : Nat.beq f p.1 = false := by rw [← Bool.not_eq_true, Nat.beq_eq]; exact fun x => h x.symm
    simp [assoc2, hb] at hg
end Go.Proofs.Ytmmhbianajpdgaa
