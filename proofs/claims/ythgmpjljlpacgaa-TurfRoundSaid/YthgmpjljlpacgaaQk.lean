/- The ring of a disc: its places, seen from the middle. Plain mathematics. -/
import Derived.Test.YthgmpjljlpacgaaQi
import Derived.Test.YthgmpjljlpacgaaQh
import Derived.Test.YthgmpjljlpacgaaQj
namespace Go.Proofs.Ythgmpjljlpacgaa
open Go.RowKit
namespace V
/-! the ring's places -/
def tq (r t : Int) : Int := (r * t).tdiv 4096
theorem tq_neg (r t : Int) : tq r (-t) = - tq r t := by unfold tq; rw [Int.mul_neg, Int.neg_tdiv]
theorem tq_bd {r t : Int} (h1 : 1 ≤ r) (h2 : -4096 ≤ t) (h3 : t ≤ 4096) : -r ≤ tq r t ∧ tq r t ≤ r := by
  have a := Int.mul_le_mul_of_nonneg_left h3 (show 0 ≤ r by omega)
  have b := Int.mul_le_mul_of_nonneg_left h2 (show 0 ≤ r by omega)
  unfold tq
  by_cases h : 0 ≤ r * t
  · rw [Int.tdiv_eq_ediv_of_nonneg h]; omega
  · have e : (r * t).tdiv 4096 = - ((-(r * t)).tdiv 4096) := by rw [Int.neg_tdiv]; omega
    rw [e, Int.tdiv_eq_ediv_of_nonneg (by omega)]; omega
theorem ringP_eq {x y r : Int} {t : Int × Int} (hx : -2097152 ≤ x ∧ x ≤ 2097152) (hy : -2097152 ≤ y ∧ y ≤ 2097152) (h1 : 1 ≤ r) (h2 : r ≤ 65536) (ht : (-4096 ≤ t.1 ∧ t.1 ≤ 4096) ∧ (-4096 ≤ t.2 ∧ t.2 ≤ 4096)) :
    ringP x y r t = (x + tq r t.1, y + tq r t.2, ()) := by
  have a := tq_bd h1 ht.1.1 ht.1.2
  have b := tq_bd h1 ht.2.1 ht.2.2
  have m1 := Int.mul_le_mul_of_nonneg_left ht.1.2 (show 0 ≤ r by omega)
  have m2 := Int.mul_le_mul_of_nonneg_left ht.1.1 (show 0 ≤ r by omega)
  have m3 := Int.mul_le_mul_of_nonneg_left ht.2.2 (show 0 ≤ r by omega)
  have m4 := Int.mul_le_mul_of_nonneg_left ht.2.1 (show 0 ≤ r by omega)
  unfold ringP
  rw [show W64 (r * t.1) = r * t.1 from wrap_id (by omega) (by omega), show W64 (r * t.2) = r * t.2 from wrap_id (by omega) (by omega)]
  show (W64 (x + W64 (tq r t.1)), W64 (y + W64 (tq r t.2)), ()) = _
  rw [show W64 (tq r t.1) = tq r t.1 from wrap_id (by omega) (by omega), show W64 (tq r t.2) = tq r t.2 from wrap_id (by omega) (by omega), show W64 (x + tq r t.1) = x + tq r t.1 from wrap_id (by omega) (by omega), show W64 (y + tq r t.2) = y + tq r t.2 from wrap_id (by omega) (by omega)]
theorem tab_bd : ∀ t ∈ tab, (-4096 ≤ t.1 ∧ t.1 ≤ 4096) ∧ (-4096 ≤ t.2 ∧ t.2 ≤ 4096) := by decide
def place (x y r : Int) (t : Int × Int) : TCT cPt := (x + tq r t.1, y + tq r t.2, ())
theorem ringW_eq {x y r : Int} (hx : -2097152 ≤ x ∧ x ≤ 2097152) (hy : -2097152 ≤ y ∧ y ≤ 2097152) (h1 : 1 ≤ r) (h2 : r ≤ 65536) : ringW x y r = tab.map (place x y r) :=
  List.map_congr_left fun t ht => ringP_eq hx hy h1 h2 (tab_bd t ht)
theorem ring_fit {x y r : Int} (hx : -2097152 ≤ x ∧ x ≤ 2097152) (hy : -2097152 ≤ y ∧ y ≤ 2097152) (h1 : 1 ≤ r) (h2 : r ≤ 65536) : (ringW x y r).all fp = true := by
  rw [ringW_eq hx hy h1 h2, List.all_map, List.all_eq_true]
  intro t ht
  have hb := tab_bd t ht
  have a := tq_bd h1 hb.1.1 hb.1.2
  have b := tq_bd h1 hb.2.1 hb.2.2
  show fpt (x + tq r t.1) (y + tq r t.2) = true
  unfold fpt
  exact decide_eq_true (by omega)
theorem ring_R {x y r : Int} (hx : -2097152 ≤ x ∧ x ≤ 2097152) (hy : -2097152 ≤ y ∧ y ≤ 2097152) (h1 : 1 ≤ r) (h2 : r ≤ 65536) : RingR x y r = (ringW x y r, 0, ()) := by
  have hc : u_cd x y r = 0 := by
    unfold u_cd u_cdOk fpt outB
    rw [decide_eq_true (by omega), decide_eq_false (by omega), decide_eq_false (by omega)]; rfl
  unfold RingR
  rw [hc, ring_fit hx hy h1 h2]; rfl
/-- a place of the ring, seen from the middle -/
def wh (r p q s : Int) : Nat → Int × Int
  | 0 => (r, 0) | 1 => (p, q) | 2 => (s, s) | 3 => (q, p)
  | 4 => (0, r) | 5 => (-q, p) | 6 => (-s, s) | 7 => (-p, q)
  | 8 => (-r, 0) | 9 => (-p, -q) | 10 => (-s, -s) | 11 => (-q, -p)
  | 12 => (0, -r) | 13 => (q, -p) | 14 => (s, -s) | _ => (p, -q)
theorem seen_ring {x y r : Int} (hx : -2097152 ≤ x ∧ x ≤ 2097152) (hy : -2097152 ≤ y ∧ y ≤ 2097152) (h1 : 1 ≤ r) (h2 : r ≤ 65536) (i : Nat) (hi : i < 16) : seen (ringW x y r) x y i = wh r (r * 3784 / 4096) (r * 1567 / 4096) (r * 2896 / 4096) i := by
  have z : tq r 0 = 0 := by unfold tq; rw [Int.mul_zero]; rfl
  have o : tq r 4096 = r := by unfold tq; rw [Int.tdiv_eq_ediv_of_nonneg (by omega)]; omega
  have p : tq r 3784 = r * 3784 / 4096 := by unfold tq; rw [Int.tdiv_eq_ediv_of_nonneg (by omega)]
  have q : tq r 1567 = r * 1567 / 4096 := by unfold tq; rw [Int.tdiv_eq_ediv_of_nonneg (by omega)]
  have s : tq r 2896 = r * 2896 / 4096 := by unfold tq; rw [Int.tdiv_eq_ediv_of_nonneg (by omega)]
  have on : tq r (-4096) = -r := by rw [tq_neg, o]
  have pn : tq r (-3784) = -(r * 3784 / 4096) := by rw [tq_neg, p]
  have qn : tq r (-1567) = -(r * 1567 / 4096) := by rw [tq_neg, q]
  have sn : tq r (-2896) = -(r * 2896 / 4096) := by rw [tq_neg, s]
  have back : ∀ a b : Int, a + b - a = b := by intro a b; omega
  have hg : ∀ t, tab[i]? = some t → seen (ringW x y r) x y i = (tq r t.1, tq r t.2) := by
    intro t ht
    have hlen : i < tab.length := hi
    have ht' : tab[i] = t := by rw [List.getElem?_eq_getElem hlen] at ht; exact Option.some.inj ht
    unfold seen
    rw [ringW_eq hx hy h1 h2, getA_lt (by rw [List.length_map]; exact hlen), List.getElem_map, ht']
    show (x + tq r t.1 - x, y + tq r t.2 - y) = _
    rw [back, back]
  match i, hi with
  | 0, _ => rw [hg _ rfl]; simp only [o, z]; rfl
  | 1, _ => rw [hg _ rfl]; simp only [p, q]; rfl
  | 2, _ => rw [hg _ rfl]; simp only [s]; rfl
  | 3, _ => rw [hg _ rfl]; simp only [p, q]; rfl
  | 4, _ => rw [hg _ rfl]; simp only [o, z]; rfl
  | 5, _ => rw [hg _ rfl]; simp only [p, qn]; rfl
  | 6, _ => rw [hg _ rfl]; simp only [s, sn]; rfl
  | 7, _ => rw [hg _ rfl]; simp only [pn, q]; rfl
  | 8, _ => rw [hg _ rfl]; simp only [on, z]; rfl
  | 9, _ => rw [hg _ rfl]; simp only [pn, qn]; rfl
  | 10, _ => rw [hg _ rfl]; simp only [sn]; rfl
  | 11, _ => rw [hg _ rfl]; simp only [pn, qn]; rfl
  | 12, _ => rw [hg _ rfl]; simp only [on, z]; rfl
  | 13, _ => rw [hg _ rfl]; simp only [pn, q]; rfl
  | 14, _ => rw [hg _ rfl]; simp only [s, sn]; rfl
  | 15, _ => rw [hg _ rfl]; simp only [p, qn]; rfl
  | k + 16, h => exact absurd h (by omega)
def norm (w : Int × Int) : Int := w.1 * w.1 + w.2 * w.2
def crs (w v : Int × Int) : Int := w.1 * v.2 - v.1 * w.2
def gap (w v : Int × Int) : Int := (v.1 - w.1) * (v.1 - w.1) + (v.2 - w.2) * (v.2 - w.2)
theorem wh_norm {r p q s : Int} (T : Tb r p q s) (hr : 1 ≤ r) (i : Nat) (hi : i < 16) : norm (wh r p q s i) ≤ r * r ∧ (0 < inR r → inR r * inR r ≤ norm (wh r p q s i)) := by
  have hin : 0 < inR r → inR r * inR r ≤ r * r := fun h => Int.mul_le_mul (by unfold inR; omega) (by unfold inR; omega) (by omega) (by omega)
  have a0 : norm (wh r p q s i) = r * r ∨ norm (wh r p q s i) = p * p + q * q ∨ norm (wh r p q s i) = s * s + s * s := by
    unfold norm
    match i, hi with
    | 0, _ => left; show r * r + 0 * 0 = _; grind
    | 1, _ => right; left; rfl
    | 2, _ => right; right; rfl
    | 3, _ => right; left; show q * q + p * p = _; grind
    | 4, _ => left; show 0 * 0 + r * r = _; grind
    | 5, _ => right; left; show -q * -q + p * p = _; grind
    | 6, _ => right; right; show -s * -s + s * s = _; grind
    | 7, _ => right; left; show -p * -p + q * q = _; grind
    | 8, _ => left; show -r * -r + 0 * 0 = _; grind
    | 9, _ => right; left; show -p * -p + -q * -q = _; grind
    | 10, _ => right; right; show -s * -s + -s * -s = _; grind
    | 11, _ => right; left; show -q * -q + -p * -p = _; grind
    | 12, _ => left; show 0 * 0 + -r * -r = _; grind
    | 13, _ => right; left; show q * q + -p * -p = _; grind
    | 14, _ => right; right; show s * s + -s * -s = _; grind
    | 15, _ => right; left; show p * p + -q * -q = _; grind
    | k + 16, h => exact absurd h (by omega)
  rcases a0 with h | h | h <;> rw [h]
  · exact ⟨Int.le_refl _, hin⟩
  · exact ⟨T.n1, T.i1⟩
  · exact ⟨T.n2, T.i2⟩
theorem wh_side {r p q s : Int} (T : Tb r p q s) (hn : 0 < neR r) (i : Nat) (hi : i < 16) : 0 < crs (wh r p q s i) (wh r p q s ((i + 1) % 16)) ∧ neR r * neR r * gap (wh r p q s i) (wh r p q s ((i + 1) % 16)) ≤ crs (wh r p q s i) (wh r p q s ((i + 1) % 16)) * crs (wh r p q s i) (wh r p q s ((i + 1) % 16)) := by
  have a0 : (crs (wh r p q s i) (wh r p q s ((i + 1) % 16)) = r * q ∧ gap (wh r p q s i) (wh r p q s ((i + 1) % 16)) = (r - p) * (r - p) + q * q) ∨
      (crs (wh r p q s i) (wh r p q s ((i + 1) % 16)) = p * s - q * s ∧ gap (wh r p q s i) (wh r p q s ((i + 1) % 16)) = (p - s) * (p - s) + (s - q) * (s - q)) := by
    unfold crs gap
    match i, hi with
    | 0, _ => left; simp only [wh]; grind
    | 1, _ => right; simp only [wh]; grind
    | 2, _ => right; simp only [wh]; grind
    | 3, _ => left; simp only [wh]; grind
    | 4, _ => left; simp only [wh]; grind
    | 5, _ => right; simp only [wh]; grind
    | 6, _ => right; simp only [wh]; grind
    | 7, _ => left; simp only [wh]; grind
    | 8, _ => left; simp only [wh]; grind
    | 9, _ => right; simp only [wh]; grind
    | 10, _ => right; simp only [wh]; grind
    | 11, _ => left; simp only [wh]; grind
    | 12, _ => left; simp only [wh]; grind
    | 13, _ => right; simp only [wh]; grind
    | 14, _ => right; simp only [wh]; grind
    | 15, _ => left; simp only [wh]; grind
    | k + 16, h => exact absurd h (by omega)
  rcases a0 with ⟨h1, h2⟩ | ⟨h1, h2⟩ <;> rw [h1, h2]
  · exact ⟨T.c1 hn, T.d1 hn⟩
  · exact ⟨T.c2 hn, T.d2 hn⟩
end V
end Go.Proofs.Ythgmpjljlpacgaa
