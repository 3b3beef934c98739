/- The kick without wraps: its numbers fit; it is the same kick in a mirror. -/
import Derived.Test.YtmmhbianajpdgaaUg
namespace Go.Proofs.Ytmmhbianajpdgaa
open Go.RowKit
namespace V
def pD (nx ny ux uy : Int) : Int := ux * nx + uy * ny
def pE (nx ny ux uy : Int) : Int := uy * nx - ux * ny
def pQ (nx ny : Int) : Int := nx * nx + ny * ny
def pA (nx ny ux uy : Int) : Int := (pD nx ny ux uy).tdiv (pQ nx ny)
def pC (nx ny ux uy : Int) : Int := (pE nx ny ux uy).tdiv (pQ nx ny)
def pX (nx ny ux uy re dr be : Int) : Int := ((1000 + re) * nx * pA nx ny ux uy - dr * ny * pC nx ny ux uy).tdiv (1000 * be)
def pY (nx ny ux uy re dr be : Int) : Int := ((1000 + re) * ny * pA nx ny ux uy + dr * nx * pC nx ny ux uy).tdiv (1000 * be)
/-- what is known of a kick's numbers -/
structure KFit (nx ny ux uy re dr be : Int) : Prop where
  n1 : -8192 ≤ nx
  n2 : nx ≤ 8192
  n3 : -8192 ≤ ny
  n4 : ny ≤ 8192
  u1 : -16777216000 ≤ ux
  u2 : ux ≤ 16777216000
  u3 : -16777216000 ≤ uy
  u4 : uy ≤ 16777216000
  r1 : 0 ≤ re
  r2 : re ≤ 950
  d1 : 0 ≤ dr
  d2 : dr ≤ 300
  b1 : 1 ≤ be
  b2 : be ≤ 1000
  q : 3515625 ≤ pQ nx ny
theorem td_small (n d _B : Int) (hd : 3515625 ≤ d) (h1 : -274877906944000 ≤ n) (h2 : n ≤ 274877906944000) : -78187494 ≤ n.tdiv d ∧ n.tdiv d ≤ 78187494 := by
  have e : (n.tdiv d).natAbs = n.natAbs / d.natAbs := Int.natAbs_tdiv n d
  have h : n.natAbs / d.natAbs ≤ 274877906944000 / 3515625 := Nat.le_trans (Nat.div_le_div_right (c := d.natAbs) (show n.natAbs ≤ 274877906944000 by omega)) (Nat.div_le_div_left (show 3515625 ≤ d.natAbs by omega) (by omega))
  have h' : (274877906944000 : Nat) / 3515625 ≤ 78187494 := by decide
  omega
structure KNum (nx ny ux uy re dr be : Int) : Prop where
  q : kQ nx ny = pQ nx ny
  d : kD nx ny ux uy = pD nx ny ux uy
  a : kA nx ny ux uy = pA nx ny ux uy
  c : kC nx ny ux uy = pC nx ny ux uy
  x : kX nx ny ux uy re dr be = pX nx ny ux uy re dr be
  y : kY nx ny ux uy re dr be = pY nx ny ux uy re dr be
  x1 : -4611686018427387904 ≤ pX nx ny ux uy re dr be
  x2 : pX nx ny ux uy re dr be ≤ 4611686018427387904
  y1 : -4611686018427387904 ≤ pY nx ny ux uy re dr be
  y2 : pY nx ny ux uy re dr be ≤ 4611686018427387904
theorem knum {nx ny ux uy re dr be : Int} (h : KFit nx ny ux uy re dr be) : KNum nx ny ux uy re dr be := by
  obtain ⟨n1, n2, n3, n4, u1, u2, u3, u4, r1, r2, d1, d2, b1, b2, hq⟩ := h
  have ⟨a1, a2⟩ := mul_bd (A := 8192) (B := 8192) n1 n2 n1 n2
  have ⟨a3, a4⟩ := mul_bd (A := 8192) (B := 8192) n3 n4 n3 n4
  have eq : kQ nx ny = pQ nx ny := by
    unfold kQ pQ
    rw [show W64 (nx * nx) = _ from wrap_id (by omega) (by omega), show W64 (ny * ny) = _ from wrap_id (by omega) (by omega)]
    exact wrap_id (by omega) (by omega)
  have ⟨c1, c2⟩ := mul_bd (A := 16777216000) (B := 8192) u1 u2 n1 n2
  have ⟨c3, c4⟩ := mul_bd (A := 16777216000) (B := 8192) u3 u4 n3 n4
  have ⟨c5, c6⟩ := mul_bd (A := 16777216000) (B := 8192) u3 u4 n1 n2
  have ⟨c7, c8⟩ := mul_bd (A := 16777216000) (B := 8192) u1 u2 n3 n4
  have ed : kD nx ny ux uy = pD nx ny ux uy := by
    unfold kD pD
    rw [show W64 (ux * nx) = _ from wrap_id (by omega) (by omega), show W64 (uy * ny) = _ from wrap_id (by omega) (by omega)]
    exact wrap_id (by omega) (by omega)
  have ⟨A1, A2⟩ := td_small (pD nx ny ux uy) (pQ nx ny) 0 hq (by unfold pD; omega) (by unfold pD; omega)
  have ⟨C1, C2⟩ := td_small (pE nx ny ux uy) (pQ nx ny) 0 hq (by unfold pE; omega) (by unfold pE; omega)
  have ea : kA nx ny ux uy = pA nx ny ux uy := by
    unfold kA; rw [ed, eq]; exact wrap_id (by omega) (by omega)
  have ec : kC nx ny ux uy = pC nx ny ux uy := by
    unfold kC
    rw [show W64 (uy * nx) = _ from wrap_id (by omega) (by omega), show W64 (ux * ny) = _ from wrap_id (by omega) (by omega), show W64 (uy * nx - ux * ny) = pE nx ny ux uy from wrap_id (by omega) (by omega), eq]
    exact wrap_id (by omega) (by omega)
  have hA1 : -78187494 ≤ pA nx ny ux uy := A1
  have hA2 : pA nx ny ux uy ≤ 78187494 := A2
  have hC1 : -78187494 ≤ pC nx ny ux uy := C1
  have hC2 : pC nx ny ux uy ≤ 78187494 := C2
  have ⟨f1, f2⟩ := mul_bd (a := 1000 + re) (A := 1950) (B := 8192) (by omega) (by omega) n1 n2
  have ⟨f3, f4⟩ := mul_bd (a := 1000 + re) (A := 1950) (B := 8192) (by omega) (by omega) n3 n4
  have ⟨f5, f6⟩ := mul_bd (a := dr) (A := 300) (B := 8192) (by omega) (by omega) n1 n2
  have ⟨f7, f8⟩ := mul_bd (a := dr) (A := 300) (B := 8192) (by omega) (by omega) n3 n4
  have ⟨g1, g2⟩ := mul_bd (A := 15974400) (B := 78187494) (a := (1000 + re) * nx) (by omega) (by omega) hA1 hA2
  have ⟨g3, g4⟩ := mul_bd (A := 15974400) (B := 78187494) (a := (1000 + re) * ny) (by omega) (by omega) hA1 hA2
  have ⟨g5, g6⟩ := mul_bd (A := 2457600) (B := 78187494) (a := dr * nx) (by omega) (by omega) hC1 hC2
  have ⟨g7, g8⟩ := mul_bd (A := 2457600) (B := 78187494) (a := dr * ny) (by omega) (by omega) hC1 hC2
  have eb : W64 (1000 * be) = 1000 * be := wrap_id (by omega) (by omega)
  have er : W64 (1000 + re) = 1000 + re := wrap_id (by omega) (by omega)
  have ⟨x1, x2⟩ := td_bd ((1000 + re) * nx * pA nx ny ux uy - dr * ny * pC nx ny ux uy) (1000 * be) 4611686018427387904 (by omega) (by omega) (by omega)
  have ⟨y1, y2⟩ := td_bd ((1000 + re) * ny * pA nx ny ux uy + dr * nx * pC nx ny ux uy) (1000 * be) 4611686018427387904 (by omega) (by omega) (by omega)
  refine ⟨eq, ed, ea, ec, ?_, ?_, x1, x2, y1, y2⟩
  · unfold kX
    rw [ea, ec, eb, er, show W64 ((1000 + re) * nx) = _ from wrap_id (by omega) (by omega), show W64 (dr * ny) = _ from wrap_id (by omega) (by omega),
      show W64 ((1000 + re) * nx * pA nx ny ux uy) = _ from wrap_id (by omega) (by omega), show W64 (dr * ny * pC nx ny ux uy) = _ from wrap_id (by omega) (by omega),
      show W64 ((1000 + re) * nx * pA nx ny ux uy - dr * ny * pC nx ny ux uy) = _ from wrap_id (by omega) (by omega)]
    exact wrap_id (by omega) (by omega)
  · unfold kY
    rw [ea, ec, eb, er, show W64 ((1000 + re) * ny) = _ from wrap_id (by omega) (by omega), show W64 (dr * nx) = _ from wrap_id (by omega) (by omega),
      show W64 ((1000 + re) * ny * pA nx ny ux uy) = _ from wrap_id (by omega) (by omega), show W64 (dr * nx * pC nx ny ux uy) = _ from wrap_id (by omega) (by omega),
      show W64 ((1000 + re) * ny * pA nx ny ux uy + dr * nx * pC nx ny ux uy) = _ from wrap_id (by omega) (by omega)]
    exact wrap_id (by omega) (by omega)

/-! the mirror -/
theorem hvS_swap (be ux uy x y : Int) : hvS be uy ux y x = hvS be ux uy x y := by
  unfold hvS
  rw [Int.add_comm (W64 (y * y)), Int.add_comm (W64 (uy * y))]
theorem hv_swap (be ux uy : Int) : ∀ (n : Nat) (x y : Int), hv be uy ux n y x = ((hv be ux uy n x y).2, (hv be ux uy n x y).1)
  | 0, x, y => rfl
  | n + 1, x, y => by
    unfold hv
    rw [hvS_swap be ux uy x y, hv_swap be ux uy n]
    cases hvS be ux uy x y <;> rfl
theorem half_neg {x : Int} (h1 : -4611686018427387904 ≤ x) (h2 : x ≤ 4611686018427387904) : half (-x) = -half x := by
  unfold half
  rw [Int.neg_tdiv]
  have ⟨a, b⟩ := td_bd x 2 4611686018427387904 (by omega) h1 h2
  rw [show W64 (-x.tdiv 2) = _ from wrap_id (by omega) (by omega), show W64 (x.tdiv 2) = _ from wrap_id (by omega) (by omega)]
theorem half_bd {x : Int} (h1 : -4611686018427387904 ≤ x) (h2 : x ≤ 4611686018427387904) : -4611686018427387904 ≤ half x ∧ half x ≤ 4611686018427387904 := by
  have ⟨a, b⟩ := td_bd x 2 4611686018427387904 (by omega) h1 h2
  unfold half
  rw [show W64 (x.tdiv 2) = _ from wrap_id (by omega) (by omega)]
  exact ⟨a, b⟩
theorem hvS_neg (be ux uy x y : Int) : hvS be (-ux) uy (-x) y = hvS be ux uy x y := by
  unfold hvS
  rw [Int.neg_mul_neg, Int.neg_mul_neg]
theorem hv_neg (be ux uy : Int) : ∀ (n : Nat) (x y : Int), -4611686018427387904 ≤ x → x ≤ 4611686018427387904 → hv be (-ux) uy n (-x) y = (-(hv be ux uy n x y).1, (hv be ux uy n x y).2)
  | 0, x, y, _, _ => rfl
  | n + 1, x, y, h1, h2 => by
    have ⟨k1, k2⟩ := half_bd h1 h2
    unfold hv
    rw [hvS_neg be ux uy x y, half_neg h1 h2, hv_neg be ux uy n _ _ k1 k2]
    cases hvS be ux uy x y <;> rfl
theorem hv_bd (be ux uy : Int) : ∀ (n : Nat) (x y : Int), -4611686018427387904 ≤ x → x ≤ 4611686018427387904 → -4611686018427387904 ≤ (hv be ux uy n x y).1 ∧ (hv be ux uy n x y).1 ≤ 4611686018427387904
  | 0, x, y, h1, h2 => ⟨h1, h2⟩
  | n + 1, x, y, h1, h2 => by
    have ⟨k1, k2⟩ := half_bd h1 h2
    unfold hv
    cases hvS be ux uy x y with
    | true => exact hv_bd be ux uy n _ _ k1 k2
    | false => exact ⟨h1, h2⟩
theorem KFit.swap {nx ny ux uy re dr be : Int} (h : KFit nx ny ux uy re dr be) : KFit ny nx uy ux re dr be := by
  obtain ⟨n1, n2, n3, n4, u1, u2, u3, u4, r1, r2, d1, d2, b1, b2, hq⟩ := h
  exact ⟨n3, n4, n1, n2, u3, u4, u1, u2, r1, r2, d1, d2, b1, b2, by unfold pQ at *; omega⟩
theorem KFit.neg {nx ny ux uy re dr be : Int} (h : KFit nx ny ux uy re dr be) : KFit (-nx) ny (-ux) uy re dr be := by
  obtain ⟨n1, n2, n3, n4, u1, u2, u3, u4, r1, r2, d1, d2, b1, b2, hq⟩ := h
  exact ⟨by omega, by omega, n3, n4, by omega, by omega, u3, u4, r1, r2, d1, d2, b1, b2, by unfold pQ at *; rw [Int.neg_mul_neg]; exact hq⟩
theorem kK_swap {nx ny ux uy re dr be : Int} (h : KFit nx ny ux uy re dr be) : kK ny nx uy ux re dr be = ((kK nx ny ux uy re dr be).2, (kK nx ny ux uy re dr be).1) := by
  have k1 := knum h
  have k2 := knum h.swap
  have eD : pD ny nx uy ux = pD nx ny ux uy := by unfold pD; omega
  have eQ : pQ ny nx = pQ nx ny := by unfold pQ; omega
  have eE : pE ny nx uy ux = -pE nx ny ux uy := by unfold pE; omega
  have eA : pA ny nx uy ux = pA nx ny ux uy := by unfold pA; rw [eD, eQ]
  have eC : pC ny nx uy ux = -pC nx ny ux uy := by unfold pC; rw [eE, eQ, Int.neg_tdiv]
  have eX : pX ny nx uy ux re dr be = pY nx ny ux uy re dr be := by
    unfold pX pY; rw [eA, eC, Int.mul_neg, Int.sub_neg]
  have eY : pY ny nx uy ux re dr be = pX nx ny ux uy re dr be := by
    unfold pX pY; rw [eA, eC, Int.mul_neg]; rfl
  unfold kK
  rw [k2.x, k2.y, k1.x, k1.y, eX, eY, hv_swap]
theorem kK_neg {nx ny ux uy re dr be : Int} (h : KFit nx ny ux uy re dr be) : kK (-nx) ny (-ux) uy re dr be = (-(kK nx ny ux uy re dr be).1, (kK nx ny ux uy re dr be).2) := by
  have k1 := knum h
  have k2 := knum h.neg
  have eD : pD (-nx) ny (-ux) uy = pD nx ny ux uy := by unfold pD; rw [Int.neg_mul_neg]
  have eQ : pQ (-nx) ny = pQ nx ny := by unfold pQ; rw [Int.neg_mul_neg]
  have eE : pE (-nx) ny (-ux) uy = -pE nx ny ux uy := by unfold pE; rw [Int.mul_neg, Int.neg_mul]; omega
  have eA : pA (-nx) ny (-ux) uy = pA nx ny ux uy := by unfold pA; rw [eD, eQ]
  have eC : pC (-nx) ny (-ux) uy = -pC nx ny ux uy := by unfold pC; rw [eE, eQ, Int.neg_tdiv]
  have eX : pX (-nx) ny (-ux) uy re dr be = -pX nx ny ux uy re dr be := by
    unfold pX; rw [eA, eC, ← Int.neg_tdiv]
    congr 1
    rw [Int.mul_neg (1000 + re), Int.neg_mul, Int.mul_neg (dr * ny)]; omega
  have eY : pY (-nx) ny (-ux) uy re dr be = pY nx ny ux uy re dr be := by
    unfold pY; rw [eA, eC, Int.mul_neg dr, Int.neg_mul_neg]
  unfold kK
  rw [k2.x, k2.y, k1.x, k1.y, eX, eY, hv_neg be ux uy 64 _ _ k1.x1 k1.x2]
theorem kK_bd {nx ny ux uy re dr be : Int} (h : KFit nx ny ux uy re dr be) : -4611686018427387904 ≤ (kK nx ny ux uy re dr be).1 ∧ (kK nx ny ux uy re dr be).1 ≤ 4611686018427387904 := by
  have k1 := knum h
  unfold kK
  rw [k1.x, k1.y]
  exact hv_bd be ux uy 64 _ _ k1.x1 k1.x2
end V
end Go.Proofs.Ytmmhbianajpdgaa
