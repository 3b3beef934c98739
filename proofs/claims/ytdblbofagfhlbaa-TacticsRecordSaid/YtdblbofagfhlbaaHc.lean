/- The law TacticsRecord: for all arguments it returns true. -/
import Derived.Test.YtdblbofagfhlbaaHb
namespace Go.Proofs.Ytdblbofagfhlbaa
open Go.RowKit
namespace V
theorem is_TacticsRecord : FnIs Try.prog (3, Try.f3) := ⟨Try.func3, by kernel_rfl, by kernel_rfl⟩
def plHc : List (Nat × PureT) := [(12, s_Ch),(13, s_fine)]
theorem puHc : PuOk Try.prog plHc := puOk_cons is_tChance.plain q_tC (puOk_cons is_fine.plain q_fine puOk_nil)
noncomputable def X_tacticsRecord : Ctx := ctx Try.prog plHc [(3, Try.f3)]
theorem X_tacticsRecord_ok : CtxOk X_tacticsRecord := ctx_ok mixed puHc (fns_cons is_TacticsRecord fns_nil)
abbrev cs_tacticsRecord : List TC := [.i .u16, .i .u16, .i .u16, .i .u16]
def T_rc (e f : Int) (a b : Ch) (h n : Int) : Tree Unit :=
  bif e != 0 then .fail else bif f != 0 then .fail else
  bif decide (a.1 < 0) then .fail else bif decide (a.2 > 1000000) then .fail else bif decide (a.1 > a.2) then .fail else
  bif decide (W64 (a.1 * n) > W64 (h * 1000000)) then .fail else bif decide (W64 (a.2 * n) < W64 (h * 1000000)) then .fail else
  bif decide (W64 (b.2 - b.1) ≤ W64 (W64 (a.2 - a.1) + 2)) then .leaf () else .fail
def T_rec (h n d h' n' : Int) : Tree Unit := T_rc (recE h n d) (recE h' n' d) (cF h n d) (cF h' n' d) h n
theorem T_rec_ok {h n d m : Int} (h0 : 0 ≤ h) (hn : h ≤ n) (hn2 : n ≤ 29999) (hd : 1 ≤ d) (hd2 : d ≤ 100) (hm : 1 ≤ m) (hm2 : m ≤ 30) : (T_rec h n d (m * h) (m * n)).sat (fun _ => True) := by
  have hmn : m * n ≤ 30 * 29999 := mul_le2 (by omega) hm2 (by omega) hn2
  have hmh : m * h ≤ m * n := Int.mul_le_mul_of_nonneg_left hn (by omega)
  have hmh0 : 0 ≤ m * h := Int.mul_nonneg (by omega) h0
  have o1 : recOk h n d = true := decide_eq_true (by omega)
  have o2 : recOk (m * h) (m * n) d = true := decide_eq_true (by omega)
  have hl := rec_law h0 hn hd hm
  have hl2 := rec_law (h := m * h) (n := m * n) (d := d) (m := 1) hmh0 hmh hd (by omega)
  have q1 : recE h n d = 0 := by unfold recE; rw [o1]; rfl
  have q2 : recE (m * h) (m * n) d = 0 := by unfold recE; rw [o2]; rfl
  have q3 : cF h n d = recF h n d := by unfold cF; rw [o1]; rfl
  have q4 : cF (m * h) (m * n) d = recF (m * h) (m * n) d := by unfold cF; rw [o2]; rfl
  unfold T_rec
  rw [q1, q2, q3, q4]
  generalize recF h n d = a at hl
  generalize recF (m * h) (m * n) d = b at hl hl2
  unfold T_rc
  have e1 : a.1 * n ≤ 1000000 * 29999 := mul_le2 (by omega) (by omega) (by omega) (by omega)
  have e2 : a.2 * n ≤ 1000000 * 29999 := mul_le2 (by omega) (by omega) (by omega) (by omega)
  have e3 : 0 ≤ a.1 * n := Int.mul_nonneg (by omega) (by omega)
  have e4 : 0 ≤ a.2 * n := Int.mul_nonneg (by omega) (by omega)
  rw [W64_id (n := a.1 * n) (by omega) (by omega), W64_id (n := a.2 * n) (by omega) (by omega), W64_id (n := h * 1000000) (by omega) (by omega), W64_id (n := b.2 - b.1) (by omega) (by omega), W64_id (n := a.2 - a.1) (by omega) (by omega), W64_id (n := a.2 - a.1 + 2) (by omega) (by omega),
    decide_eq_false (show ¬ a.1 < 0 by omega), decide_eq_false (show ¬ a.2 > 1000000 by omega), decide_eq_false (show ¬ a.1 > a.2 by omega), decide_eq_false (show ¬ a.1 * n > h * 1000000 by omega), decide_eq_false (show ¬ a.2 * n < h * 1000000 by omega), decide_eq_true (show b.2 - b.1 ≤ a.2 - a.1 + 2 by omega)]
  trivial
def nR (t : Int) : Int := Int.tmod (W64 t) 30000
def hR (h t : Int) : Int := Int.tmod (W64 h) (W64 (nR t + 1))
def dR (d : Int) : Int := W64 (1 + Int.tmod (W64 d) 100)
def mR (k : Int) : Int := W64 (1 + Int.tmod (W64 k) 30)
def TY_rec' (h t d k : Int) : Tree Unit := bif W64 (nR t + 1) != 0 then T_rec (hR h t) (nR t) (dR d) (W64 (mR k * hR h t)) (W64 (mR k * nR t)) else .fail
theorem tmod_id {n m : Int} (h : 0 ≤ n) (h2 : n ≤ 65535) (hm : 0 < m) : Int.tmod (W64 n) m = n % m ∧ 0 ≤ n % m ∧ n % m < m := by
  rw [W64_id (n := n) (by omega) (by omega), Int.tmod_eq_emod_of_nonneg h]
  exact ⟨rfl, Int.emod_nonneg _ (by omega), Int.emod_lt_of_pos _ hm⟩
theorem TY_rec'_ok {h t d k : Int} (h1 : 0 ≤ h ∧ h ≤ 65535) (h2 : 0 ≤ t ∧ t ≤ 65535) (h3 : 0 ≤ d ∧ d ≤ 65535) (h4 : 0 ≤ k ∧ k ≤ 65535) : (TY_rec' h t d k).sat (fun _ => True) := by
  obtain ⟨a1, a2, a3⟩ := tmod_id h2.1 h2.2 (m := 30000) (by omega)
  obtain ⟨b1, b2, b3⟩ := tmod_id h3.1 h3.2 (m := 100) (by omega)
  obtain ⟨c1, c2, c3⟩ := tmod_id h4.1 h4.2 (m := 30) (by omega)
  unfold TY_rec' hR dR mR nR
  rw [a1, b1, c1]
  generalize t % 30000 = n at *
  generalize d % 100 = e at *
  generalize k % 30 = m at *
  rw [W64_id (n := n + 1) (by omega) (by omega), W64_id (n := 1 + e) (by omega) (by omega), W64_id (n := 1 + m) (by omega) (by omega)]
  obtain ⟨d1, d2, d3⟩ := tmod_id h1.1 h1.2 (m := n + 1) (by omega)
  rw [d1]
  generalize h % (n + 1) = g at *
  have e1 : (1 + m) * n ≤ 30 * 29999 := mul_le2 (by omega) (by omega) (by omega) (by omega)
  have e2 : (1 + m) * g ≤ (1 + m) * n := Int.mul_le_mul_of_nonneg_left (by omega) (by omega)
  have e3 : 0 ≤ (1 + m) * g := Int.mul_nonneg (by omega) (by omega)
  rw [W64_id (n := (1 + m) * n) (by omega) (by omega), W64_id (n := (1 + m) * g) (by omega) (by omega), show (n + 1 != 0) = true by simp; omega]
  exact T_rec_ok (by omega) (by omega) (by omega) (by omega) (by omega) (by omega) (by omega)
def TY_rec (x : TCTs cs_tacticsRecord) : Tree Unit := TY_rec' x.1 x.2.1 x.2.2.1 x.2.2.2.1
theorem TY_rec_eq (x : TCTs cs_tacticsRecord) : evFn X_tacticsRecord 8 (.fn 3) (encAs cs_tacticsRecord x) noHeap 0 lawK = TY_rec x := by kernel_rfl
theorem tacticsRecord_sat : LawSat X_tacticsRecord 3 cs_tacticsRecord 8 := lawSat 8 TY_rec TY_rec_eq (fun x hw => by
  simp only [WFDs, WFD, inK, minK, maxK] at hw
  exact TY_rec'_ok hw.1 hw.2.1 hw.2.2.1 hw.2.2.2.1)
end V
end Go.Proofs.Ytdblbofagfhlbaa
