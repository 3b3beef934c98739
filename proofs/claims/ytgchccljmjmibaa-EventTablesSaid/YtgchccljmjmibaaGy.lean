/- Chapter 11: EventTables: games and sums. -/
import Derived.Test.YtgchccljmjmibaaGv
import Derived.Test.YtgchccljmjmibaaGx
namespace Go.Proofs.Ytgchccljmjmibaa
open Go.RowKit
namespace V
namespace Ev
theorem coV_ok (l : LSc) (h : chkV l = 0) (k : Int) : ((coV l k).2 == 0) = (cntM l k).isSome := by
  unfold coV
  rw [h]
  simp only [bne_self_eq_false, cond_false]
  cases (cntM l k).isSome <;> rfl
theorem K_et (n : Int) (h2 : 2 ≤ n) (h16 : n ≤ 16) : W64 (Int.tdiv (W64 (n * W64 (n - 1))) 2) = ((n.toNat * (n.toNat - 1) / 2 : Nat) : Int) := by
  obtain ⟨N, rfl⟩ : ∃ N : Nat, n = (N : Int) := ⟨n.toNat, by omega⟩
  have : ∀ N : Nat, N ≤ 16 → 2 ≤ N → W64 (Int.tdiv (W64 ((N : Int) * W64 ((N : Int) - 1))) 2) = ((N * (N - 1) / 2 : Nat) : Int) := by decide +kernel
  rw [show ((N : Int)).toNat = N by omega]
  exact this N (by omega) (by omega)
theorem e0t_run (n : Int) (l : LSc) (t : Rows) (p : List Int) (h2 : 2 ≤ n) (h16 : n ≤ 16) (hc : chkV l = 0) :
    iter st_e0t ((W64 (Int.tdiv (W64 (n * W64 (n - 1))) 2)).toNat + 1) (hd_e0t n l t p 0 0 0 0) = some (ex_e0t n l t p 0 0 (((List.range (n.toNat * (n.toNat - 1) / 2)).countP fun (k : Nat) => (cntM l (k : Int)).isSome : Nat) : Int)) := by
  have hK := K_et n h2 h16
  have hb : n.toNat * (n.toNat - 1) / 2 ≤ 200 := by
    have : ∀ N : Nat, N ≤ 16 → N * (N - 1) / 2 ≤ 200 := by decide
    exact this _ (by omega)
  rw [hK, show (((n.toNat * (n.toNat - 1) / 2 : Nat) : Int)).toNat = n.toNat * (n.toNat - 1) / 2 by omega]
  generalize hM : n.toNat * (n.toNat - 1) / 2 = M at hK hb ⊢
  have key := iter_inv (st := st_e0t) (fun i (s : Nat) => hd_e0t n l t p 0 0 (s : Int) i) (fun i (s : Nat) => bif (cntM l (i : Int)).isSome then s + 1 else s) (fun (s : Nat) => ex_e0t n l t p 0 0 (s : Int)) (fun i s => s = (List.range i).countP (fun (k : Nat) => (cntM l (k : Int)).isSome) ∧ s ≤ i) M
    (fun i s hi hv => ⟨?_, ?_⟩) (fun s hv => ?_) M 0 0 (M + 1) (by omega) (Nat.le_refl _) ⟨by simp, Nat.le_refl _⟩
  · obtain ⟨s', hs, hr, _⟩ := key
    rw [← hs.1]
    exact hr
  · show (sm_e0t n l t p 0 0 (s : Int) (i : Int)).run = _
    unfold sm_e0t
    rw [hK, decide_eq_true (show (i : Int) < (M : Int) by omega), cond_true, coV_ok l hc, W64_id (n := (i : Int) + 1) (by omega) (by omega), W64_id (n := (s : Int) + 1) (by have := hv.2; omega) (by have := hv.2; omega)]
    cases (cntM l (i : Int)).isSome <;> rfl
  · rw [List.range_succ, List.countP_append, List.countP_singleton, ← hv.1]
    have := hv.2
    cases (cntM l (i : Int)).isSome
    · exact ⟨rfl, by show s ≤ i + 1; omega⟩
    · exact ⟨rfl, by show s + 1 ≤ i + 1; omega⟩
  · show (sm_e0t n l t p 0 0 (s : Int) (M : Int)).run = _
    unfold sm_e0t
    rw [hK, decide_eq_false (show ¬ (M : Int) < (M : Int) by omega)]
    rfl
/-! sums -/
/-- how many rows have so many wins -/
def cntW (t : Rows) (w : Nat) : Nat := t.countP fun r => rW r == (w : Int)
structure InvS (N : Nat) (t : Rows) (i : Nat) (s : S1t) : Prop where
  wi : s.wi = smR rW (t.take i)
  ne : s.ne = smR rN (t.take i)
  len : s.ws.length = N
  cnt : ∀ w, w < N → gI s.ws w = cntW (t.take i) w
  b1 : 0 ≤ s.wi ∧ s.wi ≤ 16 * i
  b2 : -(416 * (i : Int)) ≤ s.ne ∧ s.ne ≤ 416 * i
theorem smR_take (f : Row → Int) (t : Rows) (i : Nat) (h : i < t.length) : smR f (t.take (i + 1)) = smR f (t.take i) + f (gR t i) := by
  unfold smR
  rw [List.take_succ_eq_append_getElem h, List.map_append, List.sum_append]
  have : gR t i = t[i] := by
    show getA t (Int.toNat (i : Int)) (dflt cRow) = _
    rw [show Int.toNat (i : Int) = i by omega, getA_lt h]
  rw [this]
  simp
theorem cntW_take (t : Rows) (i w : Nat) (h : i < t.length) : cntW (t.take (i + 1)) w = cntW (t.take i) w + (if rW (gR t i) = w then 1 else 0) := by
  unfold cntW
  have : gR t i = t[i] := by
    show getA t (Int.toNat (i : Int)) (dflt cRow) = _
    rw [show Int.toNat (i : Int) = i by omega, getA_lt h]
  rw [List.take_succ_eq_append_getElem h, List.countP_append, List.countP_singleton, this]
  congr 1
  by_cases e : rW t[i] = (w : Int)
  · rw [if_pos e, if_pos (by simpa using e)]
  · rw [if_neg e, if_neg (by simpa using e)]
theorem gI_set (l : List Int) (i k : Nat) (x : Int) (h : i < l.length) : gI (setA l i x) (k : Int) = if k = i then x else gI l k := by
  show getA (setA l i x) (Int.toNat (k : Int)) (dflt cI) = if k = i then x else getA l (Int.toNat (k : Int)) (dflt cI)
  rw [show Int.toNat (k : Int) = k by omega, setA_eq]
  rcases Nat.lt_or_ge k l.length with hk | hk
  · rw [getA_lt (by simpa using hk), List.getElem_set]
    by_cases e : k = i
    · subst e; simp
    · rw [if_neg (fun h => e h.symm), if_neg e, getA_lt hk]
  · rw [if_neg (by omega)]
    have key : ∀ (l : List Int) (k : Nat), l.length ≤ k → getA l k (dflt cI) = dflt cI := by
      intro l
      induction l with
      | nil => intro k _; rfl
      | cons y l ih =>
        intro k hk
        cases k with
        | zero => simp at hk
        | succ k => exact ih k (by simpa using hk)
    rw [key _ _ (by simpa using hk), key _ _ hk]
def rP (r : Row) : Int := r.1
/-- a row as it should be -/
structure RowOk (N i : Nat) (r : Row) : Prop where
  pl : rP r = i
  w0 : 0 ≤ rW r
  wg : rW r ≤ rG r
  gn : rG r ≤ N - 1
  n1 : -(26 * rG r) ≤ rN r
  n2 : rN r ≤ 26 * rG r
theorem e1t_run (n : Int) (l : LSc) (t : Rows) (p : List Int) (ga : Int) (h2 : 2 ≤ n) (h16 : n ≤ 16) (hl : t.length = n.toNat) (hF : ∀ i : Nat, i < n.toNat → RowOk n.toNat i (gR t i)) :
    ∃ s : S1t, InvS n.toNat t n.toNat s ∧ iter st_e1t (n.toNat + 1) (hd_e1t n l t p ga ⟨0, 0, List.replicate (Int.toNat n) 0⟩ 0) = some (ex_e1t n l t p ga s) := by
  have key := iter_inv (st := st_e1t) (fun i s => hd_e1t n l t p ga s i) (fun i s => ad_e1t s (gR t i)) (fun s => ex_e1t n l t p ga s) (fun i s => InvS n.toNat t i s) n.toNat
    (fun i s hi hv => ⟨?_, ?_⟩) (fun s hv => ?_) n.toNat 0 ⟨0, 0, List.replicate (Int.toNat n) 0⟩ (n.toNat + 1) (by omega) (Nat.le_refl _) ?_
  · obtain ⟨s', hs, hr, _⟩ := key
    exact ⟨s', hs, hr⟩
  · have hr := hF i hi
    obtain ⟨a1, a2, a3, a4, a5, a6⟩ := hr
    show (sm_e1t n l t p ga s (i : Int)).run = _
    unfold sm_e1t
    rw [decide_eq_true (show (i : Int) < n by omega), cond_true]
    generalize gR t i = r at a1 a2 a3 a4 a5 a6 ⊢
    have hin : ∀ k : Tree cE1t, inN t.length (i : Int) k = k := fun k => by
      unfold inN
      rw [decide_eq_true (show 0 ≤ (i : Int) ∧ (i : Int) < (t.length : Int) by omega), cond_true]
    have hws : ∀ k : Tree cE1t, inO s.ws.length r.2.2.1 k = k := fun k => by
      have h1 : decide (0 ≤ rW r ∧ rW r < (s.ws.length : Int)) = true := decide_eq_true (by rw [hv.len]; omega)
      have h3 : decide (Int.toNat (rW r) < s.ws.length) = true := decide_eq_true (by rw [hv.len]; omega)
      show (bif decide (0 ≤ rW r ∧ rW r < (s.ws.length : Int)) then bif decide (Int.toNat (rW r) < s.ws.length) then k else .fail else .fail) = k
      rw [h1, h3]
      rfl
    unfold bd_e1t
    rw [hin, hin, hin, hin, hin, hin, hin, hin, hws, hws]
    rw [show (r.1 != (i : Int)) = false by show (rP r != (i : Int)) = false; rw [a1]; exact bne_self_eq_false _, show decide (r.2.2.1 < 0) = false from decide_eq_false (show ¬ rW r < 0 by omega), show decide (r.2.2.1 > r.2.1) = false from decide_eq_false (show ¬ rW r > rG r by omega), W64_id (n := n - 1) (by omega) (by omega), show decide (r.2.1 > n - 1) = false from decide_eq_false (show ¬ rG r > n - 1 by omega), W64_id (n := (i : Int) + 1) (by omega) (by omega)]
    rfl
  · obtain ⟨a1, a2, a3, a4, a5, a6⟩ := hF i hi
    have e1 := smR_take rW t i (by omega)
    have e2 := smR_take rN t i (by omega)
    obtain ⟨b1, b2, b3, b4, b5, b6⟩ := hv
    have q1 : (ad_e1t s (gR t i)).wi = s.wi + rW (gR t i) := W64_id (n := s.wi + rW (gR t i)) (by omega) (by omega)
    have q2 : (ad_e1t s (gR t i)).ne = s.ne + rN (gR t i) := W64_id (n := s.ne + rN (gR t i)) (by omega) (by omega)
    refine ⟨by rw [q1, e1, b1], by rw [q2, e2, b2], (setA_length _ _ _).trans b3, fun w hw => ?_, by rw [q1]; omega, by rw [q2]; omega⟩
    have hc := cntW_take t i w (by omega)
    have hcl : cntW (t.take i) w ≤ 16 := by
      have h1 : cntW (t.take i) w ≤ (t.take i).length := List.countP_le_length
      have h3 : (t.take i).length ≤ i := by simp; omega
      omega
    obtain ⟨k, hk⟩ : ∃ k : Nat, rW (gR t i) = (k : Int) := ⟨(rW (gR t i)).toNat, by omega⟩
    have e3 : (ad_e1t s (gR t i)).ws = setA s.ws k (W64 (gI s.ws k + 1)) := by
      show setA s.ws (Int.toNat (rW (gR t i))) (W64 (getA s.ws (Int.toNat (rW (gR t i))) (dflt cI) + 1)) = setA s.ws k (W64 (getA s.ws (Int.toNat (k : Int)) (dflt cI) + 1))
      rw [hk, show Int.toNat (k : Int) = k by omega]
    rw [e3, gI_set _ _ _ _ (by rw [b3]; omega), hc, hk]
    by_cases e : w = k
    · rw [if_pos e, if_pos (by omega), ← e, b4 w hw, W64_id (by omega) (by omega)]
      omega
    · rw [if_neg e, if_neg (by omega), b4 w hw]
      omega
  · show (sm_e1t n l t p ga s ((n.toNat : Nat) : Int)).run = _
    unfold sm_e1t
    rw [decide_eq_false (show ¬ ((n.toNat : Nat) : Int) < n by omega)]
    rfl
  · refine ⟨rfl, rfl, by simp, fun w hw => ?_, ⟨Int.le_refl _, by show (0 : Int) ≤ 16 * ((0 : Nat) : Int); omega⟩, by show -(416 * ((0 : Nat) : Int)) ≤ (0 : Int); omega, by show (0 : Int) ≤ 416 * ((0 : Nat) : Int); omega⟩
    show getA (List.replicate (Int.toNat n) (0 : Int)) (Int.toNat (w : Int)) (dflt cI) = _
    rw [show Int.toNat (w : Int) = w by omega, getA_lt (by simpa using hw)]
    simp [cntW]
end Ev
end V
end Go.Proofs.Ytgchccljmjmibaa
