/- Chapter 11: a table, row by row. -/
import Derived.Test.YtgchccljmjmibaaGw
namespace Go.Proofs.Ytgchccljmjmibaa
open Go.RowKit
namespace V
namespace Ev
/-- a game of a player, put into the row -/
def rwS (n : Int) (m : cMp) (a : Nat) (r : Row) (b : Nat) : Row := match m (numW n a b) with
  | none => r
  | some s => bif (s.2.2.1 == 0) == decide ((a : Int) < (b : Int)) then upW r s.2.2.2.1 else upL r s.2.2.2.1
def rwR (n : Int) (m : cMp) (a : Nat) (r : Row) (b : Nat) : Row := bif b == a then r else rwS n m a r b
def rw0 (a : Nat) : Row := ((a : Int), 0, 0, 0, ())
/-- a row, out of the games against the first players -/
def rwF (n : Int) (m : cMp) (k a : Nat) : Row := (List.range k).foldl (rwR n m a) (rw0 a)
theorem rwF_succ (n : Int) (m : cMp) (k a : Nat) : rwF n m (k + 1) a = rwR n m a (rwF n m k a) k := by unfold rwF; rw [List.range_succ, List.foldl_append]; rfl
theorem numW_symm (n a b : Int) : numW n a b = numW n b a := by unfold numW; rw [Int.min_comm a b, Int.max_comm a b]
theorem tbS_get (n : Int) (m : cMp) (l : Rows) (t j i : Nat) (hj : j < t) (ht : t < l.length) : gR (tbS n m t l j) (i : Int) = if i = t then rwS n m t (gR l t) j else if i = j then rwS n m j (gR l j) t else gR l i := by
  unfold tbS rwS
  rw [numW_symm n (j : Int) (t : Int)]
  cases m (numW n t j) with
  | none =>
    simp only
    split
    · rename_i h; rw [h]
    · split
      · rename_i h; rw [h]
      · rfl
  | some s =>
    simp only
    rw [decide_eq_false (show ¬ (t : Int) < (j : Int) by omega), decide_eq_true (show (j : Int) < (t : Int) by omega)]
    cases hs : (s.2.2.1 == 0) with
    | false =>
      rw [show (false == false) = true from rfl, show (false == true) = false from rfl]
      simp only [cond_true, cond_false]
      rw [winL_eq l t j _ ht (by omega) (by omega), gR_set _ j i _ (by rw [setA_length]; omega), gR_set l t i _ ht]
      by_cases h1 : i = j
      · rw [if_pos h1, if_neg (by omega), if_pos h1]
      · rw [if_neg h1]
        by_cases h2 : i = t
        · rw [if_pos h2, if_pos h2]
        · rw [if_neg h2, if_neg h2, if_neg h1]
    | true =>
      rw [show (true == false) = false from rfl, show (true == true) = true from rfl]
      simp only [cond_true, cond_false]
      rw [winL_eq l j t _ (by omega) ht (by omega), gR_set _ t i _ (by rw [setA_length]; omega), gR_set l j i _ (by omega)]
structure InvJ (n : Int) (m : cMp) (N t j : Nat) (l : Rows) : Prop where
  len : l.length = N
  get : ∀ i, i < N → gR l (i : Int) = if i < t then rwF n m (if i < j then t + 1 else t) i else if i = t then rwF n m j t else zR
theorem invJ_step {n : Int} {m : cMp} {N t j : Nat} {l : Rows} (h : InvJ n m N t j l) (hj : j < t) (ht : t < N) : InvJ n m N t (j + 1) (tbS n m t l j) := by
  refine ⟨(tbS_len _ _ _ _ _).trans h.len, fun i hi => ?_⟩
  rw [tbS_get n m l t j i hj (by rw [h.len]; exact ht)]
  by_cases h1 : i = t
  · subst h1
    rw [if_pos rfl, if_neg (by omega), if_pos rfl, h.get i hi, if_neg (by omega), if_pos rfl, rwF_succ]
    unfold rwR
    rw [show (j == i) = false by rw [beq_eq_false_iff_ne]; omega]
    rfl
  · rw [if_neg h1]
    by_cases h2 : i = j
    · subst h2
      rw [if_pos rfl, if_pos hj, if_pos (by omega), h.get i hi, if_pos hj, if_neg (by omega), rwF_succ]
      unfold rwR
      rw [show (t == i) = false by rw [beq_eq_false_iff_ne]; omega]
      rfl
    · rw [if_neg h2, h.get i hi]
      by_cases h3 : i < t
      · rw [if_pos h3, if_pos h3]
        by_cases h4 : i < j
        · rw [if_pos h4, if_pos (by omega)]
        · rw [if_neg h4, if_neg (by omega)]
      · rw [if_neg h3, if_neg h3, if_neg h1, if_neg h1]
theorem invJ_row {n : Int} {m : cMp} {N t : Nat} {l : Rows} (h : InvJ n m N t 0 l) (ht : t < N) : ∀ k, k ≤ t → InvJ n m N t k ((List.range k).foldl (fun l (b : Nat) => tbS n m t l b) l)
  | 0, _ => h
  | k + 1, hk => by
    rw [List.range_succ, List.foldl_append]
    exact invJ_step (invJ_row h ht k (by omega)) (by omega) ht
/-- the rows when some players have been looked at -/
structure InvK (n : Int) (m : cMp) (N t : Nat) (l : Rows) : Prop where
  len : l.length = N
  get : ∀ i, i < N → gR l (i : Int) = if i < t then rwF n m t i else zR
theorem invK_step {n : Int} {m : cMp} {N t : Nat} {l : Rows} (h : InvK n m N t l) (ht : t < N) : InvK n m N (t + 1) (rowS n m l t) := by
  have h0 : InvJ n m N t 0 (plA l t) := by
    refine ⟨(plA_len _ _).trans h.len, fun i hi => ?_⟩
    unfold plA
    rw [show Int.toNat (t : Int) = t by omega, gR_set l t i _ (by rw [h.len]; exact ht)]
    by_cases h1 : i = t
    · subst h1
      rw [if_pos rfl, if_neg (by omega), if_pos rfl, h.get i hi, if_neg (by omega)]
      rfl
    · rw [if_neg h1, h.get i hi]
      by_cases h2 : i < t
      · rw [if_pos h2, if_pos h2, if_neg (by omega)]
      · rw [if_neg h2, if_neg h2, if_neg h1]
  have h1 := invJ_row h0 ht t (Nat.le_refl _)
  refine ⟨h1.len, fun i hi => ?_⟩
  have := h1.get i hi
  unfold rowS rowF
  rw [this]
  by_cases h2 : i < t
  · rw [if_pos h2, if_pos h2, if_pos (by omega)]
  · rw [if_neg h2]
    by_cases h3 : i = t
    · subst h3
      rw [if_pos rfl, if_pos (by omega), rwF_succ]
      unfold rwR
      rw [show (i == i) = true by simp]
      rfl
    · rw [if_neg h3, if_neg (by omega)]
theorem invK_all (n : Int) (m : cMp) (N : Nat) (l : Rows) (h : InvK n m N 0 l) : ∀ t, t ≤ N → InvK n m N t ((List.range t).foldl (rowS n m) l)
  | 0, _ => h
  | t + 1, ht => by
    rw [List.range_succ, List.foldl_append]
    exact invK_step (invK_all n m N l h t (by omega)) (by omega)
theorem tbV_get (n : Int) (m : cMp) (i : Nat) (hi : i < n.toNat) : gR (tbV n m) (i : Int) = rwF n m n.toNat i := by
  have h0 : InvK n m n.toNat 0 (List.replicate n.toNat zR) := by
    refine ⟨by simp, fun k hk => ?_⟩
    rw [if_neg (by omega)]
    unfold gR
    rw [show Int.toNat (k : Int) = k by omega, getA_lt (by simpa using hk)]
    simp
  have := (invK_all n m n.toNat _ h0 n.toNat (Nat.le_refl _)).get i hi
  rw [if_pos hi] at this
  exact this
/-- the table is its rows -/
theorem tbV_rows (n : Int) (m : cMp) : tbV n m = (List.range n.toNat).map (rwF n m n.toNat) := by
  refine List.ext_getElem (by rw [tbV_len]; simp) fun i h1 h2 => ?_
  rw [tbV_len] at h1
  have := tbV_get n m i h1
  unfold gR at this
  rw [show Int.toNat (i : Int) = i by omega, getA_lt (by rw [tbV_len]; exact h1)] at this
  rw [this]
  simp
end Ev
end V
end Go.Proofs.Ytgchccljmjmibaa
