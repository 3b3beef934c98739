/- Chapter 11: tables: games, wins and nets. -/
import Derived.Test.YtgchccljmjmibaaGt
namespace Go.Proofs.Ytgchccljmjmibaa
open Go.RowKit
namespace V
namespace Ev
theorem gR_set (l : Rows) (i k : Nat) (x : Row) (h : i < l.length) : gR (setA l i x) (k : Int) = if k = i then x else gR l k := by
  show getA (setA l i x) (Int.toNat (k : Int)) (dflt cRow) = if k = i then x else getA l (Int.toNat (k : Int)) (dflt cRow)
  rw [show Int.toNat (k : Int) = k by omega, setA_eq]
  rcases Nat.lt_or_ge k l.length with hk | hk
  · rw [getA_lt (by simpa using hk), List.getElem_set]
    by_cases e : k = i
    · subst e; simp
    · rw [if_neg (fun h => e h.symm), if_neg e, getA_lt hk]
  · rw [if_neg (by omega)]
    have key : ∀ (l : Rows) (k : Nat), l.length ≤ k → getA l k (dflt cRow) = dflt cRow := by
      intro l
      induction l with
      | nil => intro k _; rfl
      | cons y l ih =>
        intro k hk
        cases k with
        | zero => simp at hk
        | succ k => exact ih k (by simpa using hk)
    rw [key _ _ (by simpa using hk), key _ _ hk]
theorem gR_set' (l : Rows) (i k : Nat) (x : Row) (h : i < l.length) : gR (setA l (Int.toNat (i : Int)) x) (k : Int) = if k = i then x else gR l k := by
  rw [show Int.toNat (i : Int) = i by omega]
  exact gR_set l i k x h
theorem setA_2 (l : Rows) (i : Nat) (x y : Row) : setA (setA l i x) i y = setA l i y := by
  rw [setA_eq, setA_eq, setA_eq, List.set_set]
/-- what a row becomes that won, and that lost -/
def upW (r : Row) (p : Int) : Row := (r.1, W64 (r.2.1 + 1), W64 (r.2.2.1 + 1), W64 (r.2.2.2.1 + p), ())
def upL (r : Row) (p : Int) : Row := (r.1, W64 (r.2.1 + 1), r.2.2.1, W64 (r.2.2.2.1 - p), ())
theorem addW_eq (l : Rows) (i : Nat) (p : Int) (h : i < l.length) : addW l i p = setA l i (upW (gR l i) p) := by
  unfold addW puG puW puN
  rw [show Int.toNat (i : Int) = i by omega, setA_2, setA_2, gR_set l i i _ h, if_pos rfl, setA_2, gR_set l i i _ h, if_pos rfl]
  rfl
theorem addL_eq (l : Rows) (i : Nat) (p : Int) (h : i < l.length) : addL l i p = setA l i (upL (gR l i) p) := by
  unfold addL puG puN
  rw [show Int.toNat (i : Int) = i by omega, setA_2, gR_set l i i _ h, if_pos rfl]
  rfl
theorem winL_eq (l : Rows) (i j : Nat) (p : Int) (hi : i < l.length) (hj : j < l.length) (hij : i ≠ j) : winL l i j p = setA (setA l i (upW (gR l i) p)) j (upL (gR l j) p) := by
  unfold winL
  rw [addW_eq l i p hi, addL_eq _ j p (by rw [setA_length]; exact hj), gR_set l i j _ hi, if_neg (fun h => hij h.symm)]
/-- a sum over rows -/
def smR (f : Row → Int) (l : Rows) : Int := (l.map f).sum
theorem smR_set (f : Row → Int) : ∀ (l : Rows) (i : Nat) (x : Row), i < l.length → smR f (setA l i x) = smR f l - f (gR l i) + f x
  | [], i, x, h => by simp at h
  | y :: l, 0, x, _ => by
    show (List.map f (x :: l)).sum = (List.map f (y :: l)).sum - f y + f x
    rw [List.map_cons, List.map_cons, List.sum_cons, List.sum_cons]
    omega
  | y :: l, i + 1, x, h => by
    have ih := smR_set f l i x (by simpa using h)
    have e1 : gR (y :: l) ((i + 1 : Nat) : Int) = gR l (i : Int) := by
      show getA (y :: l) (Int.toNat ((i + 1 : Nat) : Int)) (dflt cRow) = getA l (Int.toNat (i : Int)) (dflt cRow)
      rw [show Int.toNat ((i + 1 : Nat) : Int) = i + 1 by omega, show Int.toNat (i : Int) = i by omega]
      rfl
    rw [e1]
    show (List.map f (y :: setA l i x)).sum = (List.map f (y :: l)).sum - f (gR l i) + f x
    rw [List.map_cons, List.map_cons, List.sum_cons, List.sum_cons]
    unfold smR at ih
    omega
def rG (r : Row) : Int := r.2.1
def rW (r : Row) : Int := r.2.2.1
def rN (r : Row) : Int := r.2.2.2.1
/-! what holds behind some games -/
def prB (n : Int) (m : cMp) (q : Nat × Nat) : Bool := (m (numW n q.1 q.2)).isSome
def gmP (n : Int) (m : cMp) (P : List (Nat × Nat)) (i : Nat) : Nat := P.countP fun q => prB n m q && (q.1 == i || q.2 == i)
structure InvT (n : Int) (m : cMp) (N : Nat) (P : List (Nat × Nat)) (l : Rows) : Prop where
  len : l.length = N
  gam : ∀ i : Nat, i < N → rG (gR l i) = gmP n m P i
  win : ∀ i : Nat, i < N → 0 ≤ rW (gR l i) ∧ rW (gR l i) ≤ rG (gR l i)
  net : ∀ i : Nat, i < N → -(26 * rG (gR l i)) ≤ rN (gR l i) ∧ rN (gR l i) ≤ 26 * rG (gR l i)
  sw : smR rW l = P.countP (prB n m)
  sn : smR rN l = 0
theorem gmP_le (n : Int) (m : cMp) (P : List (Nat × Nat)) (i : Nat) : gmP n m P i ≤ P.length := List.countP_le_length
theorem up_facts (r : Row) (p : Int) (g : Nat) (hg : rG r = g) (hg2 : g ≤ 1000) (hw : 0 ≤ rW r ∧ rW r ≤ rG r) (hn : -(26 * rG r) ≤ rN r ∧ rN r ≤ 26 * rG r) (hp : 0 ≤ p) (hp2 : p ≤ 26) :
    (rG (upW r p) = rG r + 1 ∧ rW (upW r p) = rW r + 1 ∧ rN (upW r p) = rN r + p) ∧ (rG (upL r p) = rG r + 1 ∧ rW (upL r p) = rW r ∧ rN (upL r p) = rN r - p) :=
  ⟨⟨W64_id (n := rG r + 1) (by omega) (by omega), W64_id (n := rW r + 1) (by omega) (by omega), W64_id (n := rN r + p) (by omega) (by omega)⟩, W64_id (n := rG r + 1) (by omega) (by omega), rfl, W64_id (n := rN r - p) (by omega) (by omega)⟩
theorem inv_win {n : Int} {m : cMp} {N : Nat} {P : List (Nat × Nat)} {l : Rows} (h : InvT n m N P l) (q : Nat × Nat) (i j : Nat) (hq : (q = (i, j)) ∨ q = (j, i)) (hi : i < N) (hj : j < N) (hij : i ≠ j) (p : Int) (hp : 0 ≤ p) (hp2 : p ≤ 26) (hP : P.length ≤ 1000) (hpr : prB n m q = true) : InvT n m N (P ++ [q]) (winL l i j p) := by
  have hl := h.len
  rw [winL_eq l i j p (by omega) (by omega) hij]
  have hgi := h.gam i hi
  have hgj := h.gam j hj
  have hwi := h.win i hi
  have hwj := h.win j hj
  have hni := h.net i hi
  have hnj := h.net j hj
  have bi := gmP_le n m P i
  have bj := gmP_le n m P j
  have hcnt : ∀ k, gmP n m (P ++ [q]) k = gmP n m P k + (if k = i ∨ k = j then 1 else 0) := by
    intro k
    unfold gmP
    rw [List.countP_append, List.countP_singleton, hpr, Bool.true_and]
    rcases hq with rfl | rfl
    · by_cases e : k = i ∨ k = j
      · rw [if_pos e, if_pos (by rcases e with rfl | rfl <;> simp)]
      · rw [if_neg e, if_neg (by simp; omega)]
    · by_cases e : k = i ∨ k = j
      · rw [if_pos e, if_pos (by rcases e with rfl | rfl <;> simp)]
      · rw [if_neg e, if_neg (by simp; omega)]
  have hrow : ∀ k : Nat, gR (setA (setA l i (upW (gR l i) p)) j (upL (gR l j) p)) k = if k = j then upL (gR l j) p else if k = i then upW (gR l i) p else gR l k := by
    intro k
    rw [gR_set _ j k _ (by rw [setA_length]; omega), gR_set l i k _ (by omega)]
  obtain ⟨⟨w1, w2, w3⟩, _⟩ := up_facts (gR l i) p _ hgi (by omega) hwi hni hp hp2
  obtain ⟨_, v1, v2, v3⟩ := up_facts (gR l j) p _ hgj (by omega) hwj hnj hp hp2
  refine ⟨by rw [setA_length, setA_length]; exact hl, fun k hk => ?_, fun k hk => ?_, fun k hk => ?_, ?_, ?_⟩
  · rw [hrow, hcnt]
    have := h.gam k hk
    by_cases e1 : k = j
    · rw [if_pos e1, if_pos (.inr e1), v1]
      subst e1
      omega
    · rw [if_neg e1]
      by_cases e2 : k = i
      · rw [if_pos e2, if_pos (.inl e2), w1]
        subst e2
        omega
      · rw [if_neg e2, if_neg (by omega)]
        omega
  · rw [hrow]
    by_cases e1 : k = j
    · rw [if_pos e1]
      omega
    · rw [if_neg e1]
      by_cases e2 : k = i
      · rw [if_pos e2]
        omega
      · rw [if_neg e2]
        exact h.win k hk
  · rw [hrow]
    by_cases e1 : k = j
    · rw [if_pos e1]
      omega
    · rw [if_neg e1]
      by_cases e2 : k = i
      · rw [if_pos e2]
        omega
      · rw [if_neg e2]
        exact h.net k hk
  · rw [smR_set _ _ j _ (by rw [setA_length]; omega), smR_set _ l i _ (by omega), gR_set l i j _ (by omega), if_neg (fun e => hij e.symm), h.sw, List.countP_append, List.countP_singleton, hpr, w2, v2]
    simp only [if_true]
    omega
  · rw [smR_set _ _ j _ (by rw [setA_length]; omega), smR_set _ l i _ (by omega), gR_set l i j _ (by omega), if_neg (fun e => hij e.symm), h.sn, w3, v3]
    omega
/-- a game without a sheet -/
theorem inv_no {n : Int} {m : cMp} {N : Nat} {P : List (Nat × Nat)} {l : Rows} (h : InvT n m N P l) (q : Nat × Nat) (hpr : prB n m q = false) : InvT n m N (P ++ [q]) l := by
  have hcnt : ∀ k, gmP n m (P ++ [q]) k = gmP n m P k := by
    intro k
    unfold gmP
    rw [List.countP_append, List.countP_singleton, hpr]
    simp
  exact ⟨h.len, fun k hk => by rw [hcnt]; exact h.gam k hk, h.win, h.net, by rw [List.countP_append, List.countP_singleton, hpr, h.sw]; simp, h.sn⟩
/-- sheets that are valid -/
def okM (m : cMp) : Prop := ∀ k s, m k = some s → 1 ≤ (s.2.2.2.1 : Int) ∧ (s.2.2.2.1 : Int) ≤ 26
theorem inv_tbS {n : Int} {m : cMp} (hm : okM m) {N : Nat} {P : List (Nat × Nat)} {l : Rows} (h : InvT n m N P l) (a b : Nat) (ha : a < N) (hb : b < N) (hab : a ≠ b) (hP : P.length ≤ 1000) : InvT n m N (P ++ [(a, b)]) (tbS n m a l b) := by
  unfold tbS
  cases hs : m (numW n a b) with
  | none => exact inv_no h _ (by unfold prB; rw [hs]; rfl)
  | some s =>
    have hpr : prB n m (a, b) = true := by unfold prB; rw [hs]; rfl
    obtain ⟨p1, p2⟩ := hm _ _ hs
    have p0 : (0 : Int) ≤ s.2.2.2.1 := Int.le_trans (by decide) p1
    simp only
    cases (s.2.2.1 == 0) == decide ((a : Int) < (b : Int)) with
    | true => exact inv_win h (a, b) a b (.inl rfl) ha hb hab _ p0 p2 hP hpr
    | false => exact inv_win h (a, b) b a (.inr rfl) hb ha (fun e => hab e.symm) _ p0 p2 hP hpr
theorem inv_plA {n : Int} {m : cMp} {N : Nat} {P : List (Nat × Nat)} {l : Rows} (h : InvT n m N P l) (a : Nat) (ha : a < N) : InvT n m N P (plA l a) := by
  have hl := h.len
  have hrow : ∀ k : Nat, gR (plA l a) k = if k = a then ((a : Int), (gR l a).2.1, (gR l a).2.2.1, (gR l a).2.2.2.1, ()) else gR l k := by
    intro k
    unfold plA
    rw [gR_set' l a k _ (by omega)]
  have e : ∀ f : Row → Int, (∀ r : Row, ∀ x : Int, f (x, r.2.1, r.2.2.1, r.2.2.2.1, ()) = f r) → (∀ k : Nat, f (gR (plA l a) k) = f (gR l k)) ∧ smR f (plA l a) = smR f l := by
    intro f hf
    refine ⟨fun k => ?_, ?_⟩
    · rw [hrow]
      by_cases e : k = a
      · rw [if_pos e, hf, e]
      · rw [if_neg e]
    · unfold plA
      have h9 := hf (gR l a) (a : Int)
      rw [show Int.toNat (a : Int) = a by omega, smR_set f l a _ (by omega)]
      omega
  have eG := e rG fun _ _ => rfl
  have eW := e rW fun _ _ => rfl
  have eN := e rN fun _ _ => rfl
  exact ⟨by rw [plA_len]; exact hl, fun k hk => by rw [eG.1]; exact h.gam k hk, fun k hk => by rw [eG.1, eW.1]; exact h.win k hk, fun k hk => by rw [eG.1, eN.1]; exact h.net k hk, by rw [eW.2]; exact h.sw, by rw [eN.2]; exact h.sn⟩
end Ev
end V
end Go.Proofs.Ytgchccljmjmibaa
