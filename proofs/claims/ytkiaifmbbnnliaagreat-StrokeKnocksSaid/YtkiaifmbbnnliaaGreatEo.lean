import Derived.Test.YtkiaifmbbnnliaaGreatDm
namespace Go.Proofs.YtkiaifmbbnnliaaGreat
open Go.RowKit
namespace V
namespace St
theorem getA_set4 {α : Type} {d : α} {l : List α} {i j : Nat} {x : α} (hi : i < l.length) : getA (setA l i x) j d = if j = i then x else getA l j d := by
  rw [setA_eq, getA_eq, getA_eq, List.getD_eq_getElem?_getD, List.getD_eq_getElem?_getD, List.getElem?_set]
  by_cases h : i = j
  · subst h
    rw [if_pos rfl, if_pos hi, if_pos rfl]; rfl
  · rw [if_neg h, if_neg (fun e => h e.symm)]
theorem getM_eq {l : Mots} {i j : Nat} {x : TCT cMot} (hi : i < l.length) (h : j = i) : getM (setA l i x) j = x := by unfold getM; rw [getA_set4 hi, if_pos h]
theorem getM_ne {l : Mots} {i j : Nat} {x : TCT cMot} (hi : i < l.length) (h : ¬ j = i) : getM (setA l i x) j = getM l j := by unfold getM; rw [getA_set4 hi, if_neg h]
def getO (os : List Bool) (i : Nat) : Bool := getA os i (dflt .b)
theorem getO_eq {l : List Bool} {i j : Nat} {x : Bool} (hi : i < l.length) (h : j = i) : getO (setA l i x) j = x := by unfold getO; rw [getA_set4 hi, if_pos h]
theorem getO_ne {l : List Bool} {i j : Nat} {x : Bool} (hi : i < l.length) (h : ¬ j = i) : getO (setA l i x) j = getO l j := by unfold getO; rw [getA_set4 hi, if_neg h]
def arS (m m' : TCT cMot) : Prop := m'.1 = m.1 ∧ m'.2.2.1 = m.2.2.1
theorem motE_ar {b : TCT cBall} {m m' : TCT cMot} (h : motE b m = true) (ha : arS m m') (hs : smB m' = true) : motE b m' = true := by
  unfold motE motB at h ⊢
  simp only [Bool.and_eq_true] at h ⊢
  rw [ha.1, ha.2]
  exact ⟨h.1, h.2.1, hs, h.2.2.2⟩
structure RQ (bl : List (TCT cBall)) (n : Nat) (ms : Mots) (os : List Bool) : Prop where
  m : ms.length = n
  o : os.length = n
  ok : ∀ j, j < n → motE (getB bl j) (getM ms j) = true
  z : ∀ j, j < n → getO os j = true → restB (getM ms j) = true
def OL (l : TCT cLawn) (n : Nat) (ms : Mots) (os : List Bool) : Prop := ∀ j, j < n → getO os j = false → onB l (getM ms j).1 = true
theorem roll_out {ms : Mots} {os : List Bool} {i : Nat} (h : (!rollB ms os i) = false) : getO os i = false := by
  unfold rollB at h
  unfold getO
  cases ho : getA os i (dflt .b) with
  | false => rfl
  | true => rw [ho] at h; cases h
theorem RQ.set {bl : List (TCT cBall)} {n i : Nat} {ms : Mots} {os : List Bool} {x : TCT cMot} (q : RQ bl n ms os) (hi : i < n) (hx : motE (getB bl i) x = true) (ho : getO os i = false) : RQ bl n (setA ms i x) os := by
  have hm := q.m
  refine ⟨(setA_len _ _ _).trans hm, q.o, fun j hj => ?_, fun j hj h => ?_⟩
  · by_cases e : j = i
    · rw [getM_eq (by omega) e, e]; exact hx
    · rw [getM_ne (by omega) e]; exact q.ok j hj
  · by_cases e : j = i
    · rw [e, ho] at h; cases h
    · rw [getM_ne (by omega) e]; exact q.z j hj h
theorem OL.set {l : TCT cLawn} {n i : Nat} {ms : Mots} {os : List Bool} {x : TCT cMot} (q : OL l n ms os) (hm : ms.length = n) (hi : i < n) (hx : x.1 = (getM ms i).1) : OL l n (setA ms i x) os := fun j hj h => by
  by_cases e : j = i
  · rw [getM_eq (by omega) e, hx, ← e]; exact q j hj h
  · rw [getM_ne (by omega) e]; exact q j hj h
theorem tdiv_le {p n A : Int} (hn : 0 < n) (h1 : -(A * n) ≤ p) (h2 : p ≤ A * n) : -A ≤ Int.tdiv p n ∧ Int.tdiv p n ≤ A := by
  have key : ∀ q : Int, 0 ≤ q → q ≤ A * n → 0 ≤ q / n ∧ q / n ≤ A := fun q h0 h => by
    refine ⟨Int.ediv_nonneg h0 (by omega), ?_⟩
    have : q / n < A + 1 := Int.ediv_lt_of_lt_mul hn (by rw [Int.add_mul, Int.one_mul]; omega)
    omega
  by_cases hp : 0 ≤ p
  · rw [Int.tdiv_eq_ediv_of_nonneg hp]
    have := key p hp h2
    omega
  · have e : p = -(-p) := by omega
    rw [e, Int.neg_tdiv, Int.tdiv_eq_ediv_of_nonneg (show 0 ≤ -p by omega)]
    have := key (-p) (by omega) (by omega)
    omega
theorem slow_one {x a n A : Int} (hx : -A ≤ x ∧ x ≤ A) (hA : 0 ≤ A) (ha : 0 ≤ a ∧ a ≤ n) (hn : 0 < n) : -A ≤ Int.tdiv (x * a) n ∧ Int.tdiv (x * a) n ≤ A := by
  have h1 : x * a ≤ A * a := Int.mul_le_mul_of_nonneg_right hx.2 ha.1
  have h2 : (-A) * a ≤ x * a := Int.mul_le_mul_of_nonneg_right hx.1 ha.1
  have h3 : A * a ≤ A * n := Int.mul_le_mul_of_nonneg_left ha.2 hA
  rw [Int.neg_mul] at h2
  exact tdiv_le hn (by omega) (by omega)
theorem strong_iff {x y : Int} (hx : -16777216 ≤ x ∧ x ≤ 16777216) (hy : -16777216 ≤ y ∧ y ≤ 16777216) : strongB x y = true := by
  unfold strongB outB
  rw [decide_eq_false (show ¬ x < -16777216 by omega), decide_eq_false (show ¬ 16777216 < x by omega), decide_eq_false (show ¬ y < -16777216 by omega), decide_eq_false (show ¬ 16777216 < y by omega)]
  rfl
theorem strong_bd {x y : Int} (h : strongB x y = true) : (-16777216 ≤ x ∧ x ≤ 16777216) ∧ (-16777216 ≤ y ∧ y ≤ 16777216) := by
  unfold strongB at h
  simp only [Bool.and_eq_true, Bool.not_eq_true'] at h
  exact ⟨out_no h.1, out_no h.2⟩
theorem slow_strong {x y l : Int} (h : (SlowR x y l).2.1 = 0) : strongB (SlowR x y l).1.1 (SlowR x y l).1.2.1 = true := by
  unfold SlowR at h ⊢
  cases h1 : strongB x y with
  | false => rw [h1] at h; cases h
  | true =>
    rw [h1] at h
    simp only [Bool.not_true, cond_false] at h ⊢
    cases h2 : outB l 0 33554432 with
    | true => rw [h2] at h; cases h
    | false =>
      rw [h2] at h
      simp only [cond_false] at h ⊢
      cases h3 : decide (slN x y ≤ 8 * l) with
      | true => rfl
      | false =>
        have b := strong_bd h1
        have c := out_no h2
        have d := of_decide_eq_false h3
        simp only [cond_false]
        exact strong_iff (slow_one b.1 (by omega) ⟨by omega, by omega⟩ (by omega)) (slow_one b.2 (by omega) ⟨by omega, by omega⟩ (by omega))
theorem slE_rq {l : TCT cLawn} {bl : List (TCT cBall)} {os : List Bool} {w fl : Int} {i n : Nat} {ms ms' : Mots} (hi : i < n) (h : slE l os w fl i ms = .inl ms') (q : RQ bl n ms os) (p : OL l n ms os) : RQ bl n ms' os ∧ OL l n ms' os := by
  unfold slE at h
  cases h1 : !rollB ms os i || flyB w fl i with
  | true => rw [h1] at h; cases h; exact ⟨q, p⟩
  | false =>
    rw [h1] at h
    rw [Bool.or_eq_false_iff] at h1
    cases h2 : cellE l (getM ms i).1 != 0 with
    | true => rw [h2] at h; cases h
    | false =>
      rw [h2] at h
      cases h3 : (slwV l (getM ms i)).2.1 != 0 with
      | true => rw [h3] at h; cases h
      | false =>
        rw [h3] at h
        cases h
        have hs : smB (slwM l (getM ms i)) = true := slow_strong (bne_eq_false_iff_eq.1 h3)
        exact ⟨q.set hi (motE_ar (q.ok i hi) ⟨rfl, rfl⟩ hs) (roll_out h1.1), p.set q.m hi rfl⟩
theorem dr_bd (n m : Int) (hm : 1 ≤ m) : -(32 * m) ≤ DR n (64 * m) ∧ DR n (64 * m) ≤ 32 * m - 1 := by
  unfold DR DW
  have a := Int.ediv_mul_le (2 * n + 64 * m) (show 2 * (64 * m) ≠ 0 by omega)
  have b := Int.lt_ediv_add_one_mul_self (2 * n + 64 * m) (show 0 < 2 * (64 * m) by omega)
  generalize (2 * n + 64 * m) / (2 * (64 * m)) = w at a b
  rw [Int.add_mul, Int.one_mul] at b
  have e : w * (2 * (64 * m)) = 2 * (w * (64 * m)) := by grind
  rw [e] at a b
  omega
theorem out_in {x lo hi : Int} (h : lo ≤ x ∧ x ≤ hi) : outB x lo hi = false := by
  unfold outB
  rw [decide_eq_false (show ¬ x < lo by omega), decide_eq_false (show ¬ hi < x by omega)]; rfl
theorem step_mot {b : TCT cBall} {m : TCT cMot} (h : (StepR (bm b m)).2.1 = 0) : motE b (StepR (bm b m)).1 = true := by
  unfold StepR at h ⊢
  cases h1 : (bm b m).ok with
  | false => rw [h1] at h; cases h
  | true =>
    rw [h1] at h
    simp only [Bool.not_true, cond_false] at h ⊢
    cases h2 : fpt (sX (bm b m)) (sY (bm b m)) with
    | false => rw [h2] at h; cases h
    | true =>
      simp only [Bool.not_true, cond_false]
      have f := Bm.fit h1
      unfold Bm.ok motB at h1
      simp only [Bool.and_eq_true] at h1
      unfold motE motB
      simp only [Bool.and_eq_true, Bool.not_eq_true']
      have hm : 1 ≤ b.1 := Int.le_trans (by decide) f.m1
      exact ⟨h1.1, h2, h1.2.2.1, out_in (dr_bd _ b.1 hm), out_in (dr_bd _ b.1 hm)⟩
theorem stE_rq {bl : List (TCT cBall)} {os : List Bool} {i n : Nat} {ms ms' : Mots} (hi : i < n) (h : stE bl os i ms = .inl ms') (q : RQ bl n ms os) : RQ bl n ms' os := by
  unfold stE at h
  cases h1 : !rollB ms os i with
  | true => rw [h1] at h; cases h; exact q
  | false =>
    rw [h1] at h
    cases h3 : (stpV (getB bl i) (getM ms i)).2.1 != 0 with
    | true => rw [h3] at h; cases h
    | false =>
      rw [h3] at h
      cases h
      exact q.set hi (step_mot (bne_eq_false_iff_eq.1 h3)) (roll_out h1)
theorem lvE_rq {l : TCT cLawn} {bl : List (TCT cBall)} {t st : Int} {i n : Nat} {s s' : S2} (hi : i < n) (h : lvE l t st i s = .inl s') (q : RQ bl n s.1 s.2.1) (p : OL l i s.1 s.2.1) : RQ bl n s'.1 s'.2.1 ∧ OL l (i + 1) s'.1 s'.2.1 := by
  have hm := q.m
  have ho := q.o
  unfold lvE at h
  cases h1 : getA s.2.1 i (dflt .b) with
  | true =>
    rw [h1] at h
    cases h
    refine ⟨q, fun j hj e => ?_⟩
    by_cases k : j = i
    · rw [k] at e; unfold getO at e; rw [h1] at e; cases e
    · exact p j (by omega) e
  | false =>
    rw [h1] at h
    cases h2 : onB l (getM s.1 i).1 with
    | true =>
      rw [h2] at h
      cases h
      refine ⟨q, fun j hj e => ?_⟩
      by_cases k : j = i
      · rw [k]; exact h2
      · exact p j (by omega) e
    | false =>
      rw [h2] at h
      cases h
      refine ⟨⟨(setA_len _ _ _).trans hm, (setA_len _ _ _).trans ho, fun j hj => ?_, fun j hj e => ?_⟩, fun j hj e => ?_⟩
      · by_cases k : j = i
        · rw [getM_eq (by omega) k, k]
          exact motE_ar (q.ok i hi) ⟨rfl, rfl⟩ rfl
        · rw [getM_ne (by omega) k]; exact q.ok j hj
      · by_cases k : j = i
        · rw [getM_eq (by omega) k]; rfl
        · rw [getO_ne (by omega) k] at e
          rw [getM_ne (by omega) k]; exact q.z j hj e
      · by_cases k : j = i
        · rw [getO_eq (by omega) k] at e; cases e
        · rw [getO_ne (by omega) k] at e
          rw [getM_ne (by omega) k]; exact p j (by omega) e
theorem mvF_rq {bl : List (TCT cBall)} {l : TCT cLawn} {t st : Int} {n : Nat} {s s' : S2} (h : mvF bl l t st n s = .inl s') (q : RQ bl n s.1 s.2.1) : RQ bl n s'.1 s'.2.1 ∧ OL l n s'.1 s'.2.1 := by
  unfold mvF at h
  cases h1 : foldN (stE bl s.2.1) 0 n s.1 with
  | inr e => rw [h1] at h; cases h
  | inl ms =>
    rw [h1] at h
    have a : RQ bl n ms s.2.1 := foldN_inv (n := n) (Inv := fun _ (x : Mots) => RQ bl n x s.2.1) (fun i x x' hi hq h => stE_rq hi h hq) n 0 _ _ (by omega) q h1
    have h2 : foldN (lvE l t st) 0 n (ms, s.2.1, s.2.2) = .inl s' := h
    exact foldN_inv (n := n) (Inv := fun i (x : S2) => RQ bl n x.1 x.2.1 ∧ OL l i x.1 x.2.1) (fun i x x' hi hq h => lvE_rq hi h hq.1 hq.2) n 0 (ms, s.2.1, s.2.2) s' (by omega) ⟨a, fun j hj => absurd hj (Nat.not_lt_zero j)⟩ h2
end St
end V
end Go.Proofs.YtkiaifmbbnnliaaGreat
