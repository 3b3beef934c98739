/- Cross of turf's reference answers as passes of turf; Ring and Passes of both. -/
import Derived.Test.YthgmpjljlpacgaaQf
namespace Go.Proofs.Ythgmpjljlpacgaa
open Go.RowKit
namespace V
/-! the sides, how far both ends are on their left -/
def xyL (c : PC) (l : List (TCT cPt)) : Nat → Nat → List XY
  | 0, _ => []
  | f + 1, i => bif sameB (getA l i (dflt cPt)) (getA l ((i + 1) % l.length) (dflt cPt)) then xyL c l f (i + 1) else
    (lfP (getA l i (dflt cPt)) (getA l ((i + 1) % l.length) (dflt cPt)) c.ax c.ay, lfP (getA l i (dflt cPt)) (getA l ((i + 1) % l.length) (dflt cPt)) c.bx c.bY) :: xyL c l f (i + 1)
theorem sameB_comm (p q : TCT cPt) : sameB q p = sameB p q := by
  have h : ∀ a b : Int, (a == b) = (b == a) := fun a b => by
    by_cases h : a = b
    · subst h; rfl
    · rw [show (a == b) = false from beq_eq_false_iff_ne.2 h, show (b == a) = false from beq_eq_false_iff_ne.2 (Ne.symm h)]
  unfold sameB
  rw [h q.1 p.1, h q.2.1 p.2.1]
theorem pasR_fold (c : PC) (l : List (TCT cPt)) (f : Nat) : ∀ (i : Nat) (s : PS), pasR c l f i s = foldP (xyL c l f i) s := by
  induction f with
  | zero => intro i s; rfl
  | succ f ih =>
    intro i s
    rw [pasR_succ]
    have hstep : pStep c l i s = bif sameB (getA l ((i + 1) % l.length) (dflt cPt)) (getA l i (dflt cPt)) then some s else pSt (lfP (getA l i (dflt cPt)) (getA l ((i + 1) % l.length) (dflt cPt)) c.ax c.ay) (lfP (getA l i (dflt cPt)) (getA l ((i + 1) % l.length) (dflt cPt)) c.bx c.bY) s := rfl
    rw [hstep, xyL, sameB_comm]
    cases sameB (getA l i (dflt cPt)) (getA l ((i + 1) % l.length) (dflt cPt)) with
    | true => exact ih (i + 1) s
    | false =>
      simp only [cond_false, foldP]
      congr 1
      funext s'
      exact ih (i + 1) s'
theorem xyR_map (c : PC) (l : List (TCT cPt)) (f : Nat) : ∀ (i : Nat) (s : Il × Il), xyR c l f i s = (s.1 ++ (xyL c l f i).map Prod.fst, s.2 ++ (xyL c l f i).map Prod.snd) := by
  induction f with
  | zero => intro i s; show s = _; simp [xyL]
  | succ f ih =>
    intro i s
    rw [xyR, xyL, ih]
    cases sameB (getA l i (dflt cPt)) (getA l ((i + 1) % l.length) (dflt cPt)) with
    | true => rfl
    | false => simp
def Small (L : List XY) : Prop := ∀ p ∈ L, (-1000000000000000 ≤ p.1 ∧ p.1 ≤ 1000000000000000) ∧ (-1000000000000000 ≤ p.2 ∧ p.2 ≤ 1000000000000000)
theorem xyL_small {c : PC} {l : List (TCT cPt)} (hf : l.all fp = true) (ha : fpt c.ax c.ay = true) (hb : fpt c.bx c.bY = true) (f : Nat) : ∀ (i : Nat), i + f ≤ l.length → Small (xyL c l f i) := by
  induction f with
  | zero => intro i _ p hp; exact nomatch hp
  | succ f ih =>
    intro i hi
    rw [xyL]
    have hlt : i < l.length := by omega
    have hm := Nat.mod_lt (i + 1) (show l.length > 0 by omega)
    have f1 := fp_at hf hlt
    have f2 := fp_at hf hm
    cases sameB (getA l i (dflt cPt)) (getA l ((i + 1) % l.length) (dflt cPt)) with
    | true => exact ih (i + 1) (by omega)
    | false =>
      intro p hp
      rcases List.mem_cons.1 hp with rfl | hp
      · exact ⟨lft_bd f1 f2 ha, lft_bd f1 f2 hb⟩
      · exact ih (i + 1) (by omega) p hp
theorem allFrom_iff (P : Nat → Bool) (f : Nat) : ∀ (k : Nat), allFrom P f k = true ↔ ∀ j, k ≤ j → j < k + f → P j = true := by
  induction f with
  | zero => intro k; exact ⟨fun _ j h1 h2 => by omega, fun _ => rfl⟩
  | succ f ih =>
    intro k
    rw [allFrom, Bool.and_eq_true, ih]
    constructor
    · rintro ⟨h1, h2⟩ j k1 k2
      by_cases h : j = k
      · subst h; exact h1
      · exact h2 j (by omega) (by omega)
    · intro h
      exact ⟨h k (by omega) (by omega), fun j k1 k2 => h j (by omega) (by omega)⟩
theorem nAt_map {L : List XY} {f : XY → Int} {i : Nat} (h : i < L.length) : nAt (L.map f) i = f L[i] := by
  unfold nAt
  rw [getA_lt (by rw [List.length_map]; exact h), List.getElem_map]
theorem le_or {a b : Int} : (a - b).sign ≥ 0 ↔ ¬ a < b := by
  rcases Int.lt_trichotomy a b with k | k | k
  · rw [sign_lt k]; omega
  · rw [sign_eq k]; omega
  · rw [sign_gt k]; omega
theorem prB_good {L : List XY} (hs : Small L) (hb : Both L) {i k : Nat} (hi : i < L.length) (hk : k < L.length) :
    prB (L.map Prod.fst) (L.map Prod.snd) i k = true ↔ (L[i].1 ≤ 0 → L[k].2 ≤ 0 → (0 - L[i].1) * (L[k].1 - L[k].2) < L[k].1 * (L[i].2 - L[i].1)) := by
  unfold prB
  rw [nAt_map hi, nAt_map hk, nAt_map hk, nAt_map hi]
  have s1 := hs _ (List.getElem_mem hi)
  have s2 := hs _ (List.getElem_mem hk)
  have b1 := hb _ (List.getElem_mem hi)
  have b2 := hb _ (List.getElem_mem hk)
  generalize L[i] = p at *
  generalize L[k] = q at *
  by_cases hp : p.1 ≤ 0
  · by_cases hq : q.2 ≤ 0
    · rw [decide_eq_true hp, decide_eq_true hq, show W64 (0 - p.1) = 0 - p.1 from wrap_id (by omega) (by omega), show W64 (q.1 - q.2) = q.1 - q.2 from wrap_id (by omega) (by omega), show W64 (p.2 - p.1) = p.2 - p.1 from wrap_id (by omega) (by omega)]
      rw [LessW_ok (show wdOk (0 - p.1) (q.1 - q.2) q.1 (p.2 - p.1) = true by
        unfold wdOk outB
        simp only [Bool.and_eq_true, Bool.not_eq_true', Bool.or_eq_false_iff, decide_eq_false_iff_not]
        omega)]
      simp only [Bool.true_and, Bool.not_eq_true', decide_eq_false_iff_not, le_or, Classical.not_not]
      exact ⟨fun h _ _ => h, fun h => h hp hq⟩
    · rw [decide_eq_false hq]
      simp only [Bool.false_and, Bool.and_false, Bool.not_false]
      exact ⟨fun _ _ h => absurd h hq, fun _ => trivial⟩
  · rw [decide_eq_false hp]
    simp only [Bool.false_and, Bool.not_false]
    exact ⟨fun _ h => absurd h hp, fun _ => trivial⟩
theorem rows_good {L : List XY} (hs : Small L) : allFrom (rowOkB (L.map Prod.fst) (L.map Prod.snd)) L.length 0 = true ↔ Good L := by
  rw [allFrom_iff]
  have hlen : (L.map Prod.fst).length = L.length := List.length_map _
  constructor
  · intro h
    have hb : Both L := by
      intro p hp
      obtain ⟨i, hi, rfl⟩ := List.getElem_of_mem hp
      have := h i (by omega) (by omega)
      unfold rowOkB at this
      rw [Bool.and_eq_true, nAt_map hi, nAt_map hi] at this
      intro ⟨k1, k2⟩
      have k3 := this.1
      rw [decide_eq_true k1, decide_eq_true k2] at k3
      exact absurd k3 (by decide)
    refine ⟨hb, fun p hp q hq => ?_⟩
    obtain ⟨i, hi, rfl⟩ := List.getElem_of_mem hp
    obtain ⟨k, hk, rfl⟩ := List.getElem_of_mem hq
    have := h i (by omega) (by omega)
    unfold rowOkB at this
    rw [Bool.and_eq_true, hlen, allFrom_iff] at this
    exact (prB_good hs hb hi hk).1 (this.2 k (by omega) (by omega))
  · rintro ⟨hb, hg⟩ i _ hi
    have hi : i < L.length := by omega
    unfold rowOkB
    rw [Bool.and_eq_true, hlen, allFrom_iff, nAt_map hi, nAt_map hi]
    refine ⟨?_, fun k _ hk => (prB_good hs hb hi (by omega)).2 (hg _ (List.getElem_mem hi) _ (List.getElem_mem (by omega)))⟩
    have := hb _ (List.getElem_mem hi)
    rw [← Bool.decide_and, decide_eq_false this]; rfl
theorem cross_pass {c : PC} {l : List (TCT cPt)} (hf : l.all fp = true) (ha : fpt c.ax c.ay = true) (hb : fpt c.bx c.bY = true) : crossF c l = passF c l := by
  have hs := xyL_small hf ha hb l.length 0 (by omega)
  have e1 : passF c l = true ↔ xyL c l l.length 0 ≠ [] ∧ Good (xyL c l l.length 0) := by
    unfold passF
    rw [pasR_fold]
    exact pass_good _
  have e2 : crossF c l = true ↔ xyL c l l.length 0 ≠ [] ∧ Good (xyL c l l.length 0) := by
    unfold crossF
    rw [show xyOf c l = ((xyL c l l.length 0).map Prod.fst, (xyL c l l.length 0).map Prod.snd) from by unfold xyOf; rw [xyR_map, List.nil_append, List.nil_append]]
    simp only [List.length_map]
    rw [Bool.and_eq_true, rows_good hs]
    refine and_congr_left fun _ => ?_
    cases xyL c l l.length 0 with
    | nil => simp
    | cons a t => simp; omega
  rw [Bool.eq_iff_iff, e1, e2]
theorem q_Cross : PureOk Try.prog 62 s_passes := q_by X_Cross_ok 7 (fun x => T_Cross ⟨x.1.1, x.1.2.1, x.2.1.1, x.2.1.2.1, false⟩ x.2.2.1) (fun x => T_Cross_eq x) fun x hok _ => by
  have h : okPas x = true := hok
  unfold okPas at h
  simp only [Bool.and_eq_true, decide_eq_true_eq] at h
  have := T_Cross_ok ⟨x.1.1, x.1.2.1, x.2.1.1, x.2.1.2.1, false⟩ x.2.2.1 h.1 h.2.1 h.2.2.1 h.2.2.2
  rwa [cross_pass h.2.1 h.2.2.1 h.2.2.2] at this
end V
end Go.Proofs.Ythgmpjljlpacgaa
