/- Leave: its contract. -/
import Derived.Test.YtialgmhhkbdegaaGreatJb
namespace Go.Proofs.YtialgmhhkbdegaaGreat
open Go.RowKit
namespace V
theorem foldl_range_succ {S : Type} (f : S → Nat → S) (s : S) (n : Nat) : (List.range (n + 1)).foldl f s = f ((List.range n).foldl f s) n := by
  rw [List.range_succ, List.foldl_append]; rfl
/-- what is known of the least one so far -/
structure Lst (vs : List (TCT cC)) (k : Nat) (s : Sf) : Prop where
  fo : s.2.1 = true
  lo : 0 ≤ s.1
  hi : s.1 < (k : Int)
  at_ : s.2.2 = nF vs s.1
  all : ∀ i : Nat, i < k → nF vs (i : Int) ≤ s.2.2
  bef : ∀ i : Nat, (i : Int) < s.1 → nF vs (i : Int) < s.2.2
theorem lst_step {vs : List (TCT cC)} : ∀ (k : Nat), Lst vs (k + 1) ((List.range (k + 1)).foldl (fun s (k : Nat) => stepI vs s (k : Int)) (0, false, 0))
  | 0 => ⟨rfl, Int.le_refl _, by show (0 : Int) < 1; omega, rfl, fun i hi => by
      have : i = 0 := by omega
      subst this; exact Int.le_refl _, fun i hi => by have : (i : Int) < 0 := hi; omega⟩
  | k + 1 => by
    have ih := lst_step (vs := vs) k
    rw [foldl_range_succ]
    generalize (List.range (k + 1)).foldl (fun s (k : Nat) => stepI vs s (k : Int)) (0, false, 0) = s at ih ⊢
    obtain ⟨h1, h2, h3, h4, h5, h6⟩ := ih
    unfold stepI
    rw [h1]
    simp only [Bool.not_true, cond_false]
    by_cases hd : nF vs ((k + 1 : Nat) : Int) > s.2.2
    · rw [decide_eq_true hd]
      refine ⟨rfl, by show (0 : Int) ≤ ((k + 1 : Nat) : Int); omega, by show ((k + 1 : Nat) : Int) < ((k + 1 + 1 : Nat) : Int); omega, rfl, fun i hi => ?_, fun i hi => ?_⟩
      · show nF vs i ≤ nF vs ((k + 1 : Nat) : Int)
        by_cases he : i = k + 1
        · rw [he]; exact Int.le_refl _
        · have := h5 i (by omega); omega
      · show nF vs i < nF vs ((k + 1 : Nat) : Int)
        have hi : (i : Int) < ((k + 1 : Nat) : Int) := hi
        have := h5 i (by omega)
        omega
    · rw [decide_eq_false hd]
      refine ⟨h1, h2, by show s.1 < _; omega, h4, fun i hi => ?_, h6⟩
      show nF vs i ≤ s.2.2
      by_cases he : i = k + 1
      · rw [he]; omega
      · exact h5 i (by omega)
theorem lst_all {vs : List (TCT cC)} (h : vs ≠ []) : Lst vs vs.length (allI vs (0, false, 0)) := by
  unfold allI
  cases vs with
  | nil => exact (h rfl).elim
  | cons x l => exact lst_step (vs := x :: l) l.length
def hiAt (vs : List (TCT cC)) (i : Int) : Int := (getA vs i.toNat (dflt cC)).2.1
theorem at_facts {vs : List (TCT cC)} (h : vs ≠ []) (hb : ∀ x ∈ vs, 0 ≤ vHi x ∧ vHi x ≤ 100000000) :
    0 ≤ at_Lv vs ∧ at_Lv vs < (vs.length : Int) ∧ (∀ i : Nat, i < vs.length → hiAt vs (at_Lv vs) ≤ hiAt vs i) ∧ (∀ i : Nat, (i : Int) < at_Lv vs → hiAt vs (at_Lv vs) < hiAt vs i) := by
  obtain ⟨_, h2, h3, h4, h5, h6⟩ := lst_all h
  have e : at_Lv vs = (allI vs (0, false, 0)).1 := rfl
  rw [← e] at h2 h3 h4 h6
  have hn : ∀ i : Nat, i < vs.length → nF vs i = 0 - hiAt vs i := by
    intro i hi
    unfold nF hiAt
    have ht : (i : Int).toNat = i := by omega
    rw [ht, getA_lt hi]
    have := hb _ (List.getElem_mem hi)
    unfold vHi at this
    exact W64_id (by omega) (by omega)
  have hat : nF vs (at_Lv vs) = 0 - hiAt vs (at_Lv vs) := by
    have := hn (at_Lv vs).toNat (by omega)
    rw [show ((at_Lv vs).toNat : Int) = at_Lv vs by omega] at this
    exact this
  refine ⟨h2, h3, fun i hi => ?_, fun i hi => ?_⟩
  · have := h5 i hi
    have := hn i hi
    omega
  · have := h6 i hi
    have := hn i (by omega)
    omega
def valP (b : TCT cB) (x : TCT cSc) : TCT cC := Val b (placeF x)
def Vs (b : TCT cB) (l : List (TCT cSc)) : List (TCT cC) := l.map (valP b)
theorem all_ok {b : TCT cB} (hb : OkB b) : ∀ (l : List (TCT cSc)) (vs : List (TCT cC)) (m : Memo), Right b m → vs.length + l.length ≤ 1000 →
    bif l.all (placeOk b) then ∃ m', all_lv b l (vs, m) = some (.inl (vs ++ Vs b l, m')) else all_lv b l (vs, m) = some (.inr ())
  | [], vs, m, _, _ => ⟨m, by show some (Sum.inl (vs, m)) = _; simp [Vs]⟩
  | x :: l, vs, m, hm, hn => by
    rw [List.length_cons] at hn
    rw [List.all_cons]
    cases hp : placeOk b x with
    | false =>
      show all_lv b (x :: l) (vs, m) = _
      unfold all_lv foldX g_lv
      rw [hp]; rfl
    | true =>
      obtain ⟨m1, e1, r1⟩ := VX_ok hb (place_okP hp) hm
      have ih := all_ok hb l (vs ++ [valP b x]) m1 r1 (by rw [List.length_append, List.length_singleton]; omega)
      have e2 : g_lv b (vs, m) x = some (.inl (vs ++ [valP b x], m1)) := by
        unfold g_lv vOf
        rw [hp, e1]
        have ha : appOk vs [gv (some (Val b (placeF x), m1))] 16 = true := by
          rw [appOk_eq]
          exact decide_eq_true (by rw [List.length_singleton]; omega)
        rw [cond_true]
        show (bif (some (Val b (placeF x), m1)).isSome && appOk vs [gv (some (Val b (placeF x), m1))] 16 then _ else _) = _
        rw [ha]
        rfl
      have e3 : all_lv b (x :: l) (vs, m) = all_lv b l (vs ++ [valP b x], m1) := by
        show foldX (g_lv b) (x :: l) (vs, m) = _
        unfold foldX
        rw [e2]
        rfl
      rw [Bool.true_and, e3]
      cases ha : l.all (placeOk b) with
      | false => rw [ha] at ih; exact ih
      | true =>
        rw [ha] at ih
        obtain ⟨m', e⟩ := ih
        refine ⟨m', ?_⟩
        rw [e]
        simp [Vs]
def leaveE (b : TCT cB) (l : List (TCT cSc)) : Int := bif bOk b then bif (l.length : Int) == 0 then 5 else bif decide ((l.length : Int) > 64) then 6 else bif l.all (placeOk b) then 0 else 3 else 2
def leaveN (b : TCT cB) (l : List (TCT cSc)) : Int := bif leaveE b l == 0 then at_Lv (Vs b l) else 0
def leaveV (b : TCT cB) (l : List (TCT cSc)) : TCT cC := bif leaveE b l == 0 then getA (Vs b l) (at_Lv (Vs b l)).toNat (dflt cC) else zC
abbrev s_Leave : PureT := spec [cB, cScs] [cI, cC, cI] (fun _ => true) (fun x => (leaveN x.1 x.2.1, ((leaveV x.1 x.2.1).1, (leaveV x.1 x.2.1).2.1, ()), leaveE x.1 x.2.1, ()))
end V
end Go.Proofs.YtialgmhhkbdegaaGreat
