/- The law TacticsLists: plain law, and the whole. -/
import Derived.Test.YtdblbofagfhlbaaHd
namespace Go.Proofs.Ytdblbofagfhlbaa
open Go.RowKit
namespace V
abbrev cs_tacticsLists : List TC := [cCs, .sl cU8, cC]
def T_tls (n e em ek : Int) (s o1 o2 : Bool) (a b c d x y : Ch) : Tree Unit :=
  bif decide (n > 60) then .leaf () else
  bif e != 0 then bif e == e then .leaf () else .fail else
  bif e != 0 then bif e == e then .leaf () else .fail else
  bif s then
  bif em != 0 then .fail else bif em != 0 then .fail else
  bif !(decide (a.1 ≤ c.1) && decide (c.2 ≤ a.2)) then .fail else
  bif !(decide (b.1 ≤ d.1) && decide (d.2 ≤ b.2)) then .fail else
  bif decide (a.1 > a.2) then .fail else bif decide (b.1 > b.2) then .fail else
  bif o1 then bif o2 then bif o1 then bif o2 then
  bif ek != 0 then bif ek == 2 then bif ek == ek then .leaf () else .fail else .fail else
  bif ek != 0 then bif ek == 2 then bif ek == ek then .leaf () else .fail else .fail else
  bif decide (x.2 ≤ a.2) then bif decide (x.1 ≤ a.1) then bif decide (y.1 ≥ b.1) then bif decide (y.2 ≥ b.2) then .leaf () else .fail else .fail else .fail else .fail
  else .fail else .fail else .fail else .fail else .fail
theorem T_tls_ok {n e em ek : Int} {s o1 o2 : Bool} {a b c d x y : Ch} (h : n ≤ 60 → e = 0 → s = true ∧ em = 0 ∧ In c a ∧ In d b ∧ a.1 ≤ a.2 ∧ b.1 ≤ b.2 ∧ o1 = true ∧ o2 = true ∧ (ek = 2 ∨ ek = 0 ∧ x.2 ≤ a.2 ∧ x.1 ≤ a.1 ∧ b.1 ≤ y.1 ∧ b.2 ≤ y.2)) :
    (T_tls n e em ek s o1 o2 a b c d x y).sat (fun _ => True) := by
  unfold T_tls
  refine sat_cond (fun _ => trivial) (fun h1 => ?_)
  have h1 := of_decide_eq_false h1
  by_cases he : e = 0
  · subst he
    obtain ⟨rfl, rfl, h2, h3, h4, h5, rfl, rfl, h6⟩ := h (by omega) rfl
    rw [decide_eq_true h2.1, decide_eq_true h2.2, decide_eq_true h3.1, decide_eq_true h3.2, decide_eq_false (show ¬ a.1 > a.2 by omega), decide_eq_false (show ¬ b.1 > b.2 by omega)]
    rcases h6 with rfl | ⟨rfl, k1, k2, k3, k4⟩
    · trivial
    · rw [decide_eq_true k1, decide_eq_true k2, decide_eq_true (show y.1 ≥ b.1 from k3), decide_eq_true (show y.2 ≥ b.2 from k4)]
      trivial
  · have : (e != 0) = true := by simpa using he
    rw [this, beq_self_eq_true]
    trivial
def TY_tls (x : TCTs cs_tacticsLists) : Tree Unit :=
  T_tls (x.1.length : Int) (checkF x.1) (checkF (mF x.2.1 x.1)) (checkF (x.1 ++ [(x.2.2.1.1, x.2.2.1.2.1, ())])) (decide ((0 : Int) = 0) && (shortL x.1 && isNil ([] : List (TCT cC)))) (appOk ([] : List (TCT cC)) x.1 16) (appOk x.1 [(x.2.2.1.1, x.2.2.1.2.1, ())] 16)
    (aF x.1) (yF x.1) (aF (mF x.2.1 x.1)) (yF (mF x.2.1 x.1)) (aF (x.1 ++ [(x.2.2.1.1, x.2.2.1.2.1, ())])) (yF (x.1 ++ [(x.2.2.1.1, x.2.2.1.2.1, ())]))
theorem TY_tls_eq (x : TCTs cs_tacticsLists) : evFn X_tacticsLists 8 (.fn 7) (encAs cs_tacticsLists x) noHeap 0 lawK = TY_tls x := by kernel_rfl
/-! the plain law -/
theorem sc_in {w p : Int} (hw : 0 ≤ w ∧ w ≤ 1000000) (hp : 0 ≤ p ∧ p ≤ 255) : 0 ≤ sc w p ∧ sc w p ≤ w := by
  unfold sc
  have h1 : w * p ≤ w * 255 := Int.mul_le_mul_of_nonneg_left hp.2 hw.1
  have h2 : 0 ≤ w * p := Int.mul_nonneg hw.1 hp.1
  rw [W64_id (n := p) (by omega) (by omega), W64_id (n := w * p) (by omega) (by omega), Int.tdiv_eq_ediv_of_nonneg h2]
  have h3 : w * p / 255 ≤ w := by
    refine Int.ediv_le_of_le_mul (by omega) ?_
    omega
  have h4 : 0 ≤ w * p / 255 := Int.ediv_nonneg h2 (by omega)
  rw [W64_id (by omega) (by omega)]
  exact ⟨h4, h3⟩
theorem cut_in {x : TCT cC} {p q : Int} (hx : validC (un x) = true) (hp : 0 ≤ p ∧ p ≤ 255) (hq : 0 ≤ q ∧ q ≤ 255) : In (un (cut x p q)) (un x) ∧ validC (un (cut x p q)) = true := by
  have hx := of_decide_eq_true hx
  obtain ⟨lo, hi, ⟨⟩⟩ := x
  simp only [un] at hx
  have hw : W64 (hi - lo) = hi - lo := W64_id (by omega) (by omega)
  have h1 := sc_in (w := hi - lo) ⟨by omega, by omega⟩ hp
  have h2 := sc_in (w := hi - lo) ⟨by omega, by omega⟩ hq
  have e : un (cut (lo, hi, ()) p q) = (lo + min (sc (hi - lo) p) (sc (hi - lo) q), lo + max (sc (hi - lo) p) (sc (hi - lo) q)) := by
    simp only [cut, un]
    rw [hw]
    generalize sc (hi - lo) p = u at *
    generalize sc (hi - lo) q = v at *
    rw [W64_id (n := lo + min u v) (by omega) (by omega), W64_id (n := lo + max u v) (by omega) (by omega)]
  rw [e]
  generalize sc (hi - lo) p = u at *
  generalize sc (hi - lo) q = v at *
  unfold In
  refine ⟨by simp only [un]; omega, decide_eq_true ?_⟩
  simp only
  omega
theorem getA_u8 {q : List Int} (hq : ∀ x ∈ q, 0 ≤ x ∧ x ≤ 255) (i : Nat) : 0 ≤ getA q i (0 : Int) ∧ getA q i (0 : Int) ≤ 255 := by
  rw [getA_eq, List.getD_eq_getElem?_getD]
  cases h : q[i]? with
  | none => simp
  | some x => exact hq x (List.mem_of_getElem? h)
theorem eC_in {q : List Int} (hq : ∀ x ∈ q, 0 ≤ x ∧ x ≤ 255) (i : Int) {x : TCT cC} (hx : validC (un x) = true) : In (un (eC q i x)) (un x) ∧ validC (un (eC q i x)) = true := by
  unfold eC
  cases decide (iB i < (q.length : Int)) with
  | true => exact cut_in hx (getA_u8 hq _) (getA_u8 hq _)
  | false => exact ⟨⟨Int.le_refl _, Int.le_refl _⟩, hx⟩
theorem InL.snoc {l m : List (TCT cC)} (h : InL l m) {x y : TCT cC} (k : In (un x) (un y)) : InL (l ++ [x]) (m ++ [y]) := by
  induction h with
  | nil => exact .cons k .nil
  | cons h _ ih => exact .cons h ih
theorem mF_in {q : List Int} (hq : ∀ x ∈ q, 0 ≤ x ∧ x ≤ 255) : ∀ (l m k : List (TCT cC)), InL m k → validL m = true → validL l = true → InL (l.foldl (gF q) m) (k ++ l) ∧ validL (l.foldl (gF q) m) = true
  | [], m, k, h, hm, _ => by
    refine ⟨?_, hm⟩
    rw [List.append_nil]
    exact h
  | x :: l, m, k, h, hm, hl => by
    simp only [validL, List.all_cons, Bool.and_eq_true] at hl
    have hx := eC_in hq m.length hl.1
    rw [List.foldl_cons, show k ++ x :: l = (k ++ [x]) ++ l by simp]
    refine mF_in hq l _ _ (h.snoc hx.1) ?_ hl.2
    unfold validL at hm ⊢
    unfold gF
    rw [List.all_append, hm]
    simp [hx.2]
theorem InL.len {l m : List (TCT cC)} (h : InL l m) : l.length = m.length := by
  induction h with
  | nil => rfl
  | cons _ _ ih => simp [ih]
theorem check_zero {l : List (TCT cC)} (h : l.length ≤ 64) (k : validL l = true) : checkF l = 0 := by
  unfold checkF
  rw [decide_eq_false (by omega), k]; rfl
theorem check_of {l : List (TCT cC)} (h : checkF l = 0) : l.length ≤ 64 ∧ validL l = true := by
  unfold checkF at h
  cases hd : decide ((l.length : Int) > 64) with
  | true => rw [hd] at h; cases h
  | false =>
    rw [hd] at h
    have := of_decide_eq_false hd
    cases hv : validL l with
    | true => exact ⟨by omega, rfl⟩
    | false => rw [hv] at h; cases h
theorem notL_valid {l : List (TCT cC)} (h : validL l = true) : validL (notL l) = true := by
  have h := List.all_eq_true.1 h
  refine List.all_eq_true.2 fun y hy => ?_
  obtain ⟨x, hx, rfl⟩ := List.mem_map.1 hy
  have := of_decide_eq_true (h x hx)
  refine decide_eq_true ?_
  simp only [mk, un, notF] at *
  omega
theorem aF_of {l : List (TCT cC)} (h : checkF l = 0) : aF l = allF l cM := by unfold aF; rw [h]; rfl
theorem yF_of {l : List (TCT cC)} (h : checkF l = 0) : yF l = notF (allF (notL l) cM) := by unfold yF; rw [h]; rfl
theorem cM_valid : validC cM = true := by decide
theorem notF_in {a b : Ch} (h : In a b) : In (notF a) (notF b) := by unfold In notF at *; simp only at *; omega
theorem tls_law (l : List (TCT cC)) (q : List Int) (z : TCT cC) (hq : ∀ x ∈ q, 0 ≤ x ∧ x ≤ 255) (hn : (l.length : Int) ≤ 60) (he : checkF l = 0) :
    checkF (mF q l) = 0 ∧ In (aF (mF q l)) (aF l) ∧ In (yF (mF q l)) (yF l) ∧ (aF l).1 ≤ (aF l).2 ∧ (yF l).1 ≤ (yF l).2 ∧
      (checkF (l ++ [z]) = 2 ∨ checkF (l ++ [z]) = 0 ∧ (aF (l ++ [z])).2 ≤ (aF l).2 ∧ (aF (l ++ [z])).1 ≤ (aF l).1 ∧ (yF l).1 ≤ (yF (l ++ [z])).1 ∧ (yF l).2 ≤ (yF (l ++ [z])).2) := by
  obtain ⟨h1, h2⟩ := check_of he
  obtain ⟨k1, k2⟩ := mF_in hq l [] [] .nil rfl h2
  rw [List.nil_append] at k1
  have k0 : checkF (mF q l) = 0 := check_zero (by rw [show (mF q l).length = l.length from k1.len]; omega) k2
  have a1 := of_decide_eq_true (allF_valid l h2 cM_valid)
  have a2 := of_decide_eq_true (allF_valid (notL l) (notL_valid h2) cM_valid)
  have fM : fitC cM = true := fit_valid cM_valid
  refine ⟨k0, ?_, ?_, by rw [aF_of he]; exact a1.2.1, by rw [yF_of he]; unfold notF; simp only; omega, ?_⟩
  · rw [aF_of k0, aF_of he]
    exact allF_in k1 (valid_fitL k2) (valid_fitL h2) fM fM ⟨by omega, by omega⟩
  · rw [yF_of k0, yF_of he]
    exact notF_in (allF_in (notL_in k1) (valid_fitL (notL_valid k2)) (valid_fitL (notL_valid h2)) fM fM ⟨by omega, by omega⟩)
  · cases hz : validC (un z) with
    | false =>
      left
      unfold checkF
      rw [decide_eq_false (by simp; omega)]
      have : validL (l ++ [z]) = false := by
        unfold validL
        rw [List.all_append]
        simp [hz]
      rw [this]; rfl
    | true =>
      right
      have hv : validL (l ++ [z]) = true := by
        unfold validL at h2 ⊢
        rw [List.all_append, h2]
        simp [hz]
      have h0 : checkF (l ++ [z]) = 0 := check_zero (by simp; omega) hv
      have b1 := timesF_le (fit_valid (allF_valid l h2 cM_valid)) (fit_valid hz)
      have hnz : validL (notL [z]) = true := notL_valid (by unfold validL; simp [hz])
      have hnz' : validC (un (mk (notF (un z)))) = true := by
        simp only [validL, notL, List.map_cons, List.map_nil, List.all_cons, List.all_nil, Bool.and_true] at hnz
        exact hnz
      have b2 := timesF_le (fit_valid (allF_valid (notL l) (notL_valid h2) cM_valid)) (fit_valid hnz')
      have e2 : notL (l ++ [z]) = notL l ++ [mk (notF (un z))] := by unfold notL; rw [List.map_append]; rfl
      rw [aF_of he, aF_of h0, yF_of he, yF_of h0, allF_snoc, e2, allF_snoc]
      generalize timesF (allF (notL l) cM) (un (mk (notF (un z)))) 0 = u at *
      unfold notF
      simp only
      exact ⟨h0, b1.2, b1.1, by omega, by omega⟩
theorem TY_tls_ok (l : List (TCT cC)) (q : List Int) (a b : Int) (hq : ∀ x ∈ q, 0 ≤ x ∧ x ≤ 255) : (TY_tls (l, q, (a, b, ()), ())).sat (fun _ => True) := by
  refine T_tls_ok fun hn he => ?_
  obtain ⟨h1, h2, h3, h4, h5, h6⟩ := tls_law l q (a, b, ()) hq hn he
  have hn : (l.length : Int) ≤ 60 := hn
  refine ⟨?_, h1, h2, h3, h4, h5, ?_, app16 (by show l.length ≤ 1000000; omega), h6⟩
  · show (decide ((0 : Int) = 0) && (shortL l && isNil ([] : List (TCT cC)))) = true
    simp only [shortL, isNil, Bool.and_true]
    rw [decide_eq_true (show (l.length : Int) ≤ 1000 by omega)]; rfl
  · show appOk ([] : List (TCT cC)) l 16 = true
    exact decide_eq_true (by show (l.length : Int) * (16 : Nat) ≤ 140737488355328; omega)
theorem tacticsLists_sat : LawSat X_tacticsLists 7 cs_tacticsLists 8 := lawSat 8 TY_tls TY_tls_eq (fun x hw => by
  obtain ⟨l, q, ⟨a, b, ⟨⟩⟩, ⟨⟩⟩ := x
  refine TY_tls_ok l q a b fun x hx => ?_
  have := wfl_mem hw.2.1 x hx
  simp only [WFD, inK, minK, maxK] at this
  exact this)
end V
end Go.Proofs.Ytdblbofagfhlbaa
