/- What Settle leaves as it was: lengths, places, rests, the sum of momenta; and which pairs it lets bounce. -/
import Derived.Test.YtmmhbianajpdgaaSe
import Derived.Test.YtmmhbianajpdgaaNc
namespace Go.Proofs.Ytmmhbianajpdgaa
open Go.RowKit
namespace V
theorem getA_set {β : Type} {o : List β} {i j : Nat} {x d : β} (h : i < o.length) : getA (setA o i x) j d = if i = j then x else getA o j d := by
  rw [setA_eq, getA_eq, getA_eq]
  simp only [List.getD_eq_getElem?_getD, List.getElem?_set]
  by_cases e : i = j
  · subst e; simp [h]
  · simp [e]
theorem sumX_set : ∀ (o : List (TCT cMot)) (i : Nat) (x d : TCT cMot), i < o.length → sumX (setA o i x) + mX (getA o i d) = sumX o + mX x
  | [], i, _, _, h => by simp at h
  | m :: o, 0, x, d, _ => by simp only [setA, getA, sumX]; omega
  | m :: o, i + 1, x, d, h => by
    have := sumX_set o i x d (by simpa using h)
    simp only [setA, getA, sumX]; omega
theorem sumY_set : ∀ (o : List (TCT cMot)) (i : Nat) (x d : TCT cMot), i < o.length → sumY (setA o i x) + mY (getA o i d) = sumY o + mY x
  | [], i, _, _, h => by simp at h
  | m :: o, 0, x, d, _ => by simp only [setA, getA, sumY]; omega
  | m :: o, i + 1, x, d, h => by
    have := sumY_set o i x d (by simpa using h)
    simp only [setA, getA, sumY]; omega
theorem bounce_ok {a b : Bm} {re dr : Int} : (BounceR a b re dr).2.2.1 = 0 → ∃ x y, KF a b re dr x y ∧ (a.mv (a.mx - x) (a.my - y)).Fit ∧ (b.mv (b.mx + x) (b.my + y)).Fit ∧ BounceR a b re dr = (a.moved (a.mx - x) (a.my - y), b.moved (b.mx + x) (b.my + y), 0, ()) := by
  refine bnc_cases (a := a) (b := b) (re := re) (dr := dr) (P := fun _ u => u.2.2.1 = 0 → ∃ x y, KF a b re dr x y ∧ (a.mv (a.mx - x) (a.my - y)).Fit ∧ (b.mv (b.mx + x) (b.my + y)).Fit ∧ u = (a.moved (a.mx - x) (a.my - y), b.moved (b.mx + x) (b.my + y), 0, ())) (fun _ h => absurd h (by decide)) (fun _ _ _ _ h => absurd h (by decide)) (fun _ _ _ _ _ h => absurd h (by decide)) (fun _ _ _ _ h => absurd h (by decide)) fun x y K fa fb _ => ⟨x, y, K, fa, fb, rfl⟩
/-- the same place and the same rest -/
def sameP (m n : TCT cMot) : Prop := m.1 = n.1 ∧ m.2.2.1 = n.2.2.1
abbrev dM : TCT cMot := dflt cMot
structure SInv (l : List (TCT cBall)) (s : List (TCT cMot)) (t : SS) : Prop where
  len : t.1.length = s.length
  fit : ∀ i, i < s.length → (bAt l t.1 i).Fit
  same : ∀ i, i < s.length → sameP (getA t.1 i dM) (getA s i dM)
  sx : sumX t.1 = sumX s
  sy : sumY t.1 = sumY s
  prs : ∀ p ∈ t.2, ∃ j k : Nat, p = ((j : Int), (k : Int), ()) ∧ j < k ∧ k < s.length ∧ closeB (bAt l s j).px (bAt l s j).py (bAt l s k).px (bAt l s k).py ((bAt l s j).r + (bAt l s k).r) = true
  hit : ∀ i, i < s.length → (∃ p ∈ t.2, p.1 = (i : Int) ∨ p.2.1 = (i : Int)) ∨ getA t.1 i dM = getA s i dM
theorem place_of {l : List (TCT cBall)} {o s : List (TCT cMot)} {i : Nat} (h : sameP (getA o i dM) (getA s i dM)) : (bAt l o i).px = (bAt l s i).px ∧ (bAt l o i).py = (bAt l s i).py := by
  have h1 : (getA o i (dflt cMot)).1 = (getA s i (dflt cMot)).1 := h.1
  refine ⟨?_, ?_⟩
  · show (getA o i (dflt cMot)).1.1 = (getA s i (dflt cMot)).1.1; rw [h1]
  · show (getA o i (dflt cMot)).1.2.1 = (getA s i (dflt cMot)).1.2.1; rw [h1]
theorem sStep_inv {l : List (TCT cBall)} {s : List (TCT cMot)} {re dr : Int} {j k : Nat} (hjk : j < k) (hk : k < s.length) {t t' : SS} (I : SInv l s t) (h : sStep l re dr j k t = some t') : SInv l s t' := by
  unfold sStep at h
  cases h1 : (BounceR (bAt l t.1 j) (bAt l t.1 k) re dr).2.2.1 == 0 with
  | false =>
    rw [h1, cond_false] at h
    cases h2 : (BounceR (bAt l t.1 j) (bAt l t.1 k) re dr).2.2.1 == 4 with
    | true => rw [h2] at h; simp at h
    | false => rw [h2] at h; simp only [cond_false, Option.some.injEq] at h; subst h; exact I
  | true =>
    rw [h1, cond_true, Option.some.injEq] at h
    obtain ⟨x, y, K, fa, fb, e⟩ := bounce_ok (eq_of_beq h1)
    rw [e] at h
    subst h
    have hj : j < t.1.length := by have := I.len; omega
    have hk' : k < t.1.length := by have := I.len; omega
    have hne : ¬ j = k := by omega
    have hne' : ¬ k = j := by omega
    have hk2 : k < (setA t.1 j ((bAt l t.1 j).moved ((bAt l t.1 j).mx - x) ((bAt l t.1 j).my - y))).length := by rw [setA_len]; exact hk'
    have hget : ∀ i, getA (setA (setA t.1 j ((bAt l t.1 j).moved ((bAt l t.1 j).mx - x) ((bAt l t.1 j).my - y))) k ((bAt l t.1 k).moved ((bAt l t.1 k).mx + x) ((bAt l t.1 k).my + y))) i dM =
        if k = i then (bAt l t.1 k).moved ((bAt l t.1 k).mx + x) ((bAt l t.1 k).my + y) else if j = i then (bAt l t.1 j).moved ((bAt l t.1 j).mx - x) ((bAt l t.1 j).my - y) else getA t.1 i dM := by
      intro i
      rw [getA_set hk2, getA_set hj]
    refine ⟨by simp only [setA_len]; exact I.len, ?_, ?_, ?_, ?_, ?_, ?_⟩
    · intro i hi
      show (bm (getA l i (dflt cBall)) (getA _ i dM)).Fit
      rw [hget]
      by_cases e1 : k = i
      · subst e1; rw [if_pos rfl]; exact fb
      · rw [if_neg e1]
        by_cases e2 : j = i
        · subst e2; rw [if_pos rfl]; exact fa
        · rw [if_neg e2]; exact I.fit i hi
    · intro i hi
      show sameP (getA _ i dM) (getA s i dM)
      rw [hget]
      by_cases e1 : k = i
      · subst e1; rw [if_pos rfl]; exact I.same k hi
      · rw [if_neg e1]
        by_cases e2 : j = i
        · subst e2; rw [if_pos rfl]; exact I.same j hi
        · rw [if_neg e2]; exact I.same i hi
    · have a1 := sumX_set t.1 j ((bAt l t.1 j).moved ((bAt l t.1 j).mx - x) ((bAt l t.1 j).my - y)) dM hj
      have a2 := sumX_set _ k ((bAt l t.1 k).moved ((bAt l t.1 k).mx + x) ((bAt l t.1 k).my + y)) dM hk2
      rw [getA_set hj, if_neg hne] at a2
      have b1 : mX (getA t.1 j dM) = (bAt l t.1 j).mx := rfl
      have b2 : mX (getA t.1 k dM) = (bAt l t.1 k).mx := rfl
      have c1 : mX ((bAt l t.1 j).moved ((bAt l t.1 j).mx - x) ((bAt l t.1 j).my - y)) = (bAt l t.1 j).mx - x := rfl
      have c2 : mX ((bAt l t.1 k).moved ((bAt l t.1 k).mx + x) ((bAt l t.1 k).my + y)) = (bAt l t.1 k).mx + x := rfl
      have d := I.sx
      have key : sumX (setA (setA t.1 j ((bAt l t.1 j).moved ((bAt l t.1 j).mx - x) ((bAt l t.1 j).my - y))) k ((bAt l t.1 k).moved ((bAt l t.1 k).mx + x) ((bAt l t.1 k).my + y))) = sumX s := by omega
      exact key
    · have a1 := sumY_set t.1 j ((bAt l t.1 j).moved ((bAt l t.1 j).mx - x) ((bAt l t.1 j).my - y)) dM hj
      have a2 := sumY_set _ k ((bAt l t.1 k).moved ((bAt l t.1 k).mx + x) ((bAt l t.1 k).my + y)) dM hk2
      rw [getA_set hj, if_neg hne] at a2
      have b1 : mY (getA t.1 j dM) = (bAt l t.1 j).my := rfl
      have b2 : mY (getA t.1 k dM) = (bAt l t.1 k).my := rfl
      have c1 : mY ((bAt l t.1 j).moved ((bAt l t.1 j).mx - x) ((bAt l t.1 j).my - y)) = (bAt l t.1 j).my - y := rfl
      have c2 : mY ((bAt l t.1 k).moved ((bAt l t.1 k).mx + x) ((bAt l t.1 k).my + y)) = (bAt l t.1 k).my + y := rfl
      have d := I.sy
      have key : sumY (setA (setA t.1 j ((bAt l t.1 j).moved ((bAt l t.1 j).mx - x) ((bAt l t.1 j).my - y))) k ((bAt l t.1 k).moved ((bAt l t.1 k).mx + x) ((bAt l t.1 k).my + y))) = sumY s := by omega
      exact key
    · intro p hp
      rcases List.mem_append.1 hp with hp | hp
      · exact I.prs p hp
      · rw [List.mem_singleton] at hp
        refine ⟨j, k, hp, hjk, hk, ?_⟩
        have c := K.cl
        obtain ⟨p1, p2⟩ := place_of (l := l) (I.same j (by omega))
        obtain ⟨q1, q2⟩ := place_of (l := l) (I.same k hk)
        rw [p1, p2, q1, q2] at c
        exact c
    · intro i hi
      by_cases e1 : k = i
      · exact .inl ⟨_, List.mem_append.2 (.inr (List.mem_singleton.2 rfl)), .inr (by subst e1; rfl)⟩
      · by_cases e2 : j = i
        · exact .inl ⟨_, List.mem_append.2 (.inr (List.mem_singleton.2 rfl)), .inl (by subst e2; rfl)⟩
        · rcases I.hit i hi with ⟨p, hp, hpi⟩ | hh
          · exact .inl ⟨p, List.mem_append.2 (.inl hp), hpi⟩
          · right
            show getA _ i dM = _
            rw [hget, if_neg e1, if_neg e2]; exact hh
theorem inR_inv {l : List (TCT cBall)} {s : List (TCT cMot)} {re dr : Int} {j : Nat} (f : Nat) : ∀ (k : Nat) (t t' : SS), j < k → k + f ≤ s.length → SInv l s t → inR l re dr j f k t = some t' → SInv l s t' := by
  induction f with
  | zero => intro k t t' _ _ I h; rw [inR_zero, Option.some.injEq] at h; subst h; exact I
  | succ f ih =>
    intro k t t' hjk hk I h
    rw [inR_succ] at h
    cases h1 : sStep l re dr j k t with
    | none => rw [h1] at h; simp at h
    | some t1 =>
      rw [h1, Option.bind_some] at h
      exact ih (k + 1) t1 t' (by omega) (by omega) (sStep_inv hjk (by omega) I h1) h
theorem outR_inv {l : List (TCT cBall)} {s : List (TCT cMot)} {re dr : Int} (hl : l.length = s.length) (f : Nat) : ∀ (j : Nat) (t t' : SS), j + f ≤ s.length → SInv l s t → outR l re dr f j t = some t' → SInv l s t' := by
  induction f with
  | zero => intro j t t' _ I h; rw [outR_zero, Option.some.injEq] at h; subst h; exact I
  | succ f ih =>
    intro j t t' hj I h
    rw [outR_succ] at h
    cases h1 : inR l re dr j (l.length - (j + 1)) (j + 1) t with
    | none => rw [h1] at h; simp at h
    | some t1 =>
      rw [h1, Option.bind_some] at h
      exact ih (j + 1) t1 t' (by omega) (inR_inv _ _ _ _ (by omega) (by omega) I h1) h
theorem fit_of_chk {l : List (TCT cBall)} {s : List (TCT cMot)} (hl : l.length = s.length) (h : (l.zip s).all okBM = true) {i : Nat} (hi : i < s.length) : (bAt l s i).Fit := by
  have hz : i < (l.zip s).length := by rw [List.length_zip]; omega
  have := List.all_eq_true.1 h _ (List.getElem_mem hz)
  rw [zip_at hz (by omega) hi (dflt cBall) (dflt cMot)] at this
  exact Bm.fit this
theorem all_of_fit {l : List (TCT cBall)} {s : List (TCT cMot)} (hl : l.length = s.length) (h : ∀ i, i < s.length → (bAt l s i).Fit) : (l.zip s).all okBM = true := by
  rw [List.all_eq_true]
  intro p hp
  obtain ⟨i, hi, rfl⟩ := List.mem_iff_getElem.1 hp
  have hi' : i < s.length := by rw [List.length_zip] at hi; omega
  rw [zip_at hi (by omega) hi' (dflt cBall) (dflt cMot)]
  exact fit_ok (h i hi')
/-- what is known of what Settle returns -/
theorem settle_inv {l : List (TCT cBall)} {s : List (TCT cMot)} {re dr : Int} (h : (SettleR l s re dr).2.2.1 = 0) :
    l.length ≤ 8 ∧ l.length = s.length ∧ (l.zip s).all okBM = true ∧ SInv l s ((SettleR l s re dr).1, (SettleR l s re dr).2.1) := by
  unfold SettleR at h ⊢
  cases hc : chkR l s != 0 with
  | true =>
    rw [hc, cond_true] at h
    have : chkR l s = 0 := h
    rw [this] at hc
    simp at hc
  | false =>
    rw [hc, cond_false] at h
    have hc' : chkR l s = 0 := by simpa using hc
    obtain ⟨k1, k2, k3⟩ := chk_ok hc'
    cases hb : bncB re dr with
    | false => rw [hb] at h; exact absurd (show (2 : Int) = 0 from h) (by decide)
    | true =>
      rw [hb] at h
      have I0 : SInv l s (s, []) := ⟨rfl, fun i hi => fit_of_chk k2 k3 hi, fun _ _ => ⟨rfl, rfl⟩, rfl, rfl, (fun p hp => nomatch hp), fun _ _ => .inr rfl⟩
      cases ho : outR l re dr l.length 0 (s, []) with
      | none => rw [ho] at h; exact absurd (show (4 : Int) = 0 from h) (by decide)
      | some t' => exact ⟨k1, k2, k3, outR_inv k2 _ _ _ _ (by omega) I0 ho⟩
end V
end Go.Proofs.Ytmmhbianajpdgaa
