/- The law TopTouched: the plain law. -/
import Derived.Test.YtialgmhhkbdegaaWo
namespace Go.Proofs.Ytialgmhhkbdegaa
open Go.RowKit
namespace V
theorem iter_to {G F : Type} {st : G → Tree (G ⊕ F)} (hd : Nat → G) (e : F) (n : Nat) (hin : ∀ i, i < n → (st (hd i)).run = some (.inl (hd (i + 1)))) (hout : (st (hd n)).run = some (.inr e)) :
    ∀ (f i : Nat), i ≤ n → n ≤ i + f → iter st (f + 1) (hd i) = some e
  | 0, i, h1, h2 => by
    have : i = n := by omega
    subst this
    exact iter_out hout
  | f + 1, i, h1, h2 => by
    by_cases h : i = n
    · subst h; exact iter_out hout
    · rw [iter_in (hin i (by omega))]
      exact iter_to hd e n hin hout f (i + 1) (by omega) (by omega)
theorem getA_set {β : Type} {o : List β} {i j : Nat} {x d : β} (h : i < o.length) : getA (setA o i x) j d = if i = j then x else getA o j d := by
  rw [setA_eq, getA_eq, getA_eq]
  simp only [List.getD_eq_getElem?_getD, List.getElem?_set]
  by_cases e : i = j
  · subst e; simp [h]
  · simp [e]
theorem bounce_weak {a b : Bm} {re dr : Int} (h : (BounceR a b re dr).2.2.1 = 0) : closeB a.px a.py b.px b.py (a.r + b.r) = true ∧ ∃ x y z w, BounceR a b re dr = (a.moved x y, b.moved z w, 0, ()) := by
  unfold BounceR at h ⊢
  have key : (KickR a b re dr).2.1 = 0 := by
    cases hk : (KickR a b re dr).2.1 != 0 with
    | true => unfold BncOf at h; rw [hk, cond_true] at h; exact h
    | false => simpa using hk
  constructor
  · unfold KickR at key
    cases c1 : !(a.ok && (b.ok && bncB re dr)) with
    | true => rw [c1, cond_true] at key; exact absurd key (by decide)
    | false =>
      rw [c1, cond_false] at key
      cases c2 : closeB a.px a.py b.px b.py (a.r + b.r) with
      | true => rfl
      | false => rw [c2] at key; exact absurd (show (5 : Int) = 0 from key) (by decide)
  · generalize KickR a b re dr = k at h key ⊢
    unfold BncOf at h ⊢
    rw [show (k.2.1 != 0) = false by rw [key]; rfl, cond_false] at h ⊢
    cases hs1 : !strongB (W64 (a.mx - k.1.1)) (W64 (a.my - k.1.2.1)) with
    | true => rw [hs1, cond_true] at h; exact absurd (show (4 : Int) = 0 from h) (by decide)
    | false =>
      rw [hs1, cond_false] at h
      rw [cond_false]
      cases hs2 : !strongB (W64 (b.mx + k.1.1)) (W64 (b.my + k.1.2.1)) with
      | true => rw [hs2, cond_true] at h; exact absurd (show (4 : Int) = 0 from h) (by decide)
      | false => exact ⟨_, _, _, _, rfl⟩
abbrev dM : TCT cMot := dflt cMot
structure TInv (l : List (TCT cBall)) (s : List (TCT cMot)) (t : SS) : Prop where
  len : t.1.length = s.length
  same : ∀ i, i < s.length → (getA t.1 i dM).1 = (getA s i dM).1
  prs : ∀ p ∈ t.2, ∃ j k : Nat, p = ((j : Int), (k : Int), ()) ∧ j < k ∧ k < s.length ∧ closeB (bAt l s j).px (bAt l s j).py (bAt l s k).px (bAt l s k).py ((bAt l s j).r + (bAt l s k).r) = true
  hit : ∀ i, i < s.length → (∃ p ∈ t.2, p.1 = (i : Int) ∨ p.2.1 = (i : Int)) ∨ getA t.1 i dM = getA s i dM
theorem place_of {l : List (TCT cBall)} {o s : List (TCT cMot)} {i : Nat} (h : (getA o i dM).1 = (getA s i dM).1) : (bAt l o i).px = (bAt l s i).px ∧ (bAt l o i).py = (bAt l s i).py := by
  refine ⟨?_, ?_⟩
  · show (getA o i dM).1.1 = (getA s i dM).1.1; rw [h]
  · show (getA o i dM).1.2.1 = (getA s i dM).1.2.1; rw [h]
theorem moved_place (a : Bm) (x y : Int) : (a.moved x y).1 = (a.px, a.py, ()) := rfl
theorem sStep_inv {l : List (TCT cBall)} {s : List (TCT cMot)} {re dr : Int} {j k : Nat} (hjk : j < k) (hk : k < s.length) {t t' : SS} (I : TInv l s t) (h : sStep l re dr j k t = some t') : TInv l s t' := by
  unfold sStep at h
  cases h1 : (BounceR (bAt l t.1 j) (bAt l t.1 k) re dr).2.2.1 == 0 with
  | false =>
    rw [h1, cond_false] at h
    cases h2 : (BounceR (bAt l t.1 j) (bAt l t.1 k) re dr).2.2.1 == 4 with
    | true => rw [h2] at h; simp at h
    | false => rw [h2] at h; simp only [cond_false, Option.some.injEq] at h; subst h; exact I
  | true =>
    rw [h1, cond_true, Option.some.injEq] at h
    obtain ⟨c, x, y, z, w, e⟩ := bounce_weak (eq_of_beq h1)
    rw [e] at h
    subst h
    have hj : j < t.1.length := by have := I.len; omega
    have hk' : k < t.1.length := by have := I.len; omega
    have hk2 : k < (setA t.1 j ((bAt l t.1 j).moved x y)).length := by rw [setA_len]; exact hk'
    have hget : ∀ i, getA (setA (setA t.1 j ((bAt l t.1 j).moved x y)) k ((bAt l t.1 k).moved z w)) i dM =
        if k = i then (bAt l t.1 k).moved z w else if j = i then (bAt l t.1 j).moved x y else getA t.1 i dM := by
      intro i
      rw [getA_set hk2, getA_set hj]
    refine ⟨by simp only [setA_len]; exact I.len, ?_, ?_, ?_⟩
    · intro i hi
      show (getA _ i dM).1 = (getA s i dM).1
      rw [hget]
      by_cases e1 : k = i
      · subst e1; rw [if_pos rfl]; exact I.same k hi
      · rw [if_neg e1]
        by_cases e2 : j = i
        · subst e2; rw [if_pos rfl]; exact I.same j hi
        · rw [if_neg e2]; exact I.same i hi
    · intro p hp
      rcases List.mem_append.1 hp with hp | hp
      · exact I.prs p hp
      · rw [List.mem_singleton] at hp
        refine ⟨j, k, hp, hjk, hk, ?_⟩
        obtain ⟨p1, p2⟩ := place_of (l := l) (I.same j (by omega))
        obtain ⟨q1, q2⟩ := place_of (l := l) (I.same k hk)
        rw [p1, p2, q1, q2] at c
        exact c
    · intro i hi
      by_cases e1 : k = i
      · exact .inl ⟨_, List.mem_append.2 (.inr (List.mem_singleton.2 rfl)), .inr (by subst e1; rfl)⟩
      · by_cases e2 : j = i
        · exact .inl ⟨_, List.mem_append.2 (.inr (List.mem_singleton.2 rfl)), .inl (by subst e2; rfl)⟩
        · rcases I.hit i hi with ⟨p, hp, hpi⟩ | hh
          · exact .inl ⟨p, List.mem_append.2 (.inl hp), hpi⟩
          · right
            show getA _ i dM = _
            rw [hget, if_neg e1, if_neg e2]; exact hh
theorem inR_inv {l : List (TCT cBall)} {s : List (TCT cMot)} {re dr : Int} {j : Nat} (f : Nat) : ∀ (k : Nat) (t t' : SS), j < k → k + f ≤ s.length → TInv l s t → inR l re dr j f k t = some t' → TInv l s t' := by
  induction f with
  | zero => intro k t t' _ _ I h; rw [inR_zero, Option.some.injEq] at h; subst h; exact I
  | succ f ih =>
    intro k t t' hjk hk I h
    rw [inR_succ] at h
    cases h1 : sStep l re dr j k t with
    | none => rw [h1] at h; simp at h
    | some t1 =>
      rw [h1, Option.bind_some] at h
      exact ih (k + 1) t1 t' (by omega) (by omega) (sStep_inv hjk (by omega) I h1) h
theorem outR_inv {l : List (TCT cBall)} {s : List (TCT cMot)} {re dr : Int} (hl : l.length = s.length) (f : Nat) : ∀ (j : Nat) (t t' : SS), j + f ≤ s.length → TInv l s t → outR l re dr f j t = some t' → TInv l s t' := by
  induction f with
  | zero => intro j t t' _ I h; rw [outR_zero, Option.some.injEq] at h; subst h; exact I
  | succ f ih =>
    intro j t t' hj I h
    rw [outR_succ] at h
    cases h1 : inR l re dr j (l.length - (j + 1)) (j + 1) t with
    | none => rw [h1] at h; simp at h
    | some t1 =>
      rw [h1, Option.bind_some] at h
      exact ih (j + 1) t1 t' (by omega) (inR_inv _ _ _ _ (by omega) (by omega) I h1) h
end V
end Go.Proofs.Ytialgmhhkbdegaa
