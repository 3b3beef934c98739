import Derived.Test.YtkiaifmbbnnliaaGreatEo
namespace Go.Proofs.YtkiaifmbbnnliaaGreat
open Go.RowKit
namespace V
namespace St
def SA (G M : Mots) : Prop := ∀ j : Nat, arS (getM G j) (getM M j)
theorem SA.set {G M : Mots} {i : Nat} {x : TCT cMot} (h : SA G M) (hx : arS (getM M i) x) : SA G (setA M i x) := fun j => by
  by_cases hi : i < M.length
  · by_cases e : j = i
    · rw [getM_eq hi e, e]
      exact ⟨hx.1.trans (h i).1, hx.2.trans (h i).2⟩
    · rw [getM_ne hi e]; exact h j
  · have : setA M i x = M := by rw [setA_eq]; exact List.set_eq_of_length_le (Nat.le_of_not_lt hi)
    rw [this]; exact h j
structure InvH (ms : Mots) (os : List Bool) (n i : Nat) (s : GA) : Prop where
  g : InvG n i s
  h : ∀ k : Nat, k < s.1.length → getM s.2.2 k = getM ms (Int.toNat (getA s.1 k (dflt cI))) ∧ getO os (Int.toNat (getA s.1 k (dflt cI))) = false
theorem getA_app {α : Type} {d : α} {l : List α} {x : α} {k : Nat} (h : k < l.length + 1) : getA (l ++ [x]) k d = if k = l.length then x else getA l k d := by
  rw [getA_eq, getA_eq, List.getD_eq_getElem?_getD, List.getD_eq_getElem?_getD]
  by_cases e : k = l.length
  · rw [if_pos e, e, List.getElem?_append_right (Nat.le_refl _), Nat.sub_self]; rfl
  · rw [if_neg e, List.getElem?_append_left (by omega)]
theorem inv_h {bl : List (TCT cBall)} {ms : Mots} {os : List Bool} {w fl : Int} {n : Nat} (i : Nat) (s s' : GA) (hi : i < n) (h : InvH ms os n i s) (h2 : gaE bl ms os w fl i s = .inl s') : InvH ms os n (i + 1) s' := by
  have hg := inv_s1 i s s' hi h.g h2
  refine ⟨hg, ?_⟩
  unfold gaE at h2
  cases hc : !getA os i (dflt .b) && !flyB w fl i with
  | false => rw [hc] at h2; cases h2; exact h.h
  | true =>
    rw [hc] at h2
    cases h2
    have hm := h.g.m
    have ho : getO os i = false := by
      unfold getO
      rw [Bool.and_eq_true] at hc
      simpa using hc.1
    intro k hk
    have hk2 : k < (s.1 ++ [(i : Int)]).length := hk
    have hk' : k < s.1.length + 1 := by rw [List.length_append, List.length_singleton] at hk2; exact hk2
    show getA (s.2.2 ++ [getM ms i]) k (dflt cMot) = getM ms (Int.toNat (getA (s.1 ++ [(i : Int)]) k (dflt cI))) ∧ getO os (Int.toNat (getA (s.1 ++ [(i : Int)]) k (dflt cI))) = false
    rw [getA_app (by omega), getA_app hk']
    by_cases e : k = s.1.length
    · rw [if_pos e, if_pos (by omega)]
      exact ⟨rfl, ho⟩
    · rw [if_neg e, if_neg (by omega)]
      exact h.h k (by omega)
theorem gaV_h {bl : List (TCT cBall)} {ms : Mots} {os : List Bool} {w fl : Int} {n : Nat} : InvH ms os n n (gaV bl w fl n ms os) :=
  foldN_inv (n := n) (Inv := InvH ms os n) (fun i s s' hi h h2 => inv_h (bl := bl) (w := w) (fl := fl) i s s' hi h h2) n 0 ([], [], []) _ (by omega) ⟨⟨rfl, rfl, Nat.le_refl _, fun w hw => nomatch hw⟩, fun k hk => absurd hk (Nat.not_lt_zero k)⟩ (unE_eq (foldN (gaE bl ms os w fl) 0 n ([], [], [])))
structure RK (bl : List (TCT cBall)) (n : Nat) (ms0 ms : Mots) (os : List Bool) : Prop where
  q : RQ bl n ms os
  a : ∀ j : Nat, (getM ms j).1 = (getM ms0 j).1
theorem RK.ol {bl : List (TCT cBall)} {l : TCT cLawn} {n : Nat} {ms0 ms : Mots} {os : List Bool} (k : RK bl n ms0 ms os) (p : OL l n ms0 os) : OL l n ms os := fun j hj h => by rw [k.a j]; exact p j hj h
theorem RK.set {bl : List (TCT cBall)} {n i : Nat} {ms0 ms : Mots} {os : List Bool} {x : TCT cMot} (k : RK bl n ms0 ms os) (hi : i < n) (hx : motE (getB bl i) x = true) (ho : getO os i = false) (hp : x.1 = (getM ms0 i).1) : RK bl n ms0 (setA ms i x) os := by
  have hm := k.q.m
  refine ⟨k.q.set hi hx ho, fun j => ?_⟩
  by_cases e : j = i
  · rw [getM_eq (by omega) e, hp, e]
  · rw [getM_ne (by omega) e]; exact k.a j
theorem allI_at {α : Type} {ok : Nat → α → Bool} {d : α} : ∀ (l : List α) (i : Nat), allI ok i l = true → ∀ j, j < l.length → ok (i + j) (getA l j d) = true
  | [], _, _, j, hj => absurd hj (Nat.not_lt_zero j)
  | x :: l, i, h, j, hj => by
    simp only [allI, Bool.and_eq_true] at h
    cases j with
    | zero => exact h.1
    | succ j =>
      have := allI_at (d := d) l (i + 1) h.2 j (by simpa using hj)
      rw [show i + (j + 1) = i + 1 + j by omega]
      exact this
theorem sta_rq {g : TCT cGr} {s : TCT cSt} (h : StaOk g s) : RQ (ballsG g) (ballsG g).length (msT s) (osT s) ∧ OL g.1 (ballsG g).length (msT s) (osT s) := by
  have hm := h.m
  have key : ∀ j, j < (ballsG g).length → okO g.1 (getB (ballsG g) j) (getO (osT s) j) (getM (msT s) j) = true := fun j hj => by
    have := allI_at (d := dflt cMot) (msT s) 0 h.ok j (by omega)
    rw [Nat.zero_add] at this
    exact this
  refine ⟨⟨h.m, h.o, fun j hj => ?_, fun j hj e => ?_⟩, fun j hj e => ?_⟩
  · have := key j hj
    unfold okO at this
    rw [Bool.and_eq_true] at this
    exact this.1
  · have := key j hj
    unfold okO at this
    rw [e, Bool.and_eq_true, cond_true, Bool.and_true] at this
    exact this.2
  · have := key j hj
    unfold okO at this
    rw [e, Bool.and_eq_true, cond_false] at this
    exact this.2
end St
end V
end Go.Proofs.YtkiaifmbbnnliaaGreat
