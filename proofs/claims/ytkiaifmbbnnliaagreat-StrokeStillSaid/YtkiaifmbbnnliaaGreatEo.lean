import Derived.Test.YtkiaifmbbnnliaaGreatDm
namespace Go.Proofs.YtkiaifmbbnnliaaGreat
open Go.RowKit
namespace V
namespace St
theorem getA_set4 {α : Type} {d : α} {l : List α} {i j : Nat} {x : α} (hi : i < l.length) : getA (setA l i x) j d = if j = i then x else getA l j d := by
  rw [setA_eq, getA_eq, getA_eq, List.getD_eq_getElem?_getD, List.getD_eq_getElem?_getD, List.getElem?_set]
  by_cases h : i = j
  · subst h
    rw [if_pos rfl, if_pos hi, if_pos rfl]; rfl
  · rw [if_neg h, if_neg (fun e => h e.symm)]
theorem getM_eq {l : Mots} {i j : Nat} {x : TCT cMot} (hi : i < l.length) (h : j = i) : getM (setA l i x) j = x := by unfold getM; rw [getA_set4 hi, if_pos h]
theorem getM_ne {l : Mots} {i j : Nat} {x : TCT cMot} (hi : i < l.length) (h : ¬ j = i) : getM (setA l i x) j = getM l j := by unfold getM; rw [getA_set4 hi, if_neg h]
def getO (os : List Bool) (i : Nat) : Bool := getA os i (dflt .b)
def arS (m m' : TCT cMot) : Prop := m'.1 = m.1 ∧ m'.2.2.1 = m.2.2.1
structure RQ (bl : List (TCT cBall)) (n : Nat) (ms : Mots) (os : List Bool) : Prop where
  m : ms.length = n
  o : os.length = n
  ok : ∀ j, j < n → motE (getB bl j) (getM ms j) = true
  z : ∀ j, j < n → getO os j = true → restB (getM ms j) = true
def OL (l : TCT cLawn) (n : Nat) (ms : Mots) (os : List Bool) : Prop := ∀ j, j < n → getO os j = false → onB l (getM ms j).1 = true
theorem RQ.set {bl : List (TCT cBall)} {n i : Nat} {ms : Mots} {os : List Bool} {x : TCT cMot} (q : RQ bl n ms os) (hi : i < n) (hx : motE (getB bl i) x = true) (ho : getO os i = false) : RQ bl n (setA ms i x) os := by
  have hm := q.m
  refine ⟨(setA_len _ _ _).trans hm, q.o, fun j hj => ?_, fun j hj h => ?_⟩
  · by_cases e : j = i
    · rw [getM_eq (by omega) e, e]; exact hx
    · rw [getM_ne (by omega) e]; exact q.ok j hj
  · by_cases e : j = i
    · rw [e, ho] at h; cases h
    · rw [getM_ne (by omega) e]; exact q.z j hj h
theorem OL.set {l : TCT cLawn} {n i : Nat} {ms : Mots} {os : List Bool} {x : TCT cMot} (q : OL l n ms os) (hm : ms.length = n) (hi : i < n) (hx : x.1 = (getM ms i).1) : OL l n (setA ms i x) os := fun j hj h => by
  by_cases e : j = i
  · rw [getM_eq (by omega) e, hx, ← e]; exact q j hj h
  · rw [getM_ne (by omega) e]; exact q j hj h
end St
end V
end Go.Proofs.YtkiaifmbbnnliaaGreat
