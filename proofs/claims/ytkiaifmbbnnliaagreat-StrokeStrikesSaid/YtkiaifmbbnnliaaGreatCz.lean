import Derived.Test.YtkiaifmbbnnliaaGreatCy
namespace Go.Proofs.YtkiaifmbbnnliaaGreat
open Go.RowKit
namespace V
namespace St
theorem allI_get {α : Type} {ok : Nat → α → Bool} {d : α} : ∀ (l : List α) (i : Nat), allI ok i l = true → ∀ j, j < l.length → ok (i + j) (getA l j d) = true
  | [], _, _, j, hj => absurd hj (Nat.not_lt_zero j)
  | x :: l, i, h, j, hj => by
    simp only [allI, Bool.and_eq_true] at h
    cases j with
    | zero => exact h.1
    | succ j =>
      have := allI_get (d := d) l (i + 1) h.2 j (by simpa using hj)
      rw [show i + (j + 1) = i + 1 + j by omega]
      exact this
def flR (fl : Int) : Int := bif decide (fl > 0) then W64 (fl - 1) else fl
def mk0_rt (s : SKTs kSo) (r : S2) : (FE_rt true).T := (((r.1, r.2.1, s.2.2.1, flR s.2.2.2.1, W64 (s.2.2.2.2.1 + 1), ()), r.2.2, 0, ()), ())
def toR (s : SKTs kSo) : S2 ⊕ Int → LeftF FE_rt
  | .inl r => ⟨true, mk0_rt s r⟩
  | .inr e => ⟨true, erT e⟩
end St
end V
end Go.Proofs.YtkiaifmbbnnliaaGreat
