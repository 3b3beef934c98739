import Derived.Test.YtkiaifmbbnnliaaGreatEp
namespace Go.Proofs.YtkiaifmbbnnliaaGreat
open Go.RowKit
namespace V
namespace St
def tcK (i : Nat) (k : TCT cKn) : Bool := k.2.2.2.1 == (i : Int) || (k.2.2.1 == 0 && k.2.2.2.2.1 == (i : Int))
def tcB (i : Nat) (ks : Kns) : Bool := ks.any (tcK i)
structure REL (i : Nat) (s s' : S2) : Prop where
  r0 : tcB i s.2.2 = true → tcB i s'.2.2 = true
  r1 : getO s.2.1 i = true → getO s'.2.1 i = true ∧ (getM s'.1 i).1 = (getM s.1 i).1 ∧ tcB i s'.2.2 = tcB i s.2.2
  r2 : restB (getM s.1 i) = true → tcB i s'.2.2 = false → getM s'.1 i = getM s.1 i ∧ getO s'.2.1 i = getO s.2.1 i
theorem REL.refl {i : Nat} {s : S2} : REL i s s := ⟨id, fun h => ⟨h, rfl, rfl⟩, fun _ _ => ⟨rfl, rfl⟩⟩
theorem REL.trans {i : Nat} {a b c : S2} (h : REL i a b) (k : REL i b c) : REL i a c := by
  refine ⟨fun e => k.r0 (h.r0 e), fun e => ?_, fun e f => ?_⟩
  · obtain ⟨x1, x2, x3⟩ := h.r1 e
    obtain ⟨y1, y2, y3⟩ := k.r1 x1
    exact ⟨y1, y2.trans x2, y3.trans x3⟩
  · have hb : tcB i b.2.2 = false := by
      cases hc : tcB i b.2.2 with
      | false => rfl
      | true => rw [k.r0 hc] at f; cases f
    obtain ⟨x1, x2⟩ := h.r2 e hb
    obtain ⟨y1, y2⟩ := k.r2 (by rw [x1]; exact e) f
    exact ⟨y1.trans x1, y2.trans x2⟩
def UN (s s' : SS) : Prop := (∀ p ∈ s.2, p ∈ s'.2) ∧ ∀ k : Nat, (∀ p ∈ s'.2, ¬ p.1 = (k : Int) ∧ ¬ p.2.1 = (k : Int)) → getM s'.1 k = getM s.1 k
theorem UN.refl {s : SS} : UN s s := ⟨fun _ h => h, fun _ _ => rfl⟩
theorem UN.trans {a b c : SS} (h : UN a b) (k : UN b c) : UN a c := ⟨fun p hp => k.1 p (h.1 p hp), fun j hj => (k.2 j hj).trans (h.2 j fun p hp => hj p (k.1 p hp))⟩
end St
end V
end Go.Proofs.YtkiaifmbbnnliaaGreat
