import Derived.Test.YtkiaifmbbnnliaaGreatFa
namespace Go.Proofs.YtkiaifmbbnnliaaGreat
open Go.RowKit
namespace V
namespace St
def AS (ms : Mots) : Prop := ∀ j : Nat, restB (getM ms j) = true
structure NH (s s' : S2) : Prop where
  m : ∀ j : Nat, getM s'.1 j = getM s.1 j
  o : s'.2.1 = s.2.1
  k : s'.2.2 = s.2.2
theorem NH.refl {s : S2} : NH s s := ⟨fun _ => rfl, rfl, rfl⟩
theorem NH.trans {a b c : S2} (h : NH a b) (k : NH b c) : NH a c := ⟨fun j => (k.m j).trans (h.m j), k.o.trans h.o, k.k.trans h.k⟩
theorem NH.as {a b : S2} (h : NH a b) (k : AS a.1) : AS b.1 := fun j => by rw [h.m j]; exact k j
theorem NH.ol {a b : S2} {l : TCT cLawn} {n : Nat} (h : NH a b) (k : OL l n a.1 a.2.1) : OL l n b.1 b.2.1 := fun j hj e => by
  rw [h.m j]; rw [h.o] at e; exact k j hj e
end St
end V
end Go.Proofs.YtkiaifmbbnnliaaGreat
