import Derived.Test.YtkiaifmbbnnliaaGreatEr
import Derived.Test.YtkiaifmbbnnliaaGreatDo
namespace Go.Proofs.YtkiaifmbbnnliaaGreat
open Go.RowKit
namespace V
namespace St
def tcK (i : Nat) (k : TCT cKn) : Bool := k.2.2.2.1 == (i : Int) || (k.2.2.1 == 0 && k.2.2.2.2.1 == (i : Int))
def tcB (i : Nat) (ks : Kns) : Bool := ks.any (tcK i)
structure REL (i : Nat) (s s' : S2) : Prop where
 r0 : tcB i s.2.2 = true → tcB i s'.2.2 = true
 r1 : Ft s.2.1 i = true → Ft s'.2.1 i = true ∧ (Ag s'.1 i).1 = (Ag s.1 i).1 ∧ tcB i s'.2.2 = tcB i s.2.2
 r2 : Hs (Ag s.1 i) = true → tcB i s'.2.2 = false → Ag s'.1 i = Ag s.1 i ∧ Ft s'.2.1 i = Ft s.2.1 i
theorem REL.refl {i : Nat} {s : S2} : REL i s s := ⟨id, fun h => ⟨h, rfl, rfl⟩, fun _ _ => ⟨rfl, rfl⟩⟩
theorem REL.trans {i : Nat} {a b c : S2} (h : REL i a b) (k : REL i b c) : REL i a c := by
 refine ⟨fun e => k.r0 (h.r0 e), fun e => ?_, fun e f => ?_⟩
 ·obtain ⟨x1, x2, x3⟩ := h.r1 e
  obtain ⟨y1, y2, y3⟩ := k.r1 x1
  exact ⟨y1, y2.trans x2, y3.trans x3⟩
 ·have hb : tcB i b.2.2 = false := by
   cases hc : tcB i b.2.2 with
   | false => rfl
   | true => rw [k.r0 hc] at f; cases f
  obtain ⟨x1, x2⟩ := h.r2 e hb
  obtain ⟨y1, y2⟩ := k.r2 (by rw [x1]; exact e) f
  exact ⟨y1.trans x1, y2.trans x2⟩
def UN (s s' : SS) : Prop := (∀ p ∈ s.2, p ∈ s'.2) ∧ ∀ k : Nat, (∀ p ∈ s'.2, ¬ p.1 = (k : Int) ∧ ¬ p.2.1 = (k : Int)) → Ag s'.1 k = Ag s.1 k
theorem UN.refl {s : SS} : UN s s := ⟨fun _ h => h, fun _ _ => rfl⟩
theorem UN.trans {a b c : SS} (h : UN a b) (k : UN b c) : UN a c := ⟨fun p hp => k.1 p (h.1 p hp), fun j hj => (k.2 j hj).trans (h.2 j fun p hp => hj p (k.1 p hp))⟩
def AS (ms : Ae) : Prop := ∀ j : Nat, Hs (Ag ms j) = true
structure NH (s s' : S2) : Prop where
 m : ∀ j : Nat, Ag s'.1 j = Ag s.1 j
 o : s'.2.1 = s.2.1
 k : s'.2.2 = s.2.2
theorem NH.refl {s : S2} : NH s s := ⟨fun _ => rfl, rfl, rfl⟩
theorem NH.trans {a b c : S2} (h : NH a b) (k : NH b c) : NH a c := ⟨fun j => (k.m j).trans (h.m j), k.o.trans h.o, k.k.trans h.k⟩
theorem NH.as {a b : S2} (h : NH a b) (k : AS a.1) : AS b.1 := fun j => by rw [h.m j]; exact k j
theorem NH.ol {a b : S2} {l : TCT An} {n : Nat} (h : NH a b) (k : OL l n a.1 a.2.1) : OL l n b.1 b.2.1 := fun j hj e => by
 rw [h.m j]; rw [h.o] at e; exact k j hj e
def kAt (k : Kns) (i : Int) : TCT cKn := Aq k (Int.toNat i) (Ao cKn)
theorem Zq {a : Int} {n : Nat} (h : 0 ≤ a) (k : a < (n : Int)) : Int.toNat a < n := by omega
structure InvW (i : Nat) (s : GA) : Prop where
 a : ∀ k : Nat, k < s.1.length → Aq s.1 k (Ao cI) < (i : Int)
 s : ∀ k k' : Nat, k < k' → k' < s.1.length → Aq s.1 k (Ao cI) < Aq s.1 k' (Ao cI)
theorem B60 {bl : List (TCT A3)} {ms : Ae} {os : List Bool} {w fl : Int} (i : Nat) (s s' : GA) (h : InvW i s) (h2 : gaE bl ms os w fl i s = .inl s') : InvW (i + 1) s' := by
 unfold gaE at h2
 have up : ∀ a : Int, a < (i : Int) → a < ((i + 1 : Nat) : Int) := fun a h => by omega
 cases hc : !Aq os i (Ao .b) && !Eg w fl i with
 | false => rw [hc] at h2; cases h2; exact ⟨fun k hk => up _ (h.a k hk), h.s⟩
 | true =>
  rw [hc] at h2
  cases h2
  have hl : (s.1 ++ [(i : Int)]).length = s.1.length + 1 := by rw [List.length_append, List.length_singleton]
  refine ⟨fun k hk => ?_, fun k k' hkk hk => ?_⟩
  ·have hk2 : k < s.1.length + 1 := hl ▸ hk
   show Aq (s.1 ++ [(i : Int)]) k (Ao cI) < _
   rw [Hf hk2]
   by_cases e : k = s.1.length
   ·rw [if_pos e]; show (i : Int) < ((i + 1 : Nat) : Int); omega
   ·rw [if_neg e]; exact up _ (h.a k (by omega))
  ·have hk2 : k' < s.1.length + 1 := hl ▸ hk
   show Aq (s.1 ++ [(i : Int)]) k (Ao cI) < Aq (s.1 ++ [(i : Int)]) k' (Ao cI)
   rw [Hf (by omega), Hf hk2, if_neg (by omega)]
   by_cases e : k' = s.1.length
   ·rw [if_pos e]; exact h.a k (by omega)
   ·rw [if_neg e]; exact h.s k k' hkk (by omega)
theorem Axh {bl : List (TCT A3)} {ms : Ae} {os : List Bool} {w fl : Int} {n : Nat} : InvW n (gaV bl w fl n ms os) :=
 Ax (n := n) (Inv := InvW) (fun i s s' _ h h2 => B60 (bl := bl) (ms := ms) (os := os) (w := w) (fl := fl) i s s' h h2) n 0 ([], [], []) _ (by omega) ⟨fun k hk => absurd hk (Nat.not_lt_zero k), fun _ k' _ hk => absurd hk (Nat.not_lt_zero k')⟩ (In (Ar (gaE bl ms os w fl) 0 n ([], [], [])))
end St
end V
end Go.Proofs.YtkiaifmbbnnliaaGreat
