import Derived.Test.YtkiaifmbbnnliaaGreatDo
import Derived.Test.YtkiaifmbbnnliaaGreatDa
namespace Go.Proofs.YtkiaifmbbnnliaaGreat
open Go.RowKit
namespace V
namespace St
theorem Ati {x N : Int} (h : -N ≤ x ∧ x ≤ N) : -N ≤ Int.tdiv x 1000 ∧ Int.tdiv x 1000 ≤ N := by
 by_cases hx : 0 ≤ x
 ·rw [Int.tdiv_eq_ediv_of_nonneg hx]; omega
 ·have e : x = -(-x) := by omega
  rw [e, Int.neg_tdiv, Int.tdiv_eq_ediv_of_nonneg (show 0 ≤ -x by omega)]
  omega
theorem B0m (k : Int) : Rk k = 0 ∨ Rk k = 150 ∨ Rk k = 500 ∨ Rk k = 900 := by
 unfold Rk
 cases (1 : Int) == k <;> cases (2 : Int) == k <;> cases (3 : Int) == k <;> simp
theorem Am9 {m k : Int} (h : -2097152 ≤ m ∧ m ≤ 2097152) : -2097152000 ≤ fwD m k ∧ fwD m k ≤ 2097152000 := by
 have b : -2097152000 ≤ m * Rk k ∧ m * Rk k ≤ 2097152000 := by
  rcases B0m k with e | e | e | e <;> rw [e] <;> omega
 unfold fwD
 generalize m * Rk k = x at b
 rw [Bp (n := x) (by omega) (by omega)]
 have c := Ati b
 rw [Bp (by omega) (by omega)]
 exact c
def BM (a b : Int) (l : Ae) : Prop := ∀ j : Nat, (-a ≤ (Ag l j).2.1.1 ∧ (Ag l j).2.1.1 ≤ a) ∧ (-b ≤ (Ag l j).2.1.2.1 ∧ (Ag l j).2.1.2.1 ≤ b)
theorem SM.bm {l : Ae} (h : SM l) : BM 16777216 16777216 l := fun j => by
 have := h j
 unfold smB Au at this
 simp only [Bool.and_eq_true, Bool.not_eq_true'] at this
 exact ⟨Dk this.1, Dk this.2⟩
theorem Axf {x d a : Int} (h : -a ≤ x ∧ x ≤ a) (ha : 0 ≤ a ∧ a ≤ 4000000000) (hd : -2097152000 ≤ d ∧ d ≤ 2097152000) : -(a + 2097152000) ≤ W64 (x + d) ∧ W64 (x + d) ≤ a + 2097152000 := by
 rw [Bp (n := x + d) (by omega) (by omega)]; omega
theorem Acv {x a : Int} (h : -a ≤ x ∧ x ≤ a) : -(a + 2097152000) ≤ x ∧ x ≤ a + 2097152000 := by omega
theorem BM.mX {a b : Int} {l : Ae} {i d : Int} (h : BM a b l) (ha : 0 ≤ a ∧ a ≤ 4000000000) (hd : -2097152000 ≤ d ∧ d ≤ 2097152000) : BM (a + 2097152000) b (St.mX l i d) := fun j => by
 unfold St.mX
 show _ ∧ _
 unfold Ag
 rcases Ou (d := Ao Ai) l (Int.toNat i) j ((Ag l (Int.toNat i)).1, (W64 ((Ag l (Int.toNat i)).2.1.1 + d), (Ag l (Int.toNat i)).2.1.2.1, ()), (Ag l (Int.toNat i)).2.2.1, ()) with e | e
 ·have e' := e
  unfold Ag at e'
  rw [e']
  exact ⟨Axf (h (Int.toNat i)).1 ha hd, (h (Int.toNat i)).2⟩
 ·have e' := e
  unfold Ag at e'
  rw [e']
  exact ⟨Acv (h j).1, (h j).2⟩
theorem BM.mY {a b : Int} {l : Ae} {i d : Int} (h : BM a b l) (ha : 0 ≤ b ∧ b ≤ 4000000000) (hd : -2097152000 ≤ d ∧ d ≤ 2097152000) : BM a (b + 2097152000) (St.mY l i d) := fun j => by
 unfold St.mY
 show _ ∧ _
 unfold Ag
 rcases Ou (d := Ao Ai) l (Int.toNat i) j ((Ag l (Int.toNat i)).1, ((Ag l (Int.toNat i)).2.1.1, W64 ((Ag l (Int.toNat i)).2.1.2.1 + d), ()), (Ag l (Int.toNat i)).2.2.1, ()) with e | e
 ·have e' := e
  unfold Ag at e'
  rw [e']
  exact ⟨(h (Int.toNat i)).1, Axf (h (Int.toNat i)).2 ha hd⟩
 ·have e' := e
  unfold Ag at e'
  rw [e']
  exact ⟨(h j).1, Acv (h j).2⟩
theorem Acw {x : Int} (h : -2113929216 ≤ x ∧ x ≤ 2113929216) : Yd x = Aw x (-16777216) 16777216 := by
 unfold Yd Aw
 rw [Bp (n := 0 - x) (by omega) (by omega)]
 by_cases h1 : x < -16777216
 ·rw [decide_eq_true h1, decide_eq_true (show max x (0 - x) > 16777216 by omega)]; rfl
 ·by_cases h2 : 16777216 < x
  ·rw [decide_eq_true h2, decide_eq_true (show max x (0 - x) > 16777216 by omega), Bool.or_true]
  ·rw [decide_eq_false h1, decide_eq_false h2, decide_eq_false (show ¬ max x (0 - x) > 16777216 by omega)]; rfl
theorem Atj {ms : Ae} {w : TCT cBw} {n : Int} (h : SM ms) (hb : BwOk n w) : Afh (skM ms w) w.1 = !Au (Ag (skM ms w) (Int.toNat w.1)).2.1.1 (Ag (skM ms w) (Int.toNat w.1)).2.1.2.1 := by
 have tw := Am3 hb.f hb.z hb.p
 have b : BM (16777216 + 2097152000) (16777216 + 2097152000) (skM ms w) := (BM.mX h.bm (by omega) (Am9 tw.2.1)).mY (by omega) (Am9 tw.2.2)
 have c := b (Int.toNat w.1)
 unfold Afh Au
 rw [Acw (by simpa using c.1), Acw (by simpa using c.2)]
 cases Aw (Ag (skM ms w) (Int.toNat w.1)).2.1.1 (-16777216) 16777216 <;> cases Aw (Ag (skM ms w) (Int.toNat w.1)).2.1.2.1 (-16777216) 16777216 <;> rfl
end St
end V
end Go.Proofs.YtkiaifmbbnnliaaGreat
