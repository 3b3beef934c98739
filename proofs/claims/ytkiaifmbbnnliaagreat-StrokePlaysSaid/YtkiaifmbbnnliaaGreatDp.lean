import Derived.Test.YtkiaifmbbnnliaaGreatDo
import Derived.Test.YtkiaifmbbnnliaaGreatDa
namespace Go.Proofs.YtkiaifmbbnnliaaGreat
open Go.RowKit
namespace V
namespace St
theorem is_bB : FnIs Tryz.prog (17, Tryz.f17) := ⟨Tryz.func17, by kernel_rfl, by kernel_rfl⟩
theorem is_bC : FnIs Tryz.prog (61, Tryz.f61) := ⟨Tryz.func61, by kernel_rfl, by kernel_rfl⟩
theorem is_bD : FnIs Tryz.prog (64, Tryz.f64) := ⟨Tryz.func64, by kernel_rfl, by kernel_rfl⟩
abbrev Aqv : PureT := B9 [cI] [cI] (fun x => decide (0 ≤ x.1 ∧ x.1 ≤ 4)) (fun x => (Wf x.1, ()))
noncomputable def Aqw : Ctx := ctx Tryz.prog [] [(64, Tryz.f64)]
noncomputable def M4 (k : Int) : Tree (TCTs [cI]) := C4 Aqw 6 (.fn 64) (Ce [cI] (k, ())) Be 0 (Ft Tryz.prog [cI])
theorem B7f : M4 0 = .leaf (0, ()) := by kernel_rfl
theorem B7g : M4 1 = .leaf (150, ()) := by kernel_rfl
theorem B7h : M4 2 = .leaf (500, ()) := by kernel_rfl
theorem B7i : M4 3 = .leaf (900, ()) := by kernel_rfl
theorem B7j : M4 4 = .leaf (0, ()) := by kernel_rfl
theorem Aqx {k : Int} (h : 0 ≤ k ∧ k ≤ 4) : M4 k = .leaf (Wf k, ()) := by
 have : k = 0 ∨ k = 1 ∨ k = 2 ∨ k = 3 ∨ k = 4 := by omega
 rcases this with rfl | rfl | rfl | rfl | rfl
 ·exact B7f
 ·exact B7g
 ·exact B7h
 ·exact B7i
 ·exact B7j
theorem B7k : A7 Tryz.prog 64 Aqv := B6 (X := Aqw) (Ad Ab Aa (fns_cons is_bD A2)) 6 (fun x => M4 x.1) (fun _ => rfl) fun x h _ => by
 show (M4 x.1).sat _
 rw [Aqx (of_decide_eq_true h)]
 exact rfl
theorem dge {a b : Int} : decide (a ≥ b) = !decide (a < b) := by
 by_cases h : a < b
 ·rw [decide_eq_true h, decide_eq_false (show ¬ a ≥ b by omega)]; rfl
 ·rw [decide_eq_false h, decide_eq_true (show a ≥ b by omega)]; rfl
theorem dle {a b : Int} : decide (a ≤ b) = !decide (a > b) := by
 by_cases h : a > b
 ·rw [decide_eq_true h, decide_eq_false (show ¬ a ≤ b by omega)]; rfl
 ·rw [decide_eq_false h, decide_eq_true (show a ≤ b by omega)]; rfl
theorem dlt {a b : Int} : decide (a < b) = !decide (a ≥ b) := by rw [dge, Bool.not_not]
theorem B7l (x y : Int) : (Lu x y == 0) = fpt x y := by unfold Lu; cases fpt x y <;> rfl
def bwR {β : Type} (n : Int) (w : TCT cBw) (bad go : Tree β) : Tree β := bif decide (w.1 ≥ 0) then bif decide (w.1 < n) then bif Lu w.2.1.1 w.2.1.2.1 == 0 then bif !(w.2.1.1 == 0 && (w.2.1.2.1 == 0 && true)) then bif decide (w.2.2.1 ≥ 1) then bif decide (w.2.2.1 ≤ 2097152) then bif decide (w.2.2.2.1 ≥ 0) then bif !decide (w.2.2.2.1 ≤ 4) then bad else go else bad else bad else bad else bad else bad else bad else bad
theorem B7m {β : Type} {n : Int} {w : TCT cBw} {bad go : Tree β} : bwR n w bad go = bif bwB n w then bad else go := by
 unfold bwR bwB
 rw [B7l, dge (a := w.1) (b := 0), dlt (a := w.1) (b := n), dge (a := w.2.2.1), dle (a := w.2.2.1), dge (a := w.2.2.2.1), dle (a := w.2.2.2.1)]
 cases decide (w.1 < 0) <;> cases decide (w.1 ≥ n) <;> cases fpt w.2.1.1 w.2.1.2.1 <;> cases w.2.1.1 == 0 && (w.2.1.2.1 == 0 && true) <;> cases decide (w.2.2.1 < 1) <;> cases decide (w.2.2.1 > 2097152) <;> cases decide (w.2.2.2.1 < 0) <;> cases decide (w.2.2.2.1 > 4) <;> rfl
theorem Ayd {x N : Int} (h : -N ≤ x ∧ x ≤ N) : -N ≤ Int.tdiv x 1000 ∧ Int.tdiv x 1000 ≤ N := by
 by_cases hx : 0 ≤ x
 ·rw [Int.tdiv_eq_ediv_of_nonneg hx]; omega
 ·have e : x = -(-x) := by omega
  rw [e, Int.neg_tdiv, Int.tdiv_eq_ediv_of_nonneg (show 0 ≤ -x by omega)]
  omega
theorem B7n (k : Int) : Wf k = 0 ∨ Wf k = 150 ∨ Wf k = 500 ∨ Wf k = 900 := by
 unfold Wf
 cases (1 : Int) == k <;> cases (2 : Int) == k <;> cases (3 : Int) == k <;> simp
theorem Aqy {m k : Int} (h : -2097152 ≤ m ∧ m ≤ 2097152) : -2097152000 ≤ fwD m k ∧ fwD m k ≤ 2097152000 := by
 have b : -2097152000 ≤ m * Wf k ∧ m * Wf k ≤ 2097152000 := by
  rcases B7n k with e | e | e | e <;> rw [e] <;> omega
 unfold fwD
 generalize m * Wf k = x at b
 rw [Bv (n := x) (by omega) (by omega)]
 have c := Ayd b
 rw [Bv (by omega) (by omega)]
 exact c
def BM (a b : Int) (l : Af) : Prop := ∀ j : Nat, (-a ≤ (Ai l j).2.1.1 ∧ (Ai l j).2.1.1 ≤ a) ∧ (-b ≤ (Ai l j).2.1.2.1 ∧ (Ai l j).2.1.2.1 ≤ b)
theorem SM.bm {l : Af} (h : SM l) : BM 16777216 16777216 l := fun j => by
 have := h j
 unfold smB Ay at this
 simp only [Bool.and_eq_true, Bool.not_eq_true'] at this
 exact ⟨E8 this.1, E8 this.2⟩
theorem B36 {x d a : Int} (h : -a ≤ x ∧ x ≤ a) (ha : 0 ≤ a ∧ a ≤ 4000000000) (hd : -2097152000 ≤ d ∧ d ≤ 2097152000) : -(a + 2097152000) ≤ W64 (x + d) ∧ W64 (x + d) ≤ a + 2097152000 := by
 rw [Bv (n := x + d) (by omega) (by omega)]; omega
theorem Afv {x a : Int} (h : -a ≤ x ∧ x ≤ a) : -(a + 2097152000) ≤ x ∧ x ≤ a + 2097152000 := by omega
theorem BM.mX {a b : Int} {l : Af} {i d : Int} (h : BM a b l) (ha : 0 ≤ a ∧ a ≤ 4000000000) (hd : -2097152000 ≤ d ∧ d ≤ 2097152000) : BM (a + 2097152000) b (St.mX l i d) := fun j => by
 unfold St.mX
 show _ ∧ _
 unfold Ai
 rcases Ow (d := Aq Aj) l (Int.toNat i) j ((Ai l (Int.toNat i)).1, (W64 ((Ai l (Int.toNat i)).2.1.1 + d), (Ai l (Int.toNat i)).2.1.2.1, ()), (Ai l (Int.toNat i)).2.2.1, ()) with e | e
 ·have e' := e
  unfold Ai at e'
  rw [e']
  exact ⟨B36 (h (Int.toNat i)).1 ha hd, (h (Int.toNat i)).2⟩
 ·have e' := e
  unfold Ai at e'
  rw [e']
  exact ⟨Afv (h j).1, (h j).2⟩
theorem BM.mY {a b : Int} {l : Af} {i d : Int} (h : BM a b l) (ha : 0 ≤ b ∧ b ≤ 4000000000) (hd : -2097152000 ≤ d ∧ d ≤ 2097152000) : BM a (b + 2097152000) (St.mY l i d) := fun j => by
 unfold St.mY
 show _ ∧ _
 unfold Ai
 rcases Ow (d := Aq Aj) l (Int.toNat i) j ((Ai l (Int.toNat i)).1, ((Ai l (Int.toNat i)).2.1.1, W64 ((Ai l (Int.toNat i)).2.1.2.1 + d), ()), (Ai l (Int.toNat i)).2.2.1, ()) with e | e
 ·have e' := e
  unfold Ai at e'
  rw [e']
  exact ⟨(h (Int.toNat i)).1, B36 (h (Int.toNat i)).2 ha hd⟩
 ·have e' := e
  unfold Ai at e'
  rw [e']
  exact ⟨(h j).1, Afv (h j).2⟩
theorem Afw {x : Int} (h : -2113929216 ≤ x ∧ x ≤ 2113929216) : Ayb x = Az x (-16777216) 16777216 := by
 unfold Ayb Az
 rw [Bv (n := 0 - x) (by omega) (by omega)]
 by_cases h1 : x < -16777216
 ·rw [decide_eq_true h1, decide_eq_true (show max x (0 - x) > 16777216 by omega)]; rfl
 ·by_cases h2 : 16777216 < x
  ·rw [decide_eq_true h2, decide_eq_true (show max x (0 - x) > 16777216 by omega), Bool.or_true]
  ·rw [decide_eq_false h1, decide_eq_false h2, decide_eq_false (show ¬ max x (0 - x) > 16777216 by omega)]; rfl
theorem Aye {ms : Af} {w : TCT cBw} {n : Int} (h : SM ms) (hb : BwOk n w) : B7e (skM ms w) w.1 = !Ay (Ai (skM ms w) (Int.toNat w.1)).2.1.1 (Ai (skM ms w) (Int.toNat w.1)).2.1.2.1 := by
 have tw := B35 hb.f hb.z hb.p
 have b : BM (16777216 + 2097152000) (16777216 + 2097152000) (skM ms w) := (BM.mX h.bm (by omega) (Aqy tw.2.1)).mY (by omega) (Aqy tw.2.2)
 have c := b (Int.toNat w.1)
 unfold B7e Ay
 rw [Afw (by simpa using c.1), Afw (by simpa using c.2)]
 cases Az (Ai (skM ms w) (Int.toNat w.1)).2.1.1 (-16777216) 16777216 <;> cases Az (Ai (skM ms w) (Int.toNat w.1)).2.1.2.1 (-16777216) 16777216 <;> rfl
end St
end V
end Go.Proofs.YtkiaifmbbnnliaaGreat
