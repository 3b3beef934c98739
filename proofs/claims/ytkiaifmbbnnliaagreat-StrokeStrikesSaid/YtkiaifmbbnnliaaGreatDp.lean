import Derived.Test.YtkiaifmbbnnliaaGreatDo
import Derived.Test.YtkiaifmbbnnliaaGreatDa
namespace Go.Proofs.YtkiaifmbbnnliaaGreat
open Go.RowKit
namespace V
namespace St
theorem is_rStrike4 : FnIs Tryz.prog (17, Tryz.f17) := ⟨Tryz.func17, by kernel_rfl, by kernel_rfl⟩
theorem is_rblow4 : FnIs Tryz.prog (61, Tryz.f61) := ⟨Tryz.func61, by kernel_rfl, by kernel_rfl⟩
theorem is_rFollow4 : FnIs Tryz.prog (64, Tryz.f64) := ⟨Tryz.func64, by kernel_rfl, by kernel_rfl⟩
abbrev s_rfol : PureT := spec [cI] [cI] (fun x => decide (0 ≤ x.1 ∧ x.1 ≤ 4)) (fun x => (folV x.1, ()))
noncomputable def X_rfol : Ctx := ctx Tryz.prog [] [(64, Tryz.f64)]
noncomputable def T_rfol (k : Int) : Tree (TCTs [cI]) := evFn X_rfol 6 (.fn 64) (encAs [cI] (k, ())) noHeap 0 (outK Tryz.prog [cI])
theorem rfol_0 : T_rfol 0 = .leaf (0, ()) := by kernel_rfl
theorem rfol_1 : T_rfol 1 = .leaf (150, ()) := by kernel_rfl
theorem rfol_2 : T_rfol 2 = .leaf (500, ()) := by kernel_rfl
theorem rfol_3 : T_rfol 3 = .leaf (900, ()) := by kernel_rfl
theorem rfol_4 : T_rfol 4 = .leaf (0, ()) := by kernel_rfl
theorem rfol_all {k : Int} (h : 0 ≤ k ∧ k ≤ 4) : T_rfol k = .leaf (folV k, ()) := by
  have : k = 0 ∨ k = 1 ∨ k = 2 ∨ k = 3 ∨ k = 4 := by omega
  rcases this with rfl | rfl | rfl | rfl | rfl
  · exact rfol_0
  · exact rfol_1
  · exact rfol_2
  · exact rfol_3
  · exact rfol_4
theorem q_rfol : PureOk Tryz.prog 64 s_rfol := q_by (X := X_rfol) (ctx_ok mixed puOk_nil (fns_cons is_rFollow4 fns_nil)) 6 (fun x => T_rfol x.1) (fun _ => rfl) fun x h _ => by
  show (T_rfol x.1).sat _
  rw [rfol_all (of_decide_eq_true h)]
  exact rfl
theorem dge {a b : Int} : decide (a ≥ b) = !decide (a < b) := by
  by_cases h : a < b
  · rw [decide_eq_true h, decide_eq_false (show ¬ a ≥ b by omega)]; rfl
  · rw [decide_eq_false h, decide_eq_true (show a ≥ b by omega)]; rfl
theorem dle {a b : Int} : decide (a ≤ b) = !decide (a > b) := by
  by_cases h : a > b
  · rw [decide_eq_true h, decide_eq_false (show ¬ a ≤ b by omega)]; rfl
  · rw [decide_eq_false h, decide_eq_true (show a ≤ b by omega)]; rfl
theorem dlt {a b : Int} : decide (a < b) = !decide (a ≥ b) := by rw [dge, Bool.not_not]
theorem u_ck_z (x y : Int) : (u_ck x y == 0) = fpt x y := by unfold u_ck; cases fpt x y <;> rfl
def bwR {β : Type} (n : Int) (w : TCT cBw) (bad go : Tree β) : Tree β := bif decide (w.1 ≥ 0) then bif decide (w.1 < n) then bif u_ck w.2.1.1 w.2.1.2.1 == 0 then bif !(w.2.1.1 == 0 && (w.2.1.2.1 == 0 && true)) then bif decide (w.2.2.1 ≥ 1) then bif decide (w.2.2.1 ≤ 2097152) then bif decide (w.2.2.2.1 ≥ 0) then bif !decide (w.2.2.2.1 ≤ 4) then bad else go else bad else bad else bad else bad else bad else bad else bad
theorem bwR_eq {β : Type} {n : Int} {w : TCT cBw} {bad go : Tree β} : bwR n w bad go = bif bwB n w then bad else go := by
  unfold bwR bwB
  rw [u_ck_z, dge (a := w.1) (b := 0), dlt (a := w.1) (b := n), dge (a := w.2.2.1), dle (a := w.2.2.1), dge (a := w.2.2.2.1), dle (a := w.2.2.2.1)]
  cases decide (w.1 < 0) <;> cases decide (w.1 ≥ n) <;> cases fpt w.2.1.1 w.2.1.2.1 <;> cases w.2.1.1 == 0 && (w.2.1.2.1 == 0 && true) <;> cases decide (w.2.2.1 < 1) <;> cases decide (w.2.2.1 > 2097152) <;> cases decide (w.2.2.2.1 < 0) <;> cases decide (w.2.2.2.1 > 4) <;> rfl
theorem tdiv_bd {x N : Int} (h : -N ≤ x ∧ x ≤ N) : -N ≤ Int.tdiv x 1000 ∧ Int.tdiv x 1000 ≤ N := by
  by_cases hx : 0 ≤ x
  · rw [Int.tdiv_eq_ediv_of_nonneg hx]; omega
  · have e : x = -(-x) := by omega
    rw [e, Int.neg_tdiv, Int.tdiv_eq_ediv_of_nonneg (show 0 ≤ -x by omega)]
    omega
theorem fol_in (k : Int) : folV k = 0 ∨ folV k = 150 ∨ folV k = 500 ∨ folV k = 900 := by
  unfold folV
  cases (1 : Int) == k <;> cases (2 : Int) == k <;> cases (3 : Int) == k <;> simp
theorem fwD_bd {m k : Int} (h : -2097152 ≤ m ∧ m ≤ 2097152) : -2097152000 ≤ fwD m k ∧ fwD m k ≤ 2097152000 := by
  have b : -2097152000 ≤ m * folV k ∧ m * folV k ≤ 2097152000 := by
    rcases fol_in k with e | e | e | e <;> rw [e] <;> omega
  unfold fwD
  generalize m * folV k = x at b
  rw [W64_id (n := x) (by omega) (by omega)]
  have c := tdiv_bd b
  rw [W64_id (by omega) (by omega)]
  exact c
def BM (a b : Int) (l : Mots) : Prop := ∀ j : Nat, (-a ≤ (getM l j).2.1.1 ∧ (getM l j).2.1.1 ≤ a) ∧ (-b ≤ (getM l j).2.1.2.1 ∧ (getM l j).2.1.2.1 ≤ b)
theorem SM.bm {l : Mots} (h : SM l) : BM 16777216 16777216 l := fun j => by
  have := h j
  unfold smB strongB at this
  simp only [Bool.and_eq_true, Bool.not_eq_true'] at this
  exact ⟨out_no this.1, out_no this.2⟩
theorem w_add {x d a : Int} (h : -a ≤ x ∧ x ≤ a) (ha : 0 ≤ a ∧ a ≤ 4000000000) (hd : -2097152000 ≤ d ∧ d ≤ 2097152000) : -(a + 2097152000) ≤ W64 (x + d) ∧ W64 (x + d) ≤ a + 2097152000 := by
  rw [W64_id (n := x + d) (by omega) (by omega)]; omega
theorem le_more {x a : Int} (h : -a ≤ x ∧ x ≤ a) : -(a + 2097152000) ≤ x ∧ x ≤ a + 2097152000 := by omega
theorem BM.mX {a b : Int} {l : Mots} {i d : Int} (h : BM a b l) (ha : 0 ≤ a ∧ a ≤ 4000000000) (hd : -2097152000 ≤ d ∧ d ≤ 2097152000) : BM (a + 2097152000) b (St.mX l i d) := fun j => by
  unfold St.mX
  show _ ∧ _
  unfold getM
  rcases getA_setA2 (d := dflt cMot) l (Int.toNat i) j ((getM l (Int.toNat i)).1, (W64 ((getM l (Int.toNat i)).2.1.1 + d), (getM l (Int.toNat i)).2.1.2.1, ()), (getM l (Int.toNat i)).2.2.1, ()) with e | e
  · have e' := e
    unfold getM at e'
    rw [e']
    exact ⟨w_add (h (Int.toNat i)).1 ha hd, (h (Int.toNat i)).2⟩
  · have e' := e
    unfold getM at e'
    rw [e']
    exact ⟨le_more (h j).1, (h j).2⟩
theorem BM.mY {a b : Int} {l : Mots} {i d : Int} (h : BM a b l) (ha : 0 ≤ b ∧ b ≤ 4000000000) (hd : -2097152000 ≤ d ∧ d ≤ 2097152000) : BM a (b + 2097152000) (St.mY l i d) := fun j => by
  unfold St.mY
  show _ ∧ _
  unfold getM
  rcases getA_setA2 (d := dflt cMot) l (Int.toNat i) j ((getM l (Int.toNat i)).1, ((getM l (Int.toNat i)).2.1.1, W64 ((getM l (Int.toNat i)).2.1.2.1 + d), ()), (getM l (Int.toNat i)).2.2.1, ()) with e | e
  · have e' := e
    unfold getM at e'
    rw [e']
    exact ⟨(h (Int.toNat i)).1, w_add (h (Int.toNat i)).2 ha hd⟩
  · have e' := e
    unfold getM at e'
    rw [e']
    exact ⟨(h j).1, le_more (h j).2⟩
theorem big_out {x : Int} (h : -2113929216 ≤ x ∧ x ≤ 2113929216) : bigB x = outB x (-16777216) 16777216 := by
  unfold bigB outB
  rw [W64_id (n := 0 - x) (by omega) (by omega)]
  by_cases h1 : x < -16777216
  · rw [decide_eq_true h1, decide_eq_true (show max x (0 - x) > 16777216 by omega)]; rfl
  · by_cases h2 : 16777216 < x
    · rw [decide_eq_true h2, decide_eq_true (show max x (0 - x) > 16777216 by omega), Bool.or_true]
    · rw [decide_eq_false h1, decide_eq_false h2, decide_eq_false (show ¬ max x (0 - x) > 16777216 by omega)]; rfl
theorem bigM_eq {ms : Mots} {w : TCT cBw} {n : Int} (h : SM ms) (hb : BwOk n w) : bigM (skM ms w) w.1 = !strongB (getM (skM ms w) (Int.toNat w.1)).2.1.1 (getM (skM ms w) (Int.toNat w.1)).2.1.2.1 := by
  have tw := tw_ok hb.f hb.z hb.p
  have b : BM (16777216 + 2097152000) (16777216 + 2097152000) (skM ms w) := (BM.mX h.bm (by omega) (fwD_bd tw.2.1)).mY (by omega) (fwD_bd tw.2.2)
  have c := b (Int.toNat w.1)
  unfold bigM strongB
  rw [big_out (by simpa using c.1), big_out (by simpa using c.2)]
  cases outB (getM (skM ms w) (Int.toNat w.1)).2.1.1 (-16777216) 16777216 <;> cases outB (getM (skM ms w) (Int.toNat w.1)).2.1.2.1 (-16777216) 16777216 <;> rfl
end St
end V
end Go.Proofs.YtkiaifmbbnnliaaGreat
