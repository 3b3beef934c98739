/- Leave: the values of all scenes. -/
import Derived.Test.YtdblbofagfhlbaaGn
namespace Go.Proofs.Ytdblbofagfhlbaa
open Go.RowKit
namespace V
/-- a fold that may fail, or be left -/
def foldX {S α B : Type} (g : S → α → Option (S ⊕ B)) : List α → S → Option (S ⊕ B)
  | [], s => some (.inl s)
  | x :: l, s => match g s x with
    | none => none
    | some (.inl s') => foldX g l s'
    | some (.inr b) => some (.inr b)
def nextX {S B : Type} (y : S ⊕ B) (f : S → Prop) (g : B → Prop) : Prop := match y with
  | .inl s => f s
  | .inr b => g b
section
variable {L : Lay} {E : XE → Lay} {step : L.T → Tree (L.T ⊕ Left' E)} {R : Left' E → Prop} {S α B : Type}
theorem rnds_foldX (l : List α) (head : Nat → S → L.T) (g : S → α → Option (S ⊕ B)) (res : S ⊕ B → Left' E)
    (h1 : ∀ (i : Nat) (s : S) (y : S ⊕ B) (hi : i < l.length) (Q : L.T ⊕ Left' E → Prop), L.WF (head i s) → g s l[i] = some y → nextX y (fun s' => Q (.inl (head (i + 1) s'))) (fun b => Q (.inr (res (.inr b)))) → (step (head i s)).sat Q)
    (h3 : ∀ (s : S) (Q : L.T ⊕ Left' E → Prop), Q (.inr (res (.inl s))) → (step (head l.length s)).sat Q) :
    ∀ (k i : Nat) (s : S) (y : S ⊕ B), i + k = l.length → foldX g (l.drop i) s = some y → R (res y) → Rnds L E step R (k + 1) (head i s)
  | 0, i, s, y, hk, hf, hr => by
    have e : i = l.length := by omega
    subst e
    rw [List.drop_length] at hf
    cases hf
    intro _
    exact h3 s _ (fun _ => hr)
  | k + 1, i, s, y, hk, hf, hr => by
    have hlt : i < l.length := by omega
    intro hw
    rw [List.drop_eq_getElem_cons hlt] at hf
    unfold foldX at hf
    cases hg : g s l[i] with
    | none => rw [hg] at hf; cases hf
    | some z =>
      rw [hg] at hf
      refine h1 i s z hlt _ hw hg ?_
      cases z with
      | inl s' => exact rnds_foldX l head g res h1 h3 k (i + 1) s' y (by omega) hf hr
      | inr b => cases hf; exact fun _ => hr
end
section
variable {L : Lay2} {E : XE → Lay2} {step : L.T → Tree (L.T ⊕ Left2 E)} {R : Left2 E → Prop} {S α B : Type}
theorem rnds2_foldX (l : List α) (head : Nat → S → L.T) (g : S → α → Option (S ⊕ B)) (res : S ⊕ B → Left2 E)
    (h1 : ∀ (i : Nat) (s : S) (y : S ⊕ B) (hi : i < l.length) (Q : L.T ⊕ Left2 E → Prop), L.WF (head i s) → g s l[i] = some y → nextX y (fun s' => Q (.inl (head (i + 1) s'))) (fun b => Q (.inr (res (.inr b)))) → (step (head i s)).sat Q)
    (h3 : ∀ (s : S) (Q : L.T ⊕ Left2 E → Prop), Q (.inr (res (.inl s))) → (step (head l.length s)).sat Q) :
    ∀ (k i : Nat) (s : S) (y : S ⊕ B), i + k = l.length → foldX g (l.drop i) s = some y → R (res y) → Rnds2 L E step R (k + 1) (head i s)
  | 0, i, s, y, hk, hf, hr => by
    have e : i = l.length := by omega
    subst e
    rw [List.drop_length] at hf
    cases hf
    intro _
    exact h3 s _ (fun _ => hr)
  | k + 1, i, s, y, hk, hf, hr => by
    have hlt : i < l.length := by omega
    intro hw
    rw [List.drop_eq_getElem_cons hlt] at hf
    unfold foldX at hf
    cases hg : g s l[i] with
    | none => rw [hg] at hf; cases hf
    | some z =>
      rw [hg] at hf
      refine h1 i s z hlt _ hw hg ?_
      cases z with
      | inl s' => exact rnds2_foldX l head g res h1 h3 k (i + 1) s' y (by omega) hf hr
      | inr b => cases hf; exact fun _ => hr
end
/-! the loop over scenes -/
theorem is_tLeave : FnIs Try.prog (21, Try.f21) := ⟨Try.func21, by kernel_rfl, by kernel_rfl⟩
theorem is_Leave1 : FnIs Try.prog (52, Try.f52) := ⟨Try.func52, by kernel_rfl, by kernel_rfl⟩
theorem is_Leave2 : FnIs Try.prog (54, Try.f54) := ⟨Try.func54, by kernel_rfl, by kernel_rfl⟩
theorem is_firstI : FnIs Try.prog (53, Try.f53) := ⟨Try.func53, by kernel_rfl, by kernel_rfl⟩
abbrev cScs : TC := .sl cSc
abbrev kS5 : List SK := [.d cI, .d cI, .d (.sl cI), .d cI, .d cI, .d cI, .d cI, .d cI, .d cI, .d cI, .d cI, .d cI, .d cI, .d cI, .d cI, .q 5]
noncomputable def lb_lv : Code := (loopsOf (bodyOf Try.f21)).getD 0 .skip
def bs_lv : List BK := [(1, 46, [.d cScs]), (2, 24, [.d cI, .d cI]), (3, 25, [.d cI]), (5, 0, [.m cP cC]), (6, 124, kS5), (7, 50, [.o 24 cC])]
def L_lv : Lay := { keys := [3, 4, 5, 6, 7, 8, 24, 25, 26], ks := [.p 1 0 0 0, .d cI, .p 2 0 0 0, .p 3 0 0 0, .p 6 0 0 0, .p 7 0 0 0, .d cScs, .d cI, .d cI], bs := bs_lv, n := 51, nx := 1000, marks := [], dc := [(47, 3)] }
def R_lv : Lay := { keys := [3, 4, 5, 6, 7, 8], ks := [.p 1 0 0 0, .d cI, .p 2 0 0 0, .p 3 0 0 0, .p 6 0 0 0, .p 7 0 0 0], bs := bs_lv, n := 51, nx := 1000, marks := [], dc := [(47, 3)] }
def bs_lp : List BK := [(2, 24, [.d cI, .d cI]), (3, 25, [.d cI])]
def P_lv : Lay := { keys := [4, 5, 6], ks := [.d cI, .p 2 0 0 0, .p 3 0 0 0], bs := bs_lp, n := 51, nx := 1000, marks := [], dc := [(47, 3)] }
def E_lv : XE → Lay
  | .panic _ => P_lv
  | _ => R_lv
/-- what stays in the loop over scenes -/
structure Cl where
  l0 : List (TCT cSc)
  r : Int
  v1 : Int
  v2 : Int
  e : Int
  x : SKTs kS
  l : List (TCT cSc)
abbrev Sl : Type := List (TCT cC) × Memo
def bsl (c : Cl) (s : Sl) : BTs bs_lv := ((c.l0, ()), (c.v1, c.v2, ()), (c.e, ()), (s.2, ()), c.x, (s.1, ()), ())
def hd_lv (c : Cl) (n i : Int) (s : Sl) : L_lv.T := (((), c.r, (), (), (), (), c.l, n, i, ()), bsl c s)
def dn_lv (c : Cl) (s : Sl) : R_lv.T := (((), c.r, (), (), (), (), ()), bsl c s)
def ex_lv (c : Cl) (s : Sl) : Left' E_lv := ⟨.exit 1, dn_lv c s⟩
def pn_lv (c : Cl) : Left' E_lv := ⟨.panic (.ifc 25 (.int .i64 3)), ((c.r, (), (), ()), (c.v1, c.v2, ()), (c.e, ()), ())⟩
def res_lv (c : Cl) : Sl ⊕ Unit → Left' E_lv
  | .inl s => ex_lv c s
  | .inr _ => pn_lv c
def vOf (b : TCT cB) (m : Memo) (x : TCT cSc) : ROp := VX b (placeF x) m
def g_lv (b : TCT cB) (s : Sl) (x : TCT cSc) : Option (Sl ⊕ Unit) := bif placeOk b x then
  bif (vOf b s.2 x).isSome && appOk s.1 [gv (vOf b s.2 x)] 16 then some (.inl (s.1 ++ [gv (vOf b s.2 x)], gm (vOf b s.2 x))) else none
  else some (.inr ())
def row_lv (c : Cl) (n i : Int) (s : Sl) (x : TCT cSc) : Tree (L_lv.T ⊕ Left' E_lv) := bif placeOk (brd c.x) x then
  bif (vOf (brd c.x) s.2 x).isSome then bif appOk s.1 [gv (vOf (brd c.x) s.2 x)] 16 then .leaf (.inl (hd_lv c n (W64 (i + 1)) (s.1 ++ [gv (vOf (brd c.x) s.2 x)], gm (vOf (brd c.x) s.2 x)))) else .fail else .fail
  else .leaf (.inr (pn_lv c))
def st_lv (c : Cl) (n i : Int) (s : Sl) : Tree (L_lv.T ⊕ Left' E_lv) :=
  bif decide (i < n) then bif decide (0 ≤ i ∧ i < (c.l.length : Int)) then row_lv c n i s (getA c.l i.toNat (dflt cSc)) else .fail else .leaf (.inr (ex_lv c s))
def cl_lv (g : L_lv.T) : Cl := ⟨g.2.1.1, g.1.2.1, g.2.2.1.1, g.2.2.1.2.1, g.2.2.2.1.1, g.2.2.2.2.2.1, g.1.2.2.2.2.2.2.1⟩
def sl_lv (g : L_lv.T) : Sl := (g.2.2.2.2.2.2.1.1, g.2.2.2.2.1.1)
noncomputable def X_lv : Ctx := ctxS Try.prog plEx [] [] spEx
theorem X_lv_ok : CtxOk X_lv := ctxS_ok mixed puEx fns_nil no_loops spEx_ok
theorem e_lv (g : L_lv.T) : evC Try.prog (evFn X_lv 7) X_lv.pures 21 X_lv.u (fun _ => none) lb_lv (L_lv.of g) (stepOut L_lv E_lv) = st_lv (cl_lv g) g.1.2.2.2.2.2.2.2.1 g.1.2.2.2.2.2.2.2.2.1 (sl_lv g) := by kernel_rfl
def okX {S B : Type} (y : Option (S ⊕ B)) : Bool := match y with
  | some (.inl _) => true
  | _ => false
def gX {S B : Type} (d : S) (y : Option (S ⊕ B)) : S := match y with
  | some (.inl s) => s
  | _ => d
def s0_lv : Sl := ([], fun _ => none)
def all_lv (b : TCT cB) (l : List (TCT cSc)) (s : Sl) : Option (Sl ⊕ Unit) := foldX (g_lv b) l s
def fin_lv' (c : Cl) (n i : Int) (s : Sl) : Tree (Left' E_lv) :=
  .br (atHead n i c.l && (all_lv (brd c.x) c.l s).isSome) (.br (okX (all_lv (brd c.x) c.l s)) (.leaf (ex_lv c (gX s0_lv (all_lv (brd c.x) c.l s)))) (.leaf (pn_lv c))) .fail
def fin_lv (g : L_lv.T) : Tree (Left' E_lv) := fin_lv' (cl_lv g) g.1.2.2.2.2.2.2.2.1 g.1.2.2.2.2.2.2.2.2.1 (sl_lv g)
theorem g_lv_row {c : Cl} {n : Int} {i : Nat} {s : Sl} {x : TCT cSc} {y : Sl ⊕ Unit} (hw1 : W64 ((i : Int) + 1) = ((i + 1 : Nat) : Int)) {Q : L_lv.T ⊕ Left' E_lv → Prop} (hQ : nextX y (fun s' => Q (.inl (hd_lv c n ((i + 1 : Nat) : Int) s'))) (fun b => Q (.inr (res_lv c (.inr b))))) (h : g_lv (brd c.x) s x = some y) : (row_lv c n i s x).sat Q := by
  unfold g_lv at h
  unfold row_lv
  cases hp : placeOk (brd c.x) x with
  | false =>
    rw [hp] at h
    cases h
    exact hQ
  | true =>
    rw [hp, cond_true] at h
    rw [cond_true]
    cases ho : (vOf (brd c.x) s.2 x).isSome && appOk s.1 [gv (vOf (brd c.x) s.2 x)] 16 with
    | false => rw [ho] at h; cases h
    | true =>
      rw [ho] at h
      cases h
      rw [Bool.and_eq_true] at ho
      rw [ho.1, ho.2, hw1]
      exact hQ
theorem l_lv : LoopOk Try.prog 21 lb_lv (loopSum L_lv E_lv fin_lv) := by
  refine loopOk_of (X := X_lv) X_lv_ok 7 21 (fun _ => none) (fun _ _ f h => by simp at h) L_lv E_lv (fun e => by cases e <;> exact Nat.le_refl _) fin_lv (fun g => st_lv (cl_lv g) g.1.2.2.2.2.2.2.2.1 g.1.2.2.2.2.2.2.2.2.1 (sl_lv g)) e_lv ?_
  rintro ⟨⟨⟨⟩, r, ⟨⟩, ⟨⟩, ⟨⟩, ⟨⟩, l, n, i, ⟨⟩⟩, ⟨l0, ⟨⟩⟩, ⟨v1, v2, ⟨⟩⟩, ⟨e, ⟨⟩⟩, ⟨m, ⟨⟩⟩, x, ⟨vs, ⟨⟩⟩, ⟨⟩⟩ R hw hf
  obtain ⟨hf, h0⟩ := hf
  have hlen := wfl_len hw.1.2.2.2.2.2.2.1
  change (atHead n i l && (all_lv (brd x) l (vs, m)).isSome) = true → (okX (all_lv (brd x) l (vs, m)) = true → R (ex_lv ⟨l0, r, v1, v2, e, x, l⟩ (gX s0_lv (all_lv (brd x) l (vs, m))))) ∧ (okX (all_lv (brd x) l (vs, m)) = false → R (pn_lv ⟨l0, r, v1, v2, e, x, l⟩)) at hf
  change (atHead n i l && (all_lv (brd x) l (vs, m)).isSome) = false → False at h0
  cases ha : atHead n i l with
  | false => exact (h0 (by rw [ha]; rfl)).elim
  | true =>
    obtain ⟨rfl, rfl⟩ := of_decide_eq_true ha
    cases hr : all_lv (brd x) l (vs, m) with
    | none => exact (h0 (by rw [ha, hr]; rfl)).elim
    | some y =>
      have hf := hf (by rw [ha, hr]; rfl)
      rw [hr] at hf
      have hR : R (res_lv ⟨l0, r, v1, v2, e, x, l⟩ y) := by
        cases y with
        | inl s => exact hf.1 rfl
        | inr b => exact hf.2 rfl
      refine ⟨_, rnds_foldX l (fun (i : Nat) s => hd_lv ⟨l0, r, v1, v2, e, x, l⟩ l.length (i : Int) s) (g_lv (brd x)) (res_lv ⟨l0, r, v1, v2, e, x, l⟩) ?_ ?_ l.length 0 (vs, m) y (by omega) (by rw [List.drop_zero]; exact hr) hR⟩
      · intro i s y hi Q _ hg hQ
        show (st_lv ⟨l0, r, v1, v2, e, x, l⟩ l.length i s).sat Q
        unfold st_lv
        rw [decide_eq_true (show (i : Int) < l.length by omega), cond_true]
        rw [decide_eq_true (show 0 ≤ (i : Int) ∧ (i : Int) < l.length by omega), cond_true]
        have ht : (i : Int).toNat = i := by omega
        rw [ht, getA_lt hi]
        exact g_lv_row (c := ⟨l0, r, v1, v2, e, x, l⟩) (W64_succ hi hlen) hQ hg
      · intro s Q hQ
        show (st_lv ⟨l0, r, v1, v2, e, x, l⟩ l.length l.length s).sat Q
        unfold st_lv
        rw [decide_eq_false (show ¬ (l.length : Int) < l.length by omega)]
        exact hQ
end V
end Go.Proofs.Ytdblbofagfhlbaa
