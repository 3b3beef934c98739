/- Leave: the values of all scenes. -/
import Derived.Test.YtialgmhhkbdegaaGreatGn
namespace Go.Proofs.YtialgmhhkbdegaaGreat
open Go.RowKit
namespace V
/-- a fold that may fail, or be left -/
def foldX {S α B : Type} (g : S → α → Option (S ⊕ B)) : List α → S → Option (S ⊕ B)
  | [], s => some (.inl s)
  | x :: l, s => match g s x with
    | none => none
    | some (.inl s') => foldX g l s'
    | some (.inr b) => some (.inr b)
def nextX {S B : Type} (y : S ⊕ B) (f : S → Prop) (g : B → Prop) : Prop := match y with
  | .inl s => f s
  | .inr b => g b
section
variable {L : Lay} {E : XE → Lay} {step : L.T → Tree (L.T ⊕ Left' E)} {R : Left' E → Prop} {S α B : Type}
theorem rnds_foldX (l : List α) (head : Nat → S → L.T) (g : S → α → Option (S ⊕ B)) (res : S ⊕ B → Left' E)
    (h1 : ∀ (i : Nat) (s : S) (y : S ⊕ B) (hi : i < l.length) (Q : L.T ⊕ Left' E → Prop), L.WF (head i s) → g s l[i] = some y → nextX y (fun s' => Q (.inl (head (i + 1) s'))) (fun b => Q (.inr (res (.inr b)))) → (step (head i s)).sat Q)
    (h3 : ∀ (s : S) (Q : L.T ⊕ Left' E → Prop), Q (.inr (res (.inl s))) → (step (head l.length s)).sat Q) :
    ∀ (k i : Nat) (s : S) (y : S ⊕ B), i + k = l.length → foldX g (l.drop i) s = some y → R (res y) → Rnds L E step R (k + 1) (head i s)
  | 0, i, s, y, hk, hf, hr => by
    have e : i = l.length := by omega
    subst e
    rw [List.drop_length] at hf
    cases hf
    intro _
    exact h3 s _ (fun _ => hr)
  | k + 1, i, s, y, hk, hf, hr => by
    have hlt : i < l.length := by omega
    intro hw
    rw [List.drop_eq_getElem_cons hlt] at hf
    unfold foldX at hf
    cases hg : g s l[i] with
    | none => rw [hg] at hf; cases hf
    | some z =>
      rw [hg] at hf
      refine h1 i s z hlt _ hw hg ?_
      cases z with
      | inl s' => exact rnds_foldX l head g res h1 h3 k (i + 1) s' y (by omega) hf hr
      | inr b => cases hf; exact fun _ => hr
end
section
variable {L : Lay2} {E : XE → Lay2} {step : L.T → Tree (L.T ⊕ Left2 E)} {R : Left2 E → Prop} {S α B : Type}
theorem rnds2_foldX (l : List α) (head : Nat → S → L.T) (g : S → α → Option (S ⊕ B)) (res : S ⊕ B → Left2 E)
    (h1 : ∀ (i : Nat) (s : S) (y : S ⊕ B) (hi : i < l.length) (Q : L.T ⊕ Left2 E → Prop), L.WF (head i s) → g s l[i] = some y → nextX y (fun s' => Q (.inl (head (i + 1) s'))) (fun b => Q (.inr (res (.inr b)))) → (step (head i s)).sat Q)
    (h3 : ∀ (s : S) (Q : L.T ⊕ Left2 E → Prop), Q (.inr (res (.inl s))) → (step (head l.length s)).sat Q) :
    ∀ (k i : Nat) (s : S) (y : S ⊕ B), i + k = l.length → foldX g (l.drop i) s = some y → R (res y) → Rnds2 L E step R (k + 1) (head i s)
  | 0, i, s, y, hk, hf, hr => by
    have e : i = l.length := by omega
    subst e
    rw [List.drop_length] at hf
    cases hf
    intro _
    exact h3 s _ (fun _ => hr)
  | k + 1, i, s, y, hk, hf, hr => by
    have hlt : i < l.length := by omega
    intro hw
    rw [List.drop_eq_getElem_cons hlt] at hf
    unfold foldX at hf
    cases hg : g s l[i] with
    | none => rw [hg] at hf; cases hf
    | some z =>
      rw [hg] at hf
      refine h1 i s z hlt _ hw hg ?_
      cases z with
      | inl s' => exact rnds2_foldX l head g res h1 h3 k (i + 1) s' y (by omega) hf hr
      | inr b => cases hf; exact fun _ => hr
end
/-! the loop over scenes -/
abbrev cScs : TC := .sl cSc
abbrev kS5 : List SK := [.d cI, .d cI, .d (.sl cI), .d cI, .d cI, .d cI, .d cI, .d cI, .d cI, .d cI, .d cI, .d cI, .d cI, .d cI, .d cI, .q 5]
def bs_lp : List BK := [(2, 30, [.d cI, .d cI]), (3, 39, [.d cI])]
def P_lv : Lay := { keys := [4, 5, 6], ks := [.d cI, .p 2 0 0 0, .p 3 0 0 0], bs := bs_lp, n := 51, nx := 1000, marks := [], dc := [(14, 3)] }
/-- what stays in the loop over scenes -/
structure Cl where
  l0 : List (TCT cSc)
  r : Int
  v1 : Int
  v2 : Int
  e : Int
  x : SKTs kS
  l : List (TCT cSc)
abbrev Sl : Type := List (TCT cC) × Memo
def vOf (b : TCT cB) (m : Memo) (x : TCT cSc) : ROp := VX b (placeF x) m
def g_lv (b : TCT cB) (s : Sl) (x : TCT cSc) : Option (Sl ⊕ Unit) := bif placeOk b x then
  bif (vOf b s.2 x).isSome && appOk s.1 [gv (vOf b s.2 x)] 16 then some (.inl (s.1 ++ [gv (vOf b s.2 x)], gm (vOf b s.2 x))) else none
  else some (.inr ())
noncomputable def X_lv : Ctx := ctxS Tryz.prog plEx [] [] spEx
theorem X_lv_ok : CtxOk X_lv := ctxS_ok mixed puEx fns_nil no_loops spEx_ok
def okX {S B : Type} (y : Option (S ⊕ B)) : Bool := match y with
  | some (.inl _) => true
  | _ => false
def gX {S B : Type} (d : S) (y : Option (S ⊕ B)) : S := match y with
  | some (.inl s) => s
  | _ => d
def s0_lv : Sl := ([], fun _ => none)
def all_lv (b : TCT cB) (l : List (TCT cSc)) (s : Sl) : Option (Sl ⊕ Unit) := foldX (g_lv b) l s
end V
end Go.Proofs.YtialgmhhkbdegaaGreat
