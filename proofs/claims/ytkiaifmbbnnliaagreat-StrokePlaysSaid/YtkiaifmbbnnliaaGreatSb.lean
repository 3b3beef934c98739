import Derived.Test.YtkiaifmbbnnliaaGreatSa
namespace Go.Proofs.YtkiaifmbbnnliaaGreat
open Go.RowKit
namespace V
abbrev Eg : TC := .st [cI, cI]
abbrev SS := List (TCT Aj) × List (TCT Eg)
def bAt (l : List (TCT A4)) (o : List (TCT Aj)) (i : Nat) : Bm := bm (At l i (Aq A4)) (At o i (Aq Aj))
@[irreducible] def Ej (l : List (TCT A4)) (re dr : Int) (i k : Nat) (s : SS) : Option SS :=
 bif (Bw (bAt l s.1 i) (bAt l s.1 k) re dr).2.2.1 == 0 then some (B5 (B5 s.1 i (Bw (bAt l s.1 i) (bAt l s.1 k) re dr).1) k (Bw (bAt l s.1 i) (bAt l s.1 k) re dr).2.1, s.2 ++ [((i : Int), (k : Int), ())]) else
 bif (Bw (bAt l s.1 i) (bAt l s.1 k) re dr).2.2.1 == 4 then none else some s
def inR (l : List (TCT A4)) (re dr : Int) (i : Nat) : Nat → Nat → SS → Option SS
 | 0, _, s => some s
 | f + 1, k, s => (Ej l re dr i k s).bind fun s' => inR l re dr i f (k + 1) s'
def Fo (l : List (TCT A4)) (re dr : Int) : Nat → Nat → SS → Option SS
 | 0, _, s => some s
 | f + 1, i, s => (inR l re dr i (l.length - (i + 1)) (i + 1) s).bind fun s' => Fo l re dr f (i + 1) s'
def okS (x : Option SS) : Bool := match x with
 | some _ => true
 | none => false
def O2 (x : Option SS) : SS := match x with
 | some s => s
 | none => ([], [])
theorem Br {β : Type} (l : List β) (i : Nat) (x : β) : (B5 l i x).length = l.length := by rw [Bo]; simp
theorem Aja {l : List (TCT A4)} {re dr : Int} {i k : Nat} {s s' : SS} (h : Ej l re dr i k s = some s') : s'.1.length = s.1.length ∧ s'.2.length ≤ s.2.length + 1 := by
 unfold Ej at h
 cases h1 : (Bw (bAt l s.1 i) (bAt l s.1 k) re dr).2.2.1 == 0 with
 | true =>
  rw [h1] at h
  simp only [cond_true, Option.some.injEq] at h
  subst h
  simp [Br]
 | false =>
  rw [h1, cond_false] at h
  cases h2 : (Bw (bAt l s.1 i) (bAt l s.1 k) re dr).2.2.1 == 4 with
  | true => rw [h2] at h; simp at h
  | false => rw [h2] at h; simp only [cond_false, Option.some.injEq] at h; subst h; exact ⟨rfl, by omega⟩
theorem A34 {l : List (TCT A4)} {re dr : Int} {i : Nat} (f : Nat) : ∀ (k : Nat) (s s' : SS), inR l re dr i f k s = some s' → s'.1.length = s.1.length ∧ s'.2.length ≤ s.2.length + f := by
 induction f with
 | zero => intro k s s' h; rw [inR, Option.some.injEq] at h; subst h; exact ⟨rfl, by omega⟩
 | succ f ih =>
  intro k s s' h
  rw [inR] at h
  cases h1 : Ej l re dr i k s with
  | none => rw [h1] at h; simp at h
  | some s1 =>
   rw [h1, Option.bind_some] at h
   have a := Aja h1
   have b := ih (k + 1) s1 s' h
   exact ⟨b.1.trans a.1, by omega⟩
noncomputable def Lm : LK := { id := 10, keys := [3, 5, 6, 7, 8, 11, 12], ks := [.p 0 0 0 0, .p 1 0 0 0, .p 2 0 0 0, .p 3 0 0 0, .p 4 0 0 0, .p 6 0 0 0, .p 7 0 0 0], n := 80, fn := 114, params := [34, 35], assign := (rangeAt Tryz.f114 0).1, body := (rangeAt Tryz.f114 0).2, df := 9, st := some 0 }
noncomputable def A10 : LK := { id := 10, keys := [], ks := [], n := 80, fn := 114, params := [34, 35], assign := (rangeAt Tryz.f114 0).1, body := (rangeAt Tryz.f114 0).2, df := 9, st := some 1 }
def Ash : List BK := [(0, 30, [.d (.sl A4)]), (1, 32, [.d cI, .d cI]), (2, 35, [.d (.sl Aj)]), (3, 151, [.d (.sl Eg)]), (4, 44, [.d cI]), (6, 35, [.o 62 Aj]), (7, 151, [.o 154 Eg]), (8, 3, [.d cI])]
def Beo : List BK := [(2, 35, [.d (.sl Aj)]), (3, 151, [.d (.sl Eg)]), (4, 44, [.d cI])]
noncomputable def O3 : Lay2 := { keys := [0, 1, 3, 4, 5, 6], ks := [.y 10, .p 8 0 0 0, .d cI, .d cI, .d cI, .d cI], bs := Ash, ls := [Lm], n := 22, nx := 1000, marks := [], ds := [9] }
noncomputable def P1 : Lay2 := { keys := [0, 1, 5, 6], ks := [.y 10, .p 8 0 0 0, .d cI, .d cI], bs := Ash, ls := [Lm], n := 22, nx := 900, marks := [], ds := [9] }
noncomputable def B8g : Lay2 := { keys := [], ks := [], bs := Beo, ls := [A10], n := 22, nx := 1000, marks := [], ds := [9] }
noncomputable def Wt : XE → Lay2 := fun e => match e with | .ret => B8g | _ => O3
noncomputable def Zh : XE → Lay2 := fun e => match e with | .ret => B8g | _ => P1
noncomputable def A11 : Code := (A8 (bodyOf Tryz.f178)).getD 1 .skip
noncomputable def A7f : Code := (A8 (bodyOf Tryz.f178)).getD 0 .skip
structure Cm where
 l : List (TCT A4)
 re : Int
 dr : Int
 r1 : List (TCT Aj)
 r2 : List (TCT Eg)
 r3 : Int
 m : Int
abbrev BSe := BTs Ash
def bSe (c : Cm) (s : SS) : BSe := ((c.l, ()), (c.re, c.dr, ()), (c.r1, ()), (c.r2, ()), (c.r3, ()), (s.1, ()), (s.2, ()), (c.m, ()), ())
abbrev lSe : LTs [Lm] := (((((), (), (), (), (), (), (), ()) : SKTs Lm.ks), ((() : Unit) : StT Lm.st)), ())
abbrev lSr : LTs [A10] := ((((() : Unit) : SKTs A10.ks), ((() : Unit) : StT A10.st)), ())
def Ig (i k n j : Int) (c : Cm) (s : SS) : O3.T := (((), (), i, k, n, j, ()), bSe c s, lSe)
def Og (n j : Int) (c : Cm) (s : SS) : P1.T := (((), (), n, j, ()), bSe c s, lSe)
def Rs (e : Int) : B8g.T := ((), (([], ()), ([], ()), (e, ()), ()), lSr)
def O4 (l : List (TCT A4)) (o : List (TCT Aj)) (re dr : Int) (i k : Int) : Aju := Bw (bAt l o i.toNat) (bAt l o k.toNat) re dr
def A7g (i k n j : Int) (c : Cm) (s : SS) : Tree (O3.T ⊕ Df Wt) :=
 bif decide (k < c.m) then
 bif decide (0 ≤ i ∧ i < (c.l.length : Int)) then bif decide (0 ≤ i ∧ i < (s.1.length : Int)) then bif decide (i.toNat < s.1.length) then
 bif decide (0 ≤ k ∧ k < (c.l.length : Int)) then bif decide (0 ≤ k ∧ k < (s.1.length : Int)) then bif decide (k.toNat < s.1.length) then
 bif (O4 c.l s.1 c.re c.dr i k).2.2.1 == 0 then
  bif decide (0 ≤ i ∧ i < (s.1.length : Int)) then bif decide (i.toNat < s.1.length) then
  bif decide (0 ≤ k ∧ k < ((B5 s.1 i.toNat (O4 c.l s.1 c.re c.dr i k).1).length : Int)) then bif decide (k.toNat < (B5 s.1 i.toNat (O4 c.l s.1 c.re c.dr i k).1).length) then
  bif Ex s.2 [(i, k, ())] 16 then
   .need (Gp [Lm]) (.leaf (.inl (Ig i (W64 (k + 1)) n j c (B5 (B5 s.1 i.toNat (O4 c.l s.1 c.re c.dr i k).1) k.toNat (O4 c.l s.1 c.re c.dr i k).2.1, s.2 ++ [(i, k, ())])))) else .fail else .fail else .fail else .fail else .fail
 else bif (O4 c.l s.1 c.re c.dr i k).2.2.1 == 4 then .need (Gp [A10]) (.leaf (.inr ⟨.ret, Rs (O4 c.l s.1 c.re c.dr i k).2.2.1⟩)) else .need (Gp [Lm]) (.leaf (.inl (Ig i (W64 (k + 1)) n j c s)))
 else .fail else .fail else .fail else .fail else .fail else .fail
 else .need (Gp [Lm]) (.leaf (.inr ⟨.exit 2, Ig i k n j c s⟩))
def cmI (g : O3.T) : Cm := ⟨g.2.1.1.1, g.2.1.2.1.1, g.2.1.2.1.2.1, g.2.1.2.2.1.1, g.2.1.2.2.2.1.1, g.2.1.2.2.2.2.1.1, g.2.1.2.2.2.2.2.2.2.1.1⟩
def ssI (g : O3.T) : SS := (g.2.1.2.2.2.2.2.1.1, g.2.1.2.2.2.2.2.2.1.1)
def B8h : List (Nat × PureT) := [(153, Qh)]
theorem Bep : By Tryz.prog B8h := A0 is_Bounce.plain Atp Aa
noncomputable def A2m : Ctx := ctx Tryz.prog B8h [(114, Tryz.f114)]
theorem Bif (g : O3.T) : evC Tryz.prog (C4 A2m 7) A2m.pures 178 A2m.u (fun _ => none) A11 (O3.of g) (Fq O3 Wt) = A7g g.1.2.2.1 g.1.2.2.2.1 g.1.2.2.2.2.1 g.1.2.2.2.2.2.1 (cmI g) (ssI g) := by kernel_rfl
theorem Agn (l : List (TCT A4)) (o : List (TCT Aj)) (re dr i k : Int) : O4 l o re dr i k = Bw (bAt l o i.toNat) (bAt l o k.toNat) re dr := by unfold O4; exact Eq.refl _
theorem B3p {β : Type} {h : List β} {x : β} (k : h.length ≤ 1000000) : Ex h [x] 16 = true := by
 rw [Ke]
 refine decide_eq_true ?_
 simp only [List.length_cons, List.length_nil]
 omega
def okI (i k : Int) (c : Cm) (s : SS) : Bool := decide (0 ≤ i ∧ i < (c.l.length : Int) ∧ i + 1 ≤ k ∧ k ≤ c.m ∧ c.m = (c.l.length : Int) ∧ c.l.length ≤ 1000 ∧ s.1.length = c.l.length ∧ s.2.length + (c.m - k).toNat ≤ 1000000)
def Azh (i k n j : Int) (c : Cm) (s : SS) : Tree (Df Wt) :=
 .br (okI i k c s) (.br (okS (inR c.l c.re c.dr i.toNat (c.m - k).toNat k.toNat s)) (.leaf ⟨.exit 2, Ig i c.m n j c (O2 (inR c.l c.re c.dr i.toNat (c.m - k).toNat k.toNat s))⟩) (.leaf ⟨.ret, Rs 4⟩)) .fail
def A35 (g : O3.T) : Tree (Df Wt) := Azh g.1.2.2.1 g.1.2.2.2.1 g.1.2.2.2.2.1 g.1.2.2.2.2.2.1 (cmI g) (ssI g)
theorem A7h (l : List (TCT A4)) (re dr : Int) (i f k : Nat) (s : SS) : inR l re dr i (f + 1) k s = (Ej l re dr i k s).bind fun s' => inR l re dr i f (k + 1) s' := rfl
theorem Azi {step : O3.T → Tree (O3.T ⊕ Df Wt)} (hs : ∀ i k n j c s, step (Ig i k n j c s) = A7g i k n j c s) (R : Df Wt → Prop) (i n j : Int) (c : Cm) (hi : 0 ≤ i) (hil : i < (c.l.length : Int)) (hm : c.m = (c.l.length : Int)) (hl : c.l.length ≤ 1000) (f : Nat) :
  ∀ (k : Int) (s : SS), i + 1 ≤ k → c.m - k = f → s.1.length = c.l.length → s.2.length + f ≤ 1000000 → (okS (inR c.l c.re c.dr i.toNat f k.toNat s) = true → R ⟨.exit 2, Ig i c.m n j c (O2 (inR c.l c.re c.dr i.toNat f k.toNat s))⟩) →
   (okS (inR c.l c.re c.dr i.toNat f k.toNat s) = false → R ⟨.ret, Rs 4⟩) → Td O3 Wt step R (f + 1) (Ig i k n j c s) := by
 induction f with
 | zero =>
  intro k s _ hk _ _ h1 _
  have e : k = c.m := by omega
  subst e
  intro _
  rw [hs]
  unfold A7g
  rw [decide_eq_false (show ¬ c.m < c.m by omega)]
  exact ⟨Ch _, fun _ => h1 rfl⟩
 | succ f ih =>
  intro k s hik hk hsl hsh h1 h2
  intro _
  rw [hs]
  unfold A7g
  rw [A7h] at h1 h2
  have hlt : k < (c.l.length : Int) := by omega
  have hkn : ((k.toNat : Nat) : Int) = k := by omega
  have hin : ((i.toNat : Nat) : Int) = i := by omega
  rw [Agn, decide_eq_true (show k < c.m by omega), decide_eq_true (show 0 ≤ i ∧ i < (c.l.length : Int) from ⟨hi, hil⟩), decide_eq_true (show 0 ≤ i ∧ i < (s.1.length : Int) by omega), decide_eq_true (show i.toNat < s.1.length by omega),
   decide_eq_true (show 0 ≤ k ∧ k < (c.l.length : Int) by omega), decide_eq_true (show 0 ≤ k ∧ k < (s.1.length : Int) by omega), decide_eq_true (show k.toNat < s.1.length by omega), Br, decide_eq_true (show 0 ≤ k ∧ k < (s.1.length : Int) by omega), decide_eq_true (show k.toNat < s.1.length by omega),
   B3p (show s.2.length ≤ 1000000 by omega), show W64 (k + 1) = k + 1 from A5 (by omega) (by omega)]
  have hkt : (k + 1).toNat = k.toNat + 1 := by omega
  cases e1 : (Bw (bAt c.l s.1 i.toNat) (bAt c.l s.1 k.toNat) c.re c.dr).2.2.1 == 0 with
  | true =>
   have hst : Ej c.l c.re c.dr i.toNat k.toNat s = some (B5 (B5 s.1 i.toNat (Bw (bAt c.l s.1 i.toNat) (bAt c.l s.1 k.toNat) c.re c.dr).1) k.toNat (Bw (bAt c.l s.1 i.toNat) (bAt c.l s.1 k.toNat) c.re c.dr).2.1, s.2 ++ [(i, k, ())]) := by
    unfold Ej; rw [e1, hkn, hin]; rfl
   rw [hst, Option.bind_some] at h1 h2
   refine ⟨Ch _, ih (k + 1) _ (by omega) (by omega) (by simp only [Br]; exact hsl) (by simp only [List.length_append, List.length_cons, List.length_nil]; omega) ?_ ?_⟩
   ·rw [hkt]; exact h1
   ·rw [hkt]; exact h2
  | false =>
   cases e2 : (Bw (bAt c.l s.1 i.toNat) (bAt c.l s.1 k.toNat) c.re c.dr).2.2.1 == 4 with
   | true =>
    have hst : Ej c.l c.re c.dr i.toNat k.toNat s = none := by unfold Ej; rw [e1, e2]; rfl
    rw [hst] at h2
    refine ⟨Ch _, fun _ => ?_⟩
    have := h2 rfl
    rwa [← eq_of_beq e2] at this
   | false =>
    have hst : Ej c.l c.re c.dr i.toNat k.toNat s = some s := by unfold Ej; rw [e1, e2]; rfl
    rw [hst, Option.bind_some] at h1 h2
    refine ⟨Ch _, ih (k + 1) _ (by omega) (by omega) hsl (by omega) ?_ ?_⟩
    ·rw [hkt]; exact h1
    ·rw [hkt]; exact h2
theorem Ago : CtxOk A2m := Ad Ab Bep (fns_cons ⟨Tryz.func114, by kernel_rfl, by kernel_rfl⟩ A2)
theorem Big : Ae Tryz.prog 178 A11 (Fr O3 Wt A35) := by
 refine Pe Ago 7 178 (fun _ => none) (fun _ _ f h => by simp at h) O3 Wt (fun e => by cases e <;> exact Nat.le_refl _) A35 (fun g => A7g g.1.2.2.1 g.1.2.2.2.1 g.1.2.2.2.2.1 g.1.2.2.2.2.2.1 (cmI g) (ssI g)) Bif ?_
 intro g R _ hf
 obtain ⟨hf, h0⟩ := hf
 cases hc : okI g.1.2.2.1 g.1.2.2.2.1 (cmI g) (ssI g) with
 | false => exact (h0 hc).elim
 | true =>
  obtain ⟨h1, h2⟩ := hf hc
  obtain ⟨k1, k2, k3, k4, k5, k6, k7, k8⟩ := of_decide_eq_true hc
  exact ⟨_, Azi (fun _ _ _ _ _ _ => rfl) R g.1.2.2.1 g.1.2.2.2.2.1 g.1.2.2.2.2.2.1 (cmI g) k1 k2 k5 k6 ((cmI g).m - g.1.2.2.2.1).toNat g.1.2.2.2.1 (ssI g) k3 (Int.toNat_of_nonneg (Int.sub_nonneg.2 k4)).symm k7 k8 h1 h2⟩
end V
end Go.Proofs.YtkiaifmbbnnliaaGreat
