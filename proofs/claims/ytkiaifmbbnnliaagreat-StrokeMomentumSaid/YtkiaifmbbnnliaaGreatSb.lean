import Derived.Test.YtkiaifmbbnnliaaGreatSa
namespace Go.Proofs.YtkiaifmbbnnliaaGreat
open Go.RowKit
namespace V
abbrev Ea : TC := .st [cI, cI]
abbrev SS := List (TCT Ai) × List (TCT Ea)
def bAt (l : List (TCT A3)) (o : List (TCT Ai)) (i : Nat) : Bm := bm (Aq l i (Ao A3)) (Aq o i (Ao Ai))
@[irreducible] def Dh (l : List (TCT A3)) (re dr : Int) (i k : Nat) (s : SS) : Option SS :=
 bif (B7 (bAt l s.1 i) (bAt l s.1 k) re dr).2.2.1 == 0 then some (B1 (B1 s.1 i (B7 (bAt l s.1 i) (bAt l s.1 k) re dr).1) k (B7 (bAt l s.1 i) (bAt l s.1 k) re dr).2.1, s.2 ++ [((i : Int), (k : Int), ())]) else
 bif (B7 (bAt l s.1 i) (bAt l s.1 k) re dr).2.2.1 == 4 then none else some s
def inR (l : List (TCT A3)) (re dr : Int) (i : Nat) : Nat → Nat → SS → Option SS
 | 0, _, s => some s
 | f + 1, k, s => (Dh l re dr i k s).bind fun s' => inR l re dr i f (k + 1) s'
def Em (l : List (TCT A3)) (re dr : Int) : Nat → Nat → SS → Option SS
 | 0, _, s => some s
 | f + 1, i, s => (inR l re dr i (l.length - (i + 1)) (i + 1) s).bind fun s' => Em l re dr f (i + 1) s'
def okS (x : Option SS) : Bool := match x with
 | some _ => true
 | none => false
def O0 (x : Option SS) : SS := match x with
 | some s => s
 | none => ([], [])
theorem Be {β : Type} (l : List β) (i : Nat) (x : β) : (B1 l i x).length = l.length := by rw [Bc]; simp
theorem Afq {l : List (TCT A3)} {re dr : Int} {i k : Nat} {s s' : SS} (h : Dh l re dr i k s = some s') : s'.1.length = s.1.length ∧ s'.2.length ≤ s.2.length + 1 := by
 unfold Dh at h
 cases h1 : (B7 (bAt l s.1 i) (bAt l s.1 k) re dr).2.2.1 == 0 with
 | true =>
  rw [h1] at h
  simp only [cond_true, Option.some.injEq] at h
  subst h
  simp [Be]
 | false =>
  rw [h1, cond_false] at h
  cases h2 : (B7 (bAt l s.1 i) (bAt l s.1 k) re dr).2.2.1 == 4 with
  | true => rw [h2] at h; simp at h
  | false => rw [h2] at h; simp only [cond_false, Option.some.injEq] at h; subst h; exact ⟨rfl, by omega⟩
theorem A1x {l : List (TCT A3)} {re dr : Int} {i : Nat} (f : Nat) : ∀ (k : Nat) (s s' : SS), inR l re dr i f k s = some s' → s'.1.length = s.1.length ∧ s'.2.length ≤ s.2.length + f := by
 induction f with
 | zero => intro k s s' h; rw [inR, Option.some.injEq] at h; subst h; exact ⟨rfl, by omega⟩
 | succ f ih =>
  intro k s s' h
  rw [inR] at h
  cases h1 : Dh l re dr i k s with
  | none => rw [h1] at h; simp at h
  | some s1 =>
   rw [h1, Option.bind_some] at h
   have a := Afq h1
   have b := ih (k + 1) s1 s' h
   exact ⟨b.1.trans a.1, by omega⟩
noncomputable def Lf : LK := { id := 10, keys := [3, 5, 6, 7, 8, 11, 12], ks := [.p 0 0 0 0, .p 1 0 0 0, .p 2 0 0 0, .p 3 0 0 0, .p 4 0 0 0, .p 6 0 0 0, .p 7 0 0 0], n := 80, fn := 114, params := [34, 35], assign := (rangeAt Tryz.f114 0).1, body := (rangeAt Tryz.f114 0).2, df := 9, st := some 0 }
noncomputable def Zv : LK := { id := 10, keys := [], ks := [], n := 80, fn := 114, params := [34, 35], assign := (rangeAt Tryz.f114 0).1, body := (rangeAt Tryz.f114 0).2, df := 9, st := some 1 }
def Anf : List BK := [(0, 30, [.d (.sl A3)]), (1, 32, [.d cI, .d cI]), (2, 35, [.d (.sl Ai)]), (3, 151, [.d (.sl Ea)]), (4, 44, [.d cI]), (6, 35, [.o 62 Ai]), (7, 151, [.o 154 Ea]), (8, 3, [.d cI])]
def B6i : List BK := [(2, 35, [.d (.sl Ai)]), (3, 151, [.d (.sl Ea)]), (4, 44, [.d cI])]
noncomputable def O1 : Lay2 := { keys := [0, 1, 3, 4, 5, 6], ks := [.y 10, .p 8 0 0 0, .d cI, .d cI, .d cI, .d cI], bs := Anf, ls := [Lf], n := 22, nx := 1000, marks := [], ds := [9] }
noncomputable def Ow : Lay2 := { keys := [0, 1, 5, 6], ks := [.y 10, .p 8 0 0 0, .d cI, .d cI], bs := Anf, ls := [Lf], n := 22, nx := 900, marks := [], ds := [9] }
noncomputable def B1j : Lay2 := { keys := [], ks := [], bs := B6i, ls := [Zv], n := 22, nx := 1000, marks := [], ds := [9] }
noncomputable def Vu : XE → Lay2 := fun e => match e with | .ret => B1j | _ => O1
noncomputable def Yf : XE → Lay2 := fun e => match e with | .ret => B1j | _ => Ow
noncomputable def Zw : Code := (A8 (bodyOf Tryz.f178)).getD 1 .skip
noncomputable def A5y : Code := (A8 (bodyOf Tryz.f178)).getD 0 .skip
structure Cm where
 l : List (TCT A3)
 re : Int
 dr : Int
 r1 : List (TCT Ai)
 r2 : List (TCT Ea)
 r3 : Int
 m : Int
abbrev BSe := BTs Anf
def bSe (c : Cm) (s : SS) : BSe := ((c.l, ()), (c.re, c.dr, ()), (c.r1, ()), (c.r2, ()), (c.r3, ()), (s.1, ()), (s.2, ()), (c.m, ()), ())
abbrev lSe : LTs [Lf] := (((((), (), (), (), (), (), (), ()) : SKTs Lf.ks), ((() : Unit) : StT Lf.st)), ())
abbrev lSr : LTs [Zv] := ((((() : Unit) : SKTs Zv.ks), ((() : Unit) : StT Zv.st)), ())
def Ig (i k n j : Int) (c : Cm) (s : SS) : O1.T := (((), (), i, k, n, j, ()), bSe c s, lSe)
def Og (n j : Int) (c : Cm) (s : SS) : Ow.T := (((), (), n, j, ()), bSe c s, lSe)
def Rs (e : Int) : B1j.T := ((), (([], ()), ([], ()), (e, ()), ()), lSr)
def O2 (l : List (TCT A3)) (o : List (TCT Ai)) (re dr : Int) (i k : Int) : Aga := B7 (bAt l o i.toNat) (bAt l o k.toNat) re dr
def A5z (i k n j : Int) (c : Cm) (s : SS) : Tree (O1.T ⊕ F7 Vu) :=
 bif decide (k < c.m) then
 bif decide (0 ≤ i ∧ i < (c.l.length : Int)) then bif decide (0 ≤ i ∧ i < (s.1.length : Int)) then bif decide (i.toNat < s.1.length) then
 bif decide (0 ≤ k ∧ k < (c.l.length : Int)) then bif decide (0 ≤ k ∧ k < (s.1.length : Int)) then bif decide (k.toNat < s.1.length) then
 bif (O2 c.l s.1 c.re c.dr i k).2.2.1 == 0 then
  bif decide (0 ≤ i ∧ i < (s.1.length : Int)) then bif decide (i.toNat < s.1.length) then
  bif decide (0 ≤ k ∧ k < ((B1 s.1 i.toNat (O2 c.l s.1 c.re c.dr i k).1).length : Int)) then bif decide (k.toNat < (B1 s.1 i.toNat (O2 c.l s.1 c.re c.dr i k).1).length) then
  bif Ey s.2 [(i, k, ())] 16 then
   .need (Mo [Lf]) (.leaf (.inl (Ig i (W64 (k + 1)) n j c (B1 (B1 s.1 i.toNat (O2 c.l s.1 c.re c.dr i k).1) k.toNat (O2 c.l s.1 c.re c.dr i k).2.1, s.2 ++ [(i, k, ())])))) else .fail else .fail else .fail else .fail else .fail
 else bif (O2 c.l s.1 c.re c.dr i k).2.2.1 == 4 then .need (Mo [Zv]) (.leaf (.inr ⟨.ret, Rs (O2 c.l s.1 c.re c.dr i k).2.2.1⟩)) else .need (Mo [Lf]) (.leaf (.inl (Ig i (W64 (k + 1)) n j c s)))
 else .fail else .fail else .fail else .fail else .fail else .fail
 else .need (Mo [Lf]) (.leaf (.inr ⟨.exit 2, Ig i k n j c s⟩))
def cmI (g : O1.T) : Cm := ⟨g.2.1.1.1, g.2.1.2.1.1, g.2.1.2.1.2.1, g.2.1.2.2.1.1, g.2.1.2.2.2.1.1, g.2.1.2.2.2.2.1.1, g.2.1.2.2.2.2.2.2.2.1.1⟩
def ssI (g : O1.T) : SS := (g.2.1.2.2.2.2.2.1.1, g.2.1.2.2.2.2.2.2.1.1)
def B1k : List (Nat × PureT) := [(153, Qc)]
theorem B6j : Bu Tryz.prog B1k := A0 is_Bounce.plain Aoq A9
noncomputable def A1e : Ctx := ctx Tryz.prog B1k [(114, Tryz.f114)]
theorem B9s (g : O1.T) : evC Tryz.prog (Ch A1e 7) A1e.pures 178 A1e.u (fun _ => none) Zw (O1.of g) (J1 O1 Vu) = A5z g.1.2.2.1 g.1.2.2.2.1 g.1.2.2.2.2.1 g.1.2.2.2.2.2.1 (cmI g) (ssI g) := by kernel_rfl
theorem Add (l : List (TCT A3)) (o : List (TCT Ai)) (re dr i k : Int) : O2 l o re dr i k = B7 (bAt l o i.toNat) (bAt l o k.toNat) re dr := by unfold O2; exact Eq.refl _
theorem Axs {β : Type} {h : List β} {x : β} (k : h.length ≤ 1000000) : Ey h [x] 16 = true := by
 rw [Ka]
 refine decide_eq_true ?_
 simp only [List.length_cons, List.length_nil]
 omega
def okI (i k : Int) (c : Cm) (s : SS) : Bool := decide (0 ≤ i ∧ i < (c.l.length : Int) ∧ i + 1 ≤ k ∧ k ≤ c.m ∧ c.m = (c.l.length : Int) ∧ c.l.length ≤ 1000 ∧ s.1.length = c.l.length ∧ s.2.length + (c.m - k).toNat ≤ 1000000)
def Aue (i k n j : Int) (c : Cm) (s : SS) : Tree (F7 Vu) :=
 .br (okI i k c s) (.br (okS (inR c.l c.re c.dr i.toNat (c.m - k).toNat k.toNat s)) (.leaf ⟨.exit 2, Ig i c.m n j c (O0 (inR c.l c.re c.dr i.toNat (c.m - k).toNat k.toNat s))⟩) (.leaf ⟨.ret, Rs 4⟩)) .fail
def A1y (g : O1.T) : Tree (F7 Vu) := Aue g.1.2.2.1 g.1.2.2.2.1 g.1.2.2.2.2.1 g.1.2.2.2.2.2.1 (cmI g) (ssI g)
theorem A60 (l : List (TCT A3)) (re dr : Int) (i f k : Nat) (s : SS) : inR l re dr i (f + 1) k s = (Dh l re dr i k s).bind fun s' => inR l re dr i f (k + 1) s' := rfl
theorem Auf {step : O1.T → Tree (O1.T ⊕ F7 Vu)} (hs : ∀ i k n j c s, step (Ig i k n j c s) = A5z i k n j c s) (R : F7 Vu → Prop) (i n j : Int) (c : Cm) (hi : 0 ≤ i) (hil : i < (c.l.length : Int)) (hm : c.m = (c.l.length : Int)) (hl : c.l.length ≤ 1000) (f : Nat) :
  ∀ (k : Int) (s : SS), i + 1 ≤ k → c.m - k = f → s.1.length = c.l.length → s.2.length + f ≤ 1000000 → (okS (inR c.l c.re c.dr i.toNat f k.toNat s) = true → R ⟨.exit 2, Ig i c.m n j c (O0 (inR c.l c.re c.dr i.toNat f k.toNat s))⟩) →
   (okS (inR c.l c.re c.dr i.toNat f k.toNat s) = false → R ⟨.ret, Rs 4⟩) → A7f O1 Vu step R (f + 1) (Ig i k n j c s) := by
 induction f with
 | zero =>
  intro k s _ hk _ _ h1 _
  have e : k = c.m := by omega
  subst e
  intro _
  rw [hs]
  unfold A5z
  rw [decide_eq_false (show ¬ c.m < c.m by omega)]
  exact ⟨F6 _, fun _ => h1 rfl⟩
 | succ f ih =>
  intro k s hik hk hsl hsh h1 h2
  intro _
  rw [hs]
  unfold A5z
  rw [A60] at h1 h2
  have hlt : k < (c.l.length : Int) := by omega
  have hkn : ((k.toNat : Nat) : Int) = k := by omega
  have hin : ((i.toNat : Nat) : Int) = i := by omega
  rw [Add, decide_eq_true (show k < c.m by omega), decide_eq_true (show 0 ≤ i ∧ i < (c.l.length : Int) from ⟨hi, hil⟩), decide_eq_true (show 0 ≤ i ∧ i < (s.1.length : Int) by omega), decide_eq_true (show i.toNat < s.1.length by omega),
   decide_eq_true (show 0 ≤ k ∧ k < (c.l.length : Int) by omega), decide_eq_true (show 0 ≤ k ∧ k < (s.1.length : Int) by omega), decide_eq_true (show k.toNat < s.1.length by omega), Be, decide_eq_true (show 0 ≤ k ∧ k < (s.1.length : Int) by omega), decide_eq_true (show k.toNat < s.1.length by omega),
   Axs (show s.2.length ≤ 1000000 by omega), show W64 (k + 1) = k + 1 from A6 (by omega) (by omega)]
  have hkt : (k + 1).toNat = k.toNat + 1 := by omega
  cases e1 : (B7 (bAt c.l s.1 i.toNat) (bAt c.l s.1 k.toNat) c.re c.dr).2.2.1 == 0 with
  | true =>
   have hst : Dh c.l c.re c.dr i.toNat k.toNat s = some (B1 (B1 s.1 i.toNat (B7 (bAt c.l s.1 i.toNat) (bAt c.l s.1 k.toNat) c.re c.dr).1) k.toNat (B7 (bAt c.l s.1 i.toNat) (bAt c.l s.1 k.toNat) c.re c.dr).2.1, s.2 ++ [(i, k, ())]) := by
    unfold Dh; rw [e1, hkn, hin]; rfl
   rw [hst, Option.bind_some] at h1 h2
   refine ⟨F6 _, ih (k + 1) _ (by omega) (by omega) (by simp only [Be]; exact hsl) (by simp only [List.length_append, List.length_cons, List.length_nil]; omega) ?_ ?_⟩
   ·rw [hkt]; exact h1
   ·rw [hkt]; exact h2
  | false =>
   cases e2 : (B7 (bAt c.l s.1 i.toNat) (bAt c.l s.1 k.toNat) c.re c.dr).2.2.1 == 4 with
   | true =>
    have hst : Dh c.l c.re c.dr i.toNat k.toNat s = none := by unfold Dh; rw [e1, e2]; rfl
    rw [hst] at h2
    refine ⟨F6 _, fun _ => ?_⟩
    have := h2 rfl
    rwa [← eq_of_beq e2] at this
   | false =>
    have hst : Dh c.l c.re c.dr i.toNat k.toNat s = some s := by unfold Dh; rw [e1, e2]; rfl
    rw [hst, Option.bind_some] at h1 h2
    refine ⟨F6 _, ih (k + 1) _ (by omega) (by omega) hsl (by omega) ?_ ?_⟩
    ·rw [hkt]; exact h1
    ·rw [hkt]; exact h2
theorem Ade : CtxOk A1e := Ad Ab B6j (fns_cons ⟨Tryz.func114, by kernel_rfl, by kernel_rfl⟩ A2)
theorem B9t : Aj Tryz.prog 178 Zw (J2 O1 Vu A1y) := by
 refine X8 Ade 7 178 (fun _ => none) (fun _ _ f h => by simp at h) O1 Vu (fun e => by cases e <;> exact Nat.le_refl _) A1y (fun g => A5z g.1.2.2.1 g.1.2.2.2.1 g.1.2.2.2.2.1 g.1.2.2.2.2.2.1 (cmI g) (ssI g)) B9s ?_
 intro g R _ hf
 obtain ⟨hf, h0⟩ := hf
 cases hc : okI g.1.2.2.1 g.1.2.2.2.1 (cmI g) (ssI g) with
 | false => exact (h0 hc).elim
 | true =>
  obtain ⟨h1, h2⟩ := hf hc
  obtain ⟨k1, k2, k3, k4, k5, k6, k7, k8⟩ := of_decide_eq_true hc
  exact ⟨_, Auf (fun _ _ _ _ _ _ => rfl) R g.1.2.2.1 g.1.2.2.2.2.1 g.1.2.2.2.2.2.1 (cmI g) k1 k2 k5 k6 ((cmI g).m - g.1.2.2.2.1).toNat g.1.2.2.2.1 (ssI g) k3 (Int.toNat_of_nonneg (Int.sub_nonneg.2 k4)).symm k7 k8 h1 h2⟩
end V
end Go.Proofs.YtkiaifmbbnnliaaGreat
