import Derived.Test.YtkiaifmbbnnliaaGreatSa
namespace Go.Proofs.YtkiaifmbbnnliaaGreat
open Go.RowKit
namespace V
abbrev cPair : TC := .st [cI, cI]
abbrev SS := List (TCT cMot) × List (TCT cPair)
def bAt (l : List (TCT cBall)) (o : List (TCT cMot)) (i : Nat) : Bm := bm (getA l i (dflt cBall)) (getA o i (dflt cMot))
@[irreducible] def sStep (l : List (TCT cBall)) (re dr : Int) (i k : Nat) (s : SS) : Option SS :=
  bif (BounceR (bAt l s.1 i) (bAt l s.1 k) re dr).2.2.1 == 0 then some (setA (setA s.1 i (BounceR (bAt l s.1 i) (bAt l s.1 k) re dr).1) k (BounceR (bAt l s.1 i) (bAt l s.1 k) re dr).2.1, s.2 ++ [((i : Int), (k : Int), ())]) else
  bif (BounceR (bAt l s.1 i) (bAt l s.1 k) re dr).2.2.1 == 4 then none else some s
def inR (l : List (TCT cBall)) (re dr : Int) (i : Nat) : Nat → Nat → SS → Option SS
  | 0, _, s => some s
  | f + 1, k, s => (sStep l re dr i k s).bind fun s' => inR l re dr i f (k + 1) s'
def outR (l : List (TCT cBall)) (re dr : Int) : Nat → Nat → SS → Option SS
  | 0, _, s => some s
  | f + 1, i, s => (inR l re dr i (l.length - (i + 1)) (i + 1) s).bind fun s' => outR l re dr f (i + 1) s'
def okS (x : Option SS) : Bool := match x with
  | some _ => true
  | none => false
def getS (x : Option SS) : SS := match x with
  | some s => s
  | none => ([], [])
theorem setA_len {β : Type} (l : List β) (i : Nat) (x : β) : (setA l i x).length = l.length := by rw [setA_eq]; simp
theorem sStep_len {l : List (TCT cBall)} {re dr : Int} {i k : Nat} {s s' : SS} (h : sStep l re dr i k s = some s') : s'.1.length = s.1.length ∧ s'.2.length ≤ s.2.length + 1 := by
  unfold sStep at h
  cases h1 : (BounceR (bAt l s.1 i) (bAt l s.1 k) re dr).2.2.1 == 0 with
  | true =>
    rw [h1] at h
    simp only [cond_true, Option.some.injEq] at h
    subst h
    simp [setA_len]
  | false =>
    rw [h1, cond_false] at h
    cases h2 : (BounceR (bAt l s.1 i) (bAt l s.1 k) re dr).2.2.1 == 4 with
    | true => rw [h2] at h; simp at h
    | false => rw [h2] at h; simp only [cond_false, Option.some.injEq] at h; subst h; exact ⟨rfl, by omega⟩
theorem inR_len {l : List (TCT cBall)} {re dr : Int} {i : Nat} (f : Nat) : ∀ (k : Nat) (s s' : SS), inR l re dr i f k s = some s' → s'.1.length = s.1.length ∧ s'.2.length ≤ s.2.length + f := by
  induction f with
  | zero => intro k s s' h; rw [inR, Option.some.injEq] at h; subst h; exact ⟨rfl, by omega⟩
  | succ f ih =>
    intro k s s' h
    rw [inR] at h
    cases h1 : sStep l re dr i k s with
    | none => rw [h1] at h; simp at h
    | some s1 =>
      rw [h1, Option.bind_some] at h
      have a := sStep_len h1
      have b := ih (k + 1) s1 s' h
      exact ⟨b.1.trans a.1, by omega⟩
noncomputable def lk_Se : LK := { id := 10, keys := [3, 5, 6, 7, 8, 11, 12], ks := [.p 0 0 0 0, .p 1 0 0 0, .p 2 0 0 0, .p 3 0 0 0, .p 4 0 0 0, .p 6 0 0 0, .p 7 0 0 0], n := 80, fn := 114, params := [34, 35], assign := (rangeAt Tryz.f114 0).1, body := (rangeAt Tryz.f114 0).2, df := 9, st := some 0 }
noncomputable def lk_Sr : LK := { id := 10, keys := [], ks := [], n := 80, fn := 114, params := [34, 35], assign := (rangeAt Tryz.f114 0).1, body := (rangeAt Tryz.f114 0).2, df := 9, st := some 1 }
def bs_Se : List BK := [(0, 30, [.d (.sl cBall)]), (1, 32, [.d cI, .d cI]), (2, 35, [.d (.sl cMot)]), (3, 151, [.d (.sl cPair)]), (4, 44, [.d cI]), (6, 35, [.o 62 cMot]), (7, 151, [.o 154 cPair]), (8, 3, [.d cI])]
def bs_Sr : List BK := [(2, 35, [.d (.sl cMot)]), (3, 151, [.d (.sl cPair)]), (4, 44, [.d cI])]
noncomputable def L_in : Lay2 := { keys := [0, 1, 3, 4, 5, 6], ks := [.y 10, .p 8 0 0 0, .d cI, .d cI, .d cI, .d cI], bs := bs_Se, ls := [lk_Se], n := 22, nx := 1000, marks := [], ds := [9] }
noncomputable def L_ou : Lay2 := { keys := [0, 1, 5, 6], ks := [.y 10, .p 8 0 0 0, .d cI, .d cI], bs := bs_Se, ls := [lk_Se], n := 22, nx := 900, marks := [], ds := [9] }
noncomputable def R_Se : Lay2 := { keys := [], ks := [], bs := bs_Sr, ls := [lk_Sr], n := 22, nx := 1000, marks := [], ds := [9] }
noncomputable def E_in : XE → Lay2 := fun e => match e with | .ret => R_Se | _ => L_in
noncomputable def E_ou : XE → Lay2 := fun e => match e with | .ret => R_Se | _ => L_ou
noncomputable def lb_in : Code := (loopsOf (bodyOf Tryz.f178)).getD 1 .skip
noncomputable def lb_ou : Code := (loopsOf (bodyOf Tryz.f178)).getD 0 .skip
structure Cm where
  l : List (TCT cBall)
  re : Int
  dr : Int
  r1 : List (TCT cMot)
  r2 : List (TCT cPair)
  r3 : Int
  m : Int
abbrev BSe := BTs bs_Se
def bSe (c : Cm) (s : SS) : BSe := ((c.l, ()), (c.re, c.dr, ()), (c.r1, ()), (c.r2, ()), (c.r3, ()), (s.1, ()), (s.2, ()), (c.m, ()), ())
abbrev lSe : LTs [lk_Se] := (((((), (), (), (), (), (), (), ()) : SKTs lk_Se.ks), ((() : Unit) : StT lk_Se.st)), ())
abbrev lSr : LTs [lk_Sr] := ((((() : Unit) : SKTs lk_Sr.ks), ((() : Unit) : StT lk_Sr.st)), ())
def Ig (i k n j : Int) (c : Cm) (s : SS) : L_in.T := (((), (), i, k, n, j, ()), bSe c s, lSe)
def Og (n j : Int) (c : Cm) (s : SS) : L_ou.T := (((), (), n, j, ()), bSe c s, lSe)
def Rs (e : Int) : R_Se.T := ((), (([], ()), ([], ()), (e, ()), ()), lSr)
def stB2 (l : List (TCT cBall)) (o : List (TCT cMot)) (re dr : Int) (i k : Int) : RBnc := BounceR (bAt l o i.toNat) (bAt l o k.toNat) re dr
def st_in (i k n j : Int) (c : Cm) (s : SS) : Tree (L_in.T ⊕ Left2 E_in) :=
  bif decide (k < c.m) then
  bif decide (0 ≤ i ∧ i < (c.l.length : Int)) then bif decide (0 ≤ i ∧ i < (s.1.length : Int)) then bif decide (i.toNat < s.1.length) then
  bif decide (0 ≤ k ∧ k < (c.l.length : Int)) then bif decide (0 ≤ k ∧ k < (s.1.length : Int)) then bif decide (k.toNat < s.1.length) then
  bif (stB2 c.l s.1 c.re c.dr i k).2.2.1 == 0 then
    bif decide (0 ≤ i ∧ i < (s.1.length : Int)) then bif decide (i.toNat < s.1.length) then
    bif decide (0 ≤ k ∧ k < ((setA s.1 i.toNat (stB2 c.l s.1 c.re c.dr i k).1).length : Int)) then bif decide (k.toNat < (setA s.1 i.toNat (stB2 c.l s.1 c.re c.dr i k).1).length) then
    bif appOk s.2 [(i, k, ())] 16 then
      .need (selfL [lk_Se]) (.leaf (.inl (Ig i (W64 (k + 1)) n j c (setA (setA s.1 i.toNat (stB2 c.l s.1 c.re c.dr i k).1) k.toNat (stB2 c.l s.1 c.re c.dr i k).2.1, s.2 ++ [(i, k, ())])))) else .fail else .fail else .fail else .fail else .fail
  else bif (stB2 c.l s.1 c.re c.dr i k).2.2.1 == 4 then .need (selfL [lk_Sr]) (.leaf (.inr ⟨.ret, Rs (stB2 c.l s.1 c.re c.dr i k).2.2.1⟩)) else .need (selfL [lk_Se]) (.leaf (.inl (Ig i (W64 (k + 1)) n j c s)))
  else .fail else .fail else .fail else .fail else .fail else .fail
  else .need (selfL [lk_Se]) (.leaf (.inr ⟨.exit 2, Ig i k n j c s⟩))
def cmI (g : L_in.T) : Cm := ⟨g.2.1.1.1, g.2.1.2.1.1, g.2.1.2.1.2.1, g.2.1.2.2.1.1, g.2.1.2.2.2.1.1, g.2.1.2.2.2.2.1.1, g.2.1.2.2.2.2.2.2.2.1.1⟩
def ssI (g : L_in.T) : SS := (g.2.1.2.2.2.2.2.1.1, g.2.1.2.2.2.2.2.2.1.1)
def plBn : List (Nat × PureT) := [(153, s_Bounce)]
theorem puBn : PuOk Tryz.prog plBn := puOk_cons is_Bounce.plain q_Bounce puOk_nil
noncomputable def X_se : Ctx := ctx Tryz.prog plBn [(114, Tryz.f114)]
theorem e_in (g : L_in.T) : evC Tryz.prog (evFn X_se 7) X_se.pures 178 X_se.u (fun _ => none) lb_in (L_in.of g) (stepOut2 L_in E_in) = st_in g.1.2.2.1 g.1.2.2.2.1 g.1.2.2.2.2.1 g.1.2.2.2.2.2.1 (cmI g) (ssI g) := by kernel_rfl
theorem stB2_eq (l : List (TCT cBall)) (o : List (TCT cMot)) (re dr i k : Int) : stB2 l o re dr i k = BounceR (bAt l o i.toNat) (bAt l o k.toNat) re dr := by unfold stB2; exact Eq.refl _
theorem app16 {β : Type} {h : List β} {x : β} (k : h.length ≤ 1000000) : appOk h [x] 16 = true := by
  rw [appOk_eq]
  refine decide_eq_true ?_
  simp only [List.length_cons, List.length_nil]
  omega
def okI (i k : Int) (c : Cm) (s : SS) : Bool := decide (0 ≤ i ∧ i < (c.l.length : Int) ∧ i + 1 ≤ k ∧ k ≤ c.m ∧ c.m = (c.l.length : Int) ∧ c.l.length ≤ 1000 ∧ s.1.length = c.l.length ∧ s.2.length + (c.m - k).toNat ≤ 1000000)
def fin_in' (i k n j : Int) (c : Cm) (s : SS) : Tree (Left2 E_in) :=
  .br (okI i k c s) (.br (okS (inR c.l c.re c.dr i.toNat (c.m - k).toNat k.toNat s)) (.leaf ⟨.exit 2, Ig i c.m n j c (getS (inR c.l c.re c.dr i.toNat (c.m - k).toNat k.toNat s))⟩) (.leaf ⟨.ret, Rs 4⟩)) .fail
def fin_in (g : L_in.T) : Tree (Left2 E_in) := fin_in' g.1.2.2.1 g.1.2.2.2.1 g.1.2.2.2.2.1 g.1.2.2.2.2.2.1 (cmI g) (ssI g)
theorem inR_succ (l : List (TCT cBall)) (re dr : Int) (i f k : Nat) (s : SS) : inR l re dr i (f + 1) k s = (sStep l re dr i k s).bind fun s' => inR l re dr i f (k + 1) s' := rfl
theorem rnds_in {step : L_in.T → Tree (L_in.T ⊕ Left2 E_in)} (hs : ∀ i k n j c s, step (Ig i k n j c s) = st_in i k n j c s) (R : Left2 E_in → Prop) (i n j : Int) (c : Cm) (hi : 0 ≤ i) (hil : i < (c.l.length : Int)) (hm : c.m = (c.l.length : Int)) (hl : c.l.length ≤ 1000) (f : Nat) :
    ∀ (k : Int) (s : SS), i + 1 ≤ k → c.m - k = f → s.1.length = c.l.length → s.2.length + f ≤ 1000000 → (okS (inR c.l c.re c.dr i.toNat f k.toNat s) = true → R ⟨.exit 2, Ig i c.m n j c (getS (inR c.l c.re c.dr i.toNat f k.toNat s))⟩) →
      (okS (inR c.l c.re c.dr i.toNat f k.toNat s) = false → R ⟨.ret, Rs 4⟩) → Rnds2 L_in E_in step R (f + 1) (Ig i k n j c s) := by
  induction f with
  | zero =>
    intro k s _ hk _ _ h1 _
    have e : k = c.m := by omega
    subst e
    intro _
    rw [hs]
    unfold st_in
    rw [decide_eq_false (show ¬ c.m < c.m by omega)]
    exact ⟨selfL_ok _, fun _ => h1 rfl⟩
  | succ f ih =>
    intro k s hik hk hsl hsh h1 h2
    intro _
    rw [hs]
    unfold st_in
    rw [inR_succ] at h1 h2
    have hlt : k < (c.l.length : Int) := by omega
    have hkn : ((k.toNat : Nat) : Int) = k := by omega
    have hin : ((i.toNat : Nat) : Int) = i := by omega
    rw [stB2_eq, decide_eq_true (show k < c.m by omega), decide_eq_true (show 0 ≤ i ∧ i < (c.l.length : Int) from ⟨hi, hil⟩), decide_eq_true (show 0 ≤ i ∧ i < (s.1.length : Int) by omega), decide_eq_true (show i.toNat < s.1.length by omega),
      decide_eq_true (show 0 ≤ k ∧ k < (c.l.length : Int) by omega), decide_eq_true (show 0 ≤ k ∧ k < (s.1.length : Int) by omega), decide_eq_true (show k.toNat < s.1.length by omega), setA_len, decide_eq_true (show 0 ≤ k ∧ k < (s.1.length : Int) by omega), decide_eq_true (show k.toNat < s.1.length by omega),
      app16 (show s.2.length ≤ 1000000 by omega), show W64 (k + 1) = k + 1 from wrap_id (by omega) (by omega)]
    have hkt : (k + 1).toNat = k.toNat + 1 := by omega
    cases e1 : (BounceR (bAt c.l s.1 i.toNat) (bAt c.l s.1 k.toNat) c.re c.dr).2.2.1 == 0 with
    | true =>
      have hst : sStep c.l c.re c.dr i.toNat k.toNat s = some (setA (setA s.1 i.toNat (BounceR (bAt c.l s.1 i.toNat) (bAt c.l s.1 k.toNat) c.re c.dr).1) k.toNat (BounceR (bAt c.l s.1 i.toNat) (bAt c.l s.1 k.toNat) c.re c.dr).2.1, s.2 ++ [(i, k, ())]) := by
        unfold sStep; rw [e1, hkn, hin]; rfl
      rw [hst, Option.bind_some] at h1 h2
      refine ⟨selfL_ok _, ih (k + 1) _ (by omega) (by omega) (by simp only [setA_len]; exact hsl) (by simp only [List.length_append, List.length_cons, List.length_nil]; omega) ?_ ?_⟩
      · rw [hkt]; exact h1
      · rw [hkt]; exact h2
    | false =>
      cases e2 : (BounceR (bAt c.l s.1 i.toNat) (bAt c.l s.1 k.toNat) c.re c.dr).2.2.1 == 4 with
      | true =>
        have hst : sStep c.l c.re c.dr i.toNat k.toNat s = none := by unfold sStep; rw [e1, e2]; rfl
        rw [hst] at h2
        refine ⟨selfL_ok _, fun _ => ?_⟩
        have := h2 rfl
        rwa [← eq_of_beq e2] at this
      | false =>
        have hst : sStep c.l c.re c.dr i.toNat k.toNat s = some s := by unfold sStep; rw [e1, e2]; rfl
        rw [hst, Option.bind_some] at h1 h2
        refine ⟨selfL_ok _, ih (k + 1) _ (by omega) (by omega) hsl (by omega) ?_ ?_⟩
        · rw [hkt]; exact h1
        · rw [hkt]; exact h2
theorem puSe_ok : CtxOk X_se := ctx_ok mixed puBn (fns_cons ⟨Tryz.func114, by kernel_rfl, by kernel_rfl⟩ fns_nil)
theorem l_in : LoopOk Tryz.prog 178 lb_in (loopSum2 L_in E_in fin_in) := by
  refine loopOk_of2 puSe_ok 7 178 (fun _ => none) (fun _ _ f h => by simp at h) L_in E_in (fun e => by cases e <;> exact Nat.le_refl _) fin_in (fun g => st_in g.1.2.2.1 g.1.2.2.2.1 g.1.2.2.2.2.1 g.1.2.2.2.2.2.1 (cmI g) (ssI g)) e_in ?_
  intro g R _ hf
  obtain ⟨hf, h0⟩ := hf
  cases hc : okI g.1.2.2.1 g.1.2.2.2.1 (cmI g) (ssI g) with
  | false => exact (h0 hc).elim
  | true =>
    obtain ⟨h1, h2⟩ := hf hc
    obtain ⟨k1, k2, k3, k4, k5, k6, k7, k8⟩ := of_decide_eq_true hc
    exact ⟨_, rnds_in (fun _ _ _ _ _ _ => rfl) R g.1.2.2.1 g.1.2.2.2.2.1 g.1.2.2.2.2.2.1 (cmI g) k1 k2 k5 k6 ((cmI g).m - g.1.2.2.2.1).toNat g.1.2.2.2.1 (ssI g) k3 (Int.toNat_of_nonneg (Int.sub_nonneg.2 k4)).symm k7 k8 h1 h2⟩
end V
end Go.Proofs.YtkiaifmbbnnliaaGreat
