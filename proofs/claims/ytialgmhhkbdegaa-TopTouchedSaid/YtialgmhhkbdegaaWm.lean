/- Settle of contact: check, the loops over the pairs, the contract; without the reference. -/
import Derived.Test.YtialgmhhkbdegaaWl
namespace Go.Proofs.Ytialgmhhkbdegaa
open Go.RowKit
namespace V
theorem is_lcheck : FnIs Try.prog (36, Try.f36) := ⟨Try.func36, by kernel_rfl, by kernel_rfl⟩
theorem succ64 {i n : Nat} (h : i < n) (hn : (n : Int) ≤ maxK .i64) : W64 ((i : Int) + 1) = ((i + 1 : Nat) : Int) := by
  simp only [maxK] at hn
  rw [show W64 ((i : Int) + 1) = (i : Int) + 1 from wrap_id (by omega) (by omega)]; rfl
def okBM (p : TCT cBall × TCT cMot) : Bool := (bm p.1 p.2).ok
noncomputable def lb_ck : Code := (loopsOf (bodyOf Try.f36)).getD 0 .skip
def L_ck : Lay := { keys := [0, 1, 4, 18, 19, 20], ks := [.d (.sl cBall), .d (.sl cMot), .d cI, .d (.sl cBall), .d cI, .d cI], bs := [], n := 35, nx := 1000, marks := [] }
def R_ck : Lay := { keys := [4], ks := [.d cI], bs := [], n := 35, nx := 1000, marks := [] }
def E_ck : XE → Lay := fun _ => R_ck
def Cg (l : List (TCT cBall)) (s : List (TCT cMot)) (e : Int) (l' : List (TCT cBall)) (n i : Int) : L_ck.T := ((l, s, e, l', n, i, ()), ())
def Cr (e : Int) : R_ck.T := ((e, ()), ())
def okAt (l : List (TCT cBall)) (s : List (TCT cMot)) (i : Int) : Bool := okBM (getA l i.toNat (dflt cBall), getA s i.toNat (dflt cMot))
def st_ck (l : List (TCT cBall)) (s : List (TCT cMot)) (e : Int) (l' : List (TCT cBall)) (n i : Int) : Tree (L_ck.T ⊕ Left' E_ck) :=
  bif decide (i < n) then bif decide (0 ≤ i ∧ i < (l'.length : Int)) then bif decide (0 ≤ i ∧ i < (s.length : Int)) then
    bif okE (okAt l' s i) != 0 then .leaf (.inr ⟨.ret, Cr (okE (okAt l' s i))⟩) else .leaf (.inl (Cg l s e l' n (W64 (i + 1)))) else .fail else .fail else .leaf (.inr ⟨.exit 1, Cr e⟩)
def fin_ck (g : L_ck.T) : Tree (Left' E_ck) :=
  .br (decide (g.1.2.2.2.2.1 = (g.1.2.2.2.1.length : Int) ∧ g.1.2.2.2.1.length = g.1.2.1.length ∧ g.1.2.2.2.2.2.1 = 0)) (.br ((g.1.2.2.2.1.zip g.1.2.1).all okBM) (.leaf ⟨.exit 1, Cr g.1.2.2.1⟩) (.leaf ⟨.ret, Cr 2⟩)) .fail
def f_ck (p : TCT cBall × TCT cMot) (_ : Nat) (_ : Unit) : Unit ⊕ Left' E_ck := bif okBM p then .inl () else .inr ⟨.ret, Cr 2⟩
theorem run_ck (e : Int) : ∀ (l : List (TCT cBall × TCT cMot)) (i : Nat), runL f_ck (fun _ => (⟨.exit 1, Cr e⟩ : Left' E_ck)) l i () = bif l.all okBM then ⟨.exit 1, Cr e⟩ else ⟨.ret, Cr 2⟩
  | [], i => rfl
  | p :: l, i => by
    simp only [runL, f_ck, List.all_cons]
    cases okBM p with
    | false => rfl
    | true => exact run_ck e l (i + 1)
theorem zip_at {α β : Type} {l : List α} {s : List β} {i : Nat} (h : i < (l.zip s).length) (h1 : i < l.length) (h2 : i < s.length) (d : α) (e : β) : (l.zip s)[i] = (getA l i d, getA s i e) := by
  rw [List.getElem_zip, getA_lt h1, getA_lt h2]
theorem l_ck : LoopOk Try.prog 36 lb_ck (loopSum L_ck E_ck fin_ck) := by
  refine loopOk_of (X := ctx Try.prog plK []) (ctx_ok mixed puKw fns_nil) 7 36 (fun _ => none) (fun _ _ f h => by simp at h) L_ck E_ck (fun _ => Nat.le_refl _) fin_ck (fun g => st_ck g.1.1 g.1.2.1 g.1.2.2.1 g.1.2.2.2.1 g.1.2.2.2.2.1 g.1.2.2.2.2.2.1) (fun g => by kernel_rfl) ?_
  rintro ⟨⟨l0, s, e, l, n, i, ⟨⟩⟩, ⟨⟩⟩ R hw hf
  obtain ⟨hf, h0⟩ := hf
  by_cases hc : n = (l.length : Int) ∧ l.length = s.length ∧ i = 0
  · obtain ⟨rfl, hls, rfl⟩ := hc
    have hf := hf (decide_eq_true ⟨rfl, hls, rfl⟩)
    have hlen : (l.length : Int) ≤ maxK .i64 := by
      simp only [Lay.WF, L_ck, WFKs, WFK, WFD] at hw
      exact hw.1.2.2.2.1.1
    have hz : (l.zip s).length = l.length := by rw [List.length_zip, ← hls, Nat.min_self]
    refine ⟨_, rnds_runL (l.zip s) (fun i _ => Cg l0 s e l l.length i) f_ck (fun _ => ⟨.exit 1, Cr e⟩) (fun _ => True) ?_ ?_ (l.zip s).length 0 () (by omega) trivial ?_⟩
    · intro i _ hi Q _ _ hQ
      have h1 : i < l.length := by omega
      have h2 : i < s.length := by omega
      show (st_ck l0 s e l l.length i).sat Q
      unfold st_ck okAt
      rw [decide_eq_true (show (i : Int) < l.length by omega), decide_eq_true (show 0 ≤ (i : Int) ∧ (i : Int) < l.length by omega), decide_eq_true (show 0 ≤ (i : Int) ∧ (i : Int) < s.length by omega), succ64 h1 hlen]
      have ht : (i : Int).toNat = i := by omega
      rw [zip_at hi h1 h2 (dflt cBall) (dflt cMot)] at hQ
      rw [ht]
      unfold f_ck at hQ
      cases hk : okBM (getA l i (dflt cBall), getA s i (dflt cMot)) with
      | true => rw [hk] at hQ; exact hQ trivial
      | false => rw [hk] at hQ; exact hQ
    · intro _ Q _ hQ
      show (st_ck l0 s e l l.length ((l.zip s).length : Nat)).sat Q
      rw [hz]
      unfold st_ck
      rw [decide_eq_false (show ¬ (l.length : Int) < l.length by omega)]
      exact hQ
    · rw [List.drop_zero, run_ck]
      obtain ⟨h1, h2⟩ := hf
      cases ha : (l.zip s).all okBM with
      | true => exact h1 ha
      | false => exact h2 ha
  · exact (h0 (decide_eq_false hc)).elim
def chkR (l : List (TCT cBall)) (s : List (TCT cMot)) : Int := bif decide ((l.length : Int) > 8) then 6 else bif (l.length : Int) != (s.length : Int) then 17 else okE ((l.zip s).all okBM)
abbrev s_lcheck : PureT := spec [.sl cBall, .sl cMot] [cI] (fun _ => true) (fun x => (chkR x.1 x.2.1, ()))
noncomputable def X_lcheck : Ctx := ctxL Try.prog plK [(36, Try.f36)] [((36, 6), loopSum L_ck E_ck fin_ck)]
theorem X_lcheck_ok : CtxOk X_lcheck := ctxL_ok mixed puKw (fns_cons is_lcheck fns_nil) (loops_one (by kernel_rfl) (by kernel_rfl) l_ck)
def T_lcheck (l : List (TCT cBall)) (s : List (TCT cMot)) : Tree (TCTs [cI]) :=
  bif decide ((l.length : Int) > 8) then .leaf (6, ()) else bif (l.length : Int) != (s.length : Int) then .leaf (17, ()) else
  bif decide ((l.length : Int) = (l.length : Int) ∧ l.length = s.length ∧ (0 : Int) = 0) then bif (l.zip s).all okBM then .leaf (0, ()) else .leaf (2, ()) else .fail
theorem T_lcheck_ok (l : List (TCT cBall)) (s : List (TCT cMot)) : (T_lcheck l s).sat (fun y => y = (chkR l s, ())) := by
  unfold T_lcheck chkR
  cases decide ((l.length : Int) > 8) with
  | true => exact rfl
  | false =>
    cases h : ((l.length : Int) != (s.length : Int)) with
    | true => exact rfl
    | false =>
      have h' : l.length = s.length := by have : (l.length : Int) = (s.length : Int) := by simpa using h
                                          omega
      rw [decide_eq_true (show (l.length : Int) = (l.length : Int) ∧ l.length = s.length ∧ (0 : Int) = 0 from ⟨rfl, h', rfl⟩)]
      cases (l.zip s).all okBM <;> exact rfl
theorem q_lcheck : PureOk Try.prog 36 s_lcheck := q_by X_lcheck_ok 3 (fun x => T_lcheck x.1 x.2.1) (fun x => by kernel_rfl) fun _ _ _ => T_lcheck_ok _ _
abbrev cPair : TC := .st [cI, cI]
abbrev SS := List (TCT cMot) × List (TCT cPair)
def bAt (l : List (TCT cBall)) (o : List (TCT cMot)) (i : Nat) : Bm := bm (getA l i (dflt cBall)) (getA o i (dflt cMot))
/-- what a pair comes to -/
@[irreducible] def sStep (l : List (TCT cBall)) (re dr : Int) (i k : Nat) (s : SS) : Option SS :=
  bif (BounceR (bAt l s.1 i) (bAt l s.1 k) re dr).2.2.1 == 0 then some (setA (setA s.1 i (BounceR (bAt l s.1 i) (bAt l s.1 k) re dr).1) k (BounceR (bAt l s.1 i) (bAt l s.1 k) re dr).2.1, s.2 ++ [((i : Int), (k : Int), ())]) else
  bif (BounceR (bAt l s.1 i) (bAt l s.1 k) re dr).2.2.1 == 4 then none else some s
/-- what the pairs of one ball come to; what all pairs come to -/
def inR (l : List (TCT cBall)) (re dr : Int) (i : Nat) : Nat → Nat → SS → Option SS
  | 0, _, s => some s
  | f + 1, k, s => (sStep l re dr i k s).bind fun s' => inR l re dr i f (k + 1) s'
def outR (l : List (TCT cBall)) (re dr : Int) : Nat → Nat → SS → Option SS
  | 0, _, s => some s
  | f + 1, i, s => (inR l re dr i (l.length - (i + 1)) (i + 1) s).bind fun s' => outR l re dr f (i + 1) s'
def okS (x : Option SS) : Bool := match x with
  | some _ => true
  | none => false
def getS (x : Option SS) : SS := match x with
  | some s => s
  | none => ([], [])
theorem setA_len {β : Type} (l : List β) (i : Nat) (x : β) : (setA l i x).length = l.length := by rw [setA_eq]; simp
theorem sStep_len {l : List (TCT cBall)} {re dr : Int} {i k : Nat} {s s' : SS} (h : sStep l re dr i k s = some s') : s'.1.length = s.1.length ∧ s'.2.length ≤ s.2.length + 1 := by
  unfold sStep at h
  cases h1 : (BounceR (bAt l s.1 i) (bAt l s.1 k) re dr).2.2.1 == 0 with
  | true =>
    rw [h1] at h
    simp only [cond_true, Option.some.injEq] at h
    subst h
    simp [setA_len]
  | false =>
    rw [h1, cond_false] at h
    cases h2 : (BounceR (bAt l s.1 i) (bAt l s.1 k) re dr).2.2.1 == 4 with
    | true => rw [h2] at h; simp at h
    | false => rw [h2] at h; simp only [cond_false, Option.some.injEq] at h; subst h; exact ⟨rfl, by omega⟩
theorem inR_len {l : List (TCT cBall)} {re dr : Int} {i : Nat} (f : Nat) : ∀ (k : Nat) (s s' : SS), inR l re dr i f k s = some s' → s'.1.length = s.1.length ∧ s'.2.length ≤ s.2.length + f := by
  induction f with
  | zero => intro k s s' h; rw [inR, Option.some.injEq] at h; subst h; exact ⟨rfl, by omega⟩
  | succ f ih =>
    intro k s s' h
    rw [inR] at h
    cases h1 : sStep l re dr i k s with
    | none => rw [h1] at h; simp at h
    | some s1 =>
      rw [h1, Option.bind_some] at h
      have a := sStep_len h1
      have b := ih (k + 1) s1 s' h
      exact ⟨b.1.trans a.1, by omega⟩

/-! the layouts -/
noncomputable def lk_Se : LK := { id := 10, keys := [3, 5, 6, 7, 8, 11, 12], ks := [.p 0 0 0 0, .p 1 0 0 0, .p 2 0 0 0, .p 3 0 0 0, .p 4 0 0 0, .p 6 0 0 0, .p 7 0 0 0], n := 80, fn := 18, params := [34, 35], assign := (rangeAt Try.f18 0).1, body := (rangeAt Try.f18 0).2, df := 9, st := some 0 }
noncomputable def lk_Sr : LK := { id := 10, keys := [], ks := [], n := 80, fn := 18, params := [34, 35], assign := (rangeAt Try.f18 0).1, body := (rangeAt Try.f18 0).2, df := 9, st := some 1 }
def bs_Se : List BK := [(0, 68, [.d (.sl cBall)]), (1, 67, [.d cI, .d cI]), (2, 69, [.d (.sl cMot)]), (3, 71, [.d (.sl cPair)]), (4, 34, [.d cI]), (6, 69, [.o 32 cMot]), (7, 71, [.o 74 cPair]), (8, 3, [.d cI])]
def bs_Sr : List BK := [(2, 69, [.d (.sl cMot)]), (3, 71, [.d (.sl cPair)]), (4, 34, [.d cI])]
noncomputable def L_in : Lay2 := { keys := [0, 1, 3, 4, 5, 6], ks := [.y 10, .p 8 0 0 0, .d cI, .d cI, .d cI, .d cI], bs := bs_Se, ls := [lk_Se], n := 22, nx := 1000, marks := [], ds := [9] }
noncomputable def L_ou : Lay2 := { keys := [0, 1, 5, 6], ks := [.y 10, .p 8 0 0 0, .d cI, .d cI], bs := bs_Se, ls := [lk_Se], n := 22, nx := 900, marks := [], ds := [9] }
noncomputable def R_Se : Lay2 := { keys := [], ks := [], bs := bs_Sr, ls := [lk_Sr], n := 22, nx := 1000, marks := [], ds := [9] }
noncomputable def E_in : XE → Lay2 := fun e => match e with | .ret => R_Se | _ => L_in
noncomputable def E_ou : XE → Lay2 := fun e => match e with | .ret => R_Se | _ => L_ou
noncomputable def lb_in : Code := (loopsOf (bodyOf Try.f69)).getD 1 .skip
noncomputable def lb_ou : Code := (loopsOf (bodyOf Try.f69)).getD 0 .skip
/-- what is the same at all heads -/
structure Cm where
  l : List (TCT cBall)
  re : Int
  dr : Int
  r1 : List (TCT cMot)
  r2 : List (TCT cPair)
  r3 : Int
  m : Int
abbrev BSe := BTs bs_Se
def bSe (c : Cm) (s : SS) : BSe := ((c.l, ()), (c.re, c.dr, ()), (c.r1, ()), (c.r2, ()), (c.r3, ()), (s.1, ()), (s.2, ()), (c.m, ()), ())
abbrev lSe : LTs [lk_Se] := (((((), (), (), (), (), (), (), ()) : SKTs lk_Se.ks), ((() : Unit) : StT lk_Se.st)), ())
abbrev lSr : LTs [lk_Sr] := ((((() : Unit) : SKTs lk_Sr.ks), ((() : Unit) : StT lk_Sr.st)), ())
def Ig (i k n j : Int) (c : Cm) (s : SS) : L_in.T := (((), (), i, k, n, j, ()), bSe c s, lSe)
def Og (n j : Int) (c : Cm) (s : SS) : L_ou.T := (((), (), n, j, ()), bSe c s, lSe)
def Rs (e : Int) : R_Se.T := ((), (([], ()), ([], ()), (e, ()), ()), lSr)
def stB2 (l : List (TCT cBall)) (o : List (TCT cMot)) (re dr : Int) (i k : Int) : RBnc := BounceR (bAt l o i.toNat) (bAt l o k.toNat) re dr
def st_in (i k n j : Int) (c : Cm) (s : SS) : Tree (L_in.T ⊕ Left2 E_in) :=
  bif decide (k < c.m) then
  bif decide (0 ≤ i ∧ i < (c.l.length : Int)) then bif decide (0 ≤ i ∧ i < (s.1.length : Int)) then bif decide (i.toNat < s.1.length) then
  bif decide (0 ≤ k ∧ k < (c.l.length : Int)) then bif decide (0 ≤ k ∧ k < (s.1.length : Int)) then bif decide (k.toNat < s.1.length) then
  bif (stB2 c.l s.1 c.re c.dr i k).2.2.1 == 0 then
    bif decide (0 ≤ i ∧ i < (s.1.length : Int)) then bif decide (i.toNat < s.1.length) then
    bif decide (0 ≤ k ∧ k < ((setA s.1 i.toNat (stB2 c.l s.1 c.re c.dr i k).1).length : Int)) then bif decide (k.toNat < (setA s.1 i.toNat (stB2 c.l s.1 c.re c.dr i k).1).length) then
    bif appOk s.2 [(i, k, ())] 16 then
      .need (selfL [lk_Se]) (.leaf (.inl (Ig i (W64 (k + 1)) n j c (setA (setA s.1 i.toNat (stB2 c.l s.1 c.re c.dr i k).1) k.toNat (stB2 c.l s.1 c.re c.dr i k).2.1, s.2 ++ [(i, k, ())])))) else .fail else .fail else .fail else .fail else .fail
  else bif (stB2 c.l s.1 c.re c.dr i k).2.2.1 == 4 then .need (selfL [lk_Sr]) (.leaf (.inr ⟨.ret, Rs (stB2 c.l s.1 c.re c.dr i k).2.2.1⟩)) else .need (selfL [lk_Se]) (.leaf (.inl (Ig i (W64 (k + 1)) n j c s)))
  else .fail else .fail else .fail else .fail else .fail else .fail
  else .need (selfL [lk_Se]) (.leaf (.inr ⟨.exit 2, Ig i k n j c s⟩))
def cmI (g : L_in.T) : Cm := ⟨g.2.1.1.1, g.2.1.2.1.1, g.2.1.2.1.2.1, g.2.1.2.2.1.1, g.2.1.2.2.2.1.1, g.2.1.2.2.2.2.1.1, g.2.1.2.2.2.2.2.2.2.1.1⟩
def ssI (g : L_in.T) : SS := (g.2.1.2.2.2.2.2.1.1, g.2.1.2.2.2.2.2.2.1.1)
noncomputable def X_se : Ctx := ctx Try.prog plO [(18, Try.f18)]
theorem e_in (g : L_in.T) : evC Try.prog (evFn X_se 7) X_se.pures 69 X_se.u (fun _ => none) lb_in (L_in.of g) (stepOut2 L_in E_in) = st_in g.1.2.2.1 g.1.2.2.2.1 g.1.2.2.2.2.1 g.1.2.2.2.2.2.1 (cmI g) (ssI g) := by kernel_rfl
theorem stB2_eq (l : List (TCT cBall)) (o : List (TCT cMot)) (re dr i k : Int) : stB2 l o re dr i k = BounceR (bAt l o i.toNat) (bAt l o k.toNat) re dr := by unfold stB2; exact Eq.refl _
theorem app16 {β : Type} {h : List β} {x : β} (k : h.length ≤ 1000000) : appOk h [x] 16 = true := by
  rw [appOk_eq]
  refine decide_eq_true ?_
  simp only [List.length_cons, List.length_nil]
  omega
def okI (i k : Int) (c : Cm) (s : SS) : Bool := decide (0 ≤ i ∧ i < (c.l.length : Int) ∧ i + 1 ≤ k ∧ k ≤ c.m ∧ c.m = (c.l.length : Int) ∧ c.l.length ≤ 1000 ∧ s.1.length = c.l.length ∧ s.2.length + (c.m - k).toNat ≤ 1000000)
def fin_in' (i k n j : Int) (c : Cm) (s : SS) : Tree (Left2 E_in) :=
  .br (okI i k c s) (.br (okS (inR c.l c.re c.dr i.toNat (c.m - k).toNat k.toNat s)) (.leaf ⟨.exit 2, Ig i c.m n j c (getS (inR c.l c.re c.dr i.toNat (c.m - k).toNat k.toNat s))⟩) (.leaf ⟨.ret, Rs 4⟩)) .fail
def fin_in (g : L_in.T) : Tree (Left2 E_in) := fin_in' g.1.2.2.1 g.1.2.2.2.1 g.1.2.2.2.2.1 g.1.2.2.2.2.2.1 (cmI g) (ssI g)
theorem inR_zero (l : List (TCT cBall)) (re dr : Int) (i k : Nat) (s : SS) : inR l re dr i 0 k s = some s := rfl
theorem inR_succ (l : List (TCT cBall)) (re dr : Int) (i f k : Nat) (s : SS) : inR l re dr i (f + 1) k s = (sStep l re dr i k s).bind fun s' => inR l re dr i f (k + 1) s' := rfl
theorem rnds_in {step : L_in.T → Tree (L_in.T ⊕ Left2 E_in)} (hs : ∀ i k n j c s, step (Ig i k n j c s) = st_in i k n j c s) (R : Left2 E_in → Prop) (i n j : Int) (c : Cm) (hi : 0 ≤ i) (hil : i < (c.l.length : Int)) (hm : c.m = (c.l.length : Int)) (hl : c.l.length ≤ 1000) (f : Nat) :
    ∀ (k : Int) (s : SS), i + 1 ≤ k → c.m - k = f → s.1.length = c.l.length → s.2.length + f ≤ 1000000 → (okS (inR c.l c.re c.dr i.toNat f k.toNat s) = true → R ⟨.exit 2, Ig i c.m n j c (getS (inR c.l c.re c.dr i.toNat f k.toNat s))⟩) →
      (okS (inR c.l c.re c.dr i.toNat f k.toNat s) = false → R ⟨.ret, Rs 4⟩) → Rnds2 L_in E_in step R (f + 1) (Ig i k n j c s) := by
  induction f with
  | zero =>
    intro k s _ hk _ _ h1 _
    have e : k = c.m := by omega
    subst e
    intro _
    rw [hs]
    unfold st_in
    rw [decide_eq_false (show ¬ c.m < c.m by omega)]
    exact ⟨selfL_ok _, fun _ => h1 rfl⟩
  | succ f ih =>
    intro k s hik hk hsl hsh h1 h2
    intro _
    rw [hs]
    unfold st_in
    rw [inR_succ] at h1 h2
    have hlt : k < (c.l.length : Int) := by omega
    have hkn : ((k.toNat : Nat) : Int) = k := by omega
    have hin : ((i.toNat : Nat) : Int) = i := by omega
    rw [stB2_eq, decide_eq_true (show k < c.m by omega), decide_eq_true (show 0 ≤ i ∧ i < (c.l.length : Int) from ⟨hi, hil⟩), decide_eq_true (show 0 ≤ i ∧ i < (s.1.length : Int) by omega), decide_eq_true (show i.toNat < s.1.length by omega),
      decide_eq_true (show 0 ≤ k ∧ k < (c.l.length : Int) by omega), decide_eq_true (show 0 ≤ k ∧ k < (s.1.length : Int) by omega), decide_eq_true (show k.toNat < s.1.length by omega), setA_len, decide_eq_true (show 0 ≤ k ∧ k < (s.1.length : Int) by omega), decide_eq_true (show k.toNat < s.1.length by omega),
      app16 (show s.2.length ≤ 1000000 by omega), show W64 (k + 1) = k + 1 from wrap_id (by omega) (by omega)]
    have hkt : (k + 1).toNat = k.toNat + 1 := by omega
    cases e1 : (BounceR (bAt c.l s.1 i.toNat) (bAt c.l s.1 k.toNat) c.re c.dr).2.2.1 == 0 with
    | true =>
      have hst : sStep c.l c.re c.dr i.toNat k.toNat s = some (setA (setA s.1 i.toNat (BounceR (bAt c.l s.1 i.toNat) (bAt c.l s.1 k.toNat) c.re c.dr).1) k.toNat (BounceR (bAt c.l s.1 i.toNat) (bAt c.l s.1 k.toNat) c.re c.dr).2.1, s.2 ++ [(i, k, ())]) := by
        unfold sStep; rw [e1, hkn, hin]; rfl
      rw [hst, Option.bind_some] at h1 h2
      refine ⟨selfL_ok _, ih (k + 1) _ (by omega) (by omega) (by simp only [setA_len]; exact hsl) (by simp only [List.length_append, List.length_cons, List.length_nil]; omega) ?_ ?_⟩
      · rw [hkt]; exact h1
      · rw [hkt]; exact h2
    | false =>
      cases e2 : (BounceR (bAt c.l s.1 i.toNat) (bAt c.l s.1 k.toNat) c.re c.dr).2.2.1 == 4 with
      | true =>
        have hst : sStep c.l c.re c.dr i.toNat k.toNat s = none := by unfold sStep; rw [e1, e2]; rfl
        rw [hst] at h2
        refine ⟨selfL_ok _, fun _ => ?_⟩
        have := h2 rfl
        rwa [← eq_of_beq e2] at this
      | false =>
        have hst : sStep c.l c.re c.dr i.toNat k.toNat s = some s := by unfold sStep; rw [e1, e2]; rfl
        rw [hst, Option.bind_some] at h1 h2
        refine ⟨selfL_ok _, ih (k + 1) _ (by omega) (by omega) hsl (by omega) ?_ ?_⟩
        · rw [hkt]; exact h1
        · rw [hkt]; exact h2
theorem puSe_ok : CtxOk X_se := ctx_ok mixed puOw (fns_cons ⟨Try.func18, by kernel_rfl, by kernel_rfl⟩ fns_nil)
theorem l_in : LoopOk Try.prog 69 lb_in (loopSum2 L_in E_in fin_in) := by
  refine loopOk_of2 puSe_ok 7 69 (fun _ => none) (fun _ _ f h => by simp at h) L_in E_in (fun e => by cases e <;> exact Nat.le_refl _) fin_in (fun g => st_in g.1.2.2.1 g.1.2.2.2.1 g.1.2.2.2.2.1 g.1.2.2.2.2.2.1 (cmI g) (ssI g)) e_in ?_
  intro g R _ hf
  obtain ⟨hf, h0⟩ := hf
  cases hc : okI g.1.2.2.1 g.1.2.2.2.1 (cmI g) (ssI g) with
  | false => exact (h0 hc).elim
  | true =>
    obtain ⟨h1, h2⟩ := hf hc
    obtain ⟨k1, k2, k3, k4, k5, k6, k7, k8⟩ := of_decide_eq_true hc
    exact ⟨_, rnds_in (fun _ _ _ _ _ _ => rfl) R g.1.2.2.1 g.1.2.2.2.2.1 g.1.2.2.2.2.2.1 (cmI g) k1 k2 k5 k6 ((cmI g).m - g.1.2.2.2.1).toNat g.1.2.2.2.1 (ssI g) k3 (Int.toNat_of_nonneg (Int.sub_nonneg.2 k4)).symm k7 k8 h1 h2⟩
noncomputable def Lt_ou : LoopT := fun k => bif Nat.beq k 4 then some (loopSum2 L_in E_in fin_in) else none
def cmO (g : L_ou.T) : Cm := ⟨g.2.1.1.1, g.2.1.2.1.1, g.2.1.2.1.2.1, g.2.1.2.2.1.1, g.2.1.2.2.2.1.1, g.2.1.2.2.2.2.1.1, g.2.1.2.2.2.2.2.2.2.1.1⟩
def ssO (g : L_ou.T) : SS := (g.2.1.2.2.2.2.2.1.1, g.2.1.2.2.2.2.2.2.1.1)
def st_ou (n j : Int) (c : Cm) (s : SS) : Tree (L_ou.T ⊕ Left2 E_ou) :=
  bif decide (j < n) then
    .need (selfL [lk_Se]) (bif okI j (W64 (j + 1)) c s then
      bif okS (inR c.l c.re c.dr j.toNat (c.m - W64 (j + 1)).toNat (W64 (j + 1)).toNat s) then .need (selfL [lk_Se]) (.leaf (.inl (Og n (W64 (j + 1)) c (getS (inR c.l c.re c.dr j.toNat (c.m - W64 (j + 1)).toNat (W64 (j + 1)).toNat s)))))
      else .need (selfL [lk_Sr]) (.leaf (.inr ⟨.ret, Rs 4⟩)) else .fail)
  else .need (selfL [lk_Se]) (.leaf (.inr ⟨.exit 0, Og n j c s⟩))
theorem e_ou (g : L_ou.T) : evC Try.prog (evFn X_se 7) X_se.pures 69 X_se.u Lt_ou lb_ou (L_ou.of g) (stepOut2 L_ou E_ou) = st_ou g.1.2.2.1 g.1.2.2.2.1 (cmO g) (ssO g) := by kernel_rfl
def okO (n j : Int) (c : Cm) (s : SS) : Bool := decide (0 ≤ j ∧ j ≤ n ∧ n = c.m ∧ c.m = (c.l.length : Int) ∧ c.l.length ≤ 1000 ∧ s.1.length = c.l.length ∧ s.2.length + (n - j).toNat * 1000 ≤ 1000000)
def fin_ou' (n j : Int) (c : Cm) (s : SS) : Tree (Left2 E_ou) :=
  .br (okO n j c s) (.br (okS (outR c.l c.re c.dr (n - j).toNat j.toNat s)) (.leaf ⟨.exit 0, Og n n c (getS (outR c.l c.re c.dr (n - j).toNat j.toNat s))⟩) (.leaf ⟨.ret, Rs 4⟩)) .fail
def fin_ou (g : L_ou.T) : Tree (Left2 E_ou) := fin_ou' g.1.2.2.1 g.1.2.2.2.1 (cmO g) (ssO g)
theorem outR_zero (l : List (TCT cBall)) (re dr : Int) (i : Nat) (s : SS) : outR l re dr 0 i s = some s := rfl
theorem outR_succ (l : List (TCT cBall)) (re dr : Int) (f i : Nat) (s : SS) : outR l re dr (f + 1) i s = (inR l re dr i (l.length - (i + 1)) (i + 1) s).bind fun s' => outR l re dr f (i + 1) s' := rfl
theorem rnds_ou {step : L_ou.T → Tree (L_ou.T ⊕ Left2 E_ou)} (hs : ∀ n j c s, step (Og n j c s) = st_ou n j c s) (R : Left2 E_ou → Prop) (n : Int) (c : Cm) (hn : n = c.m) (hm : c.m = (c.l.length : Int)) (hl : c.l.length ≤ 1000) (f : Nat) :
    ∀ (j : Int) (s : SS), 0 ≤ j → n - j = f → s.1.length = c.l.length → s.2.length + f * 1000 ≤ 1000000 → (okS (outR c.l c.re c.dr f j.toNat s) = true → R ⟨.exit 0, Og n n c (getS (outR c.l c.re c.dr f j.toNat s))⟩) →
      (okS (outR c.l c.re c.dr f j.toNat s) = false → R ⟨.ret, Rs 4⟩) → Rnds2 L_ou E_ou step R (f + 1) (Og n j c s) := by
  induction f with
  | zero =>
    intro j s _ hk _ _ h1 _
    have e : j = n := by omega
    subst e
    intro _
    rw [hs]
    unfold st_ou
    rw [decide_eq_false (show ¬ j < j by omega)]
    exact ⟨selfL_ok _, fun _ => h1 rfl⟩
  | succ f ih =>
    intro j s hj hk hsl hsh h1 h2
    intro _
    rw [hs]
    unfold st_ou
    rw [outR_succ] at h1 h2
    have hjt : (j + 1).toNat = j.toNat + 1 := by omega
    have hmk : (c.m - (j + 1)).toNat = c.l.length - (j.toNat + 1) := by omega
    have hok : okI j (j + 1) c s = true := decide_eq_true ⟨hj, by omega, by omega, by omega, hm, hl, hsl, by omega⟩
    rw [show W64 (j + 1) = j + 1 from wrap_id (by omega) (by omega), decide_eq_true (show j < n by omega), hok, hjt, hmk]
    refine ⟨selfL_ok _, ?_⟩
    cases he : inR c.l c.re c.dr j.toNat (c.l.length - (j.toNat + 1)) (j.toNat + 1) s with
    | none =>
      rw [he] at h2
      exact ⟨selfL_ok _, fun _ => h2 rfl⟩
    | some s' =>
      rw [he, Option.bind_some] at h1 h2
      have hlen := inR_len _ _ _ _ he
      refine ⟨selfL_ok _, ih (j + 1) s' (by omega) (by omega) (hlen.1.trans hsl) (by omega) ?_ ?_⟩
      · rw [hjt]; exact h1
      · rw [hjt]; exact h2
theorem l_ou : LoopOk Try.prog 69 lb_ou (loopSum2 L_ou E_ou fin_ou) := by
  refine loopOk_of2 puSe_ok 7 69 Lt_ou ?_ L_ou E_ou (fun e => by cases e <;> first | exact Nat.le_refl _ | exact (show 900 ≤ 1000 by omega)) fin_ou (fun g => st_ou g.1.2.2.1 g.1.2.2.2.1 (cmO g) (ssO g)) e_ou ?_
  · intro d hd f hf
    have hl : loopsOf lb_ou = [lb_in] := by kernel_rfl
    rw [hl, List.mem_singleton] at hd
    subst hd
    have hk : keyOf lb_in = 4 := by kernel_rfl
    rw [hk] at hf
    have : Lt_ou 4 = some (loopSum2 L_in E_in fin_in) := rfl
    rw [this, Option.some.injEq] at hf
    subst hf
    exact l_in
  intro g R _ hf
  obtain ⟨hf, h0⟩ := hf
  cases hc : okO g.1.2.2.1 g.1.2.2.2.1 (cmO g) (ssO g) with
  | false => exact (h0 hc).elim
  | true =>
    obtain ⟨h1, h2⟩ := hf hc
    obtain ⟨k1, k2, k3, k4, k5, k6, k7⟩ := of_decide_eq_true hc
    exact ⟨_, rnds_ou (fun _ _ _ _ => rfl) R g.1.2.2.1 (cmO g) k3 k4 k5 (g.1.2.2.1 - g.1.2.2.2.1).toNat g.1.2.2.2.1 (ssO g) k1 (Int.toNat_of_nonneg (Int.sub_nonneg.2 k2)).symm k6 k7 h1 h2⟩
theorem is_Settle : FnIs Try.prog (18, Try.f18) := ⟨Try.func18, by kernel_rfl, by kernel_rfl⟩
theorem is_pairs : FnIs Try.prog (38, Try.f38) := ⟨Try.func38, by kernel_rfl, by kernel_rfl⟩
theorem is_pairs1 : FnIs Try.prog (69, Try.f69) := ⟨Try.func69, by kernel_rfl, by kernel_rfl⟩
/-! the contract -/
abbrev RSet := TCTs [.sl cMot, .sl cPair, cI]
def SettleR (l : List (TCT cBall)) (s : List (TCT cMot)) (re dr : Int) : RSet :=
  bif chkR l s != 0 then ([], [], chkR l s, ()) else bif !bncB re dr then ([], [], 2, ()) else
  bif okS (outR l re dr l.length 0 (s, [])) then ((getS (outR l re dr l.length 0 (s, []))).1, (getS (outR l re dr l.length 0 (s, []))).2, 0, ()) else ([], [], 4, ())
def plSet : List (Nat × PureT) := (36, s_lcheck) :: plO
theorem puSet : PuOk Try.prog plSet := puOk_cons is_lcheck.plain q_lcheck puOw
noncomputable def X_Settle : Ctx := ctxL Try.prog plSet [(18, Try.f18), (38, Try.f38), (69, Try.f69)] [((69, 1), loopSum2 L_ou E_ou fin_ou)]
def T_Settle (l : List (TCT cBall)) (s : List (TCT cMot)) (re dr : Int) : Tree RSet :=
  bif chkR l s != 0 then .leaf ([], [], chkR l s, ()) else bif okE (bncB re dr) != 0 then .leaf ([], [], okE (bncB re dr), ()) else
  bif appOk ([] : List (TCT cMot)) s 48 then
    .need (selfL [lk_Se]) (bif okO (l.length : Int) 0 ⟨l, re, dr, [], [], 0, (l.length : Int)⟩ (s, []) then
      bif okS (outR l re dr ((l.length : Int) - 0).toNat (0 : Int).toNat (s, [])) then .leaf ((getS (outR l re dr ((l.length : Int) - 0).toNat (0 : Int).toNat (s, []))).1, (getS (outR l re dr ((l.length : Int) - 0).toNat (0 : Int).toNat (s, []))).2, 0, ()) else .leaf ([], [], 4, ()) else .fail) else .fail
theorem T_Settle_eq (x : TCTs [.sl cBall, .sl cMot, cBnc]) : evFn X_Settle 7 (.fn 18) (encAs [.sl cBall, .sl cMot, cBnc] x) noHeap 0 (outK Try.prog [.sl cMot, .sl cPair, cI]) = T_Settle x.1 x.2.1 x.2.2.1.1 x.2.2.1.2.1 := by kernel_rfl
theorem chk_ok {l : List (TCT cBall)} {s : List (TCT cMot)} (h : chkR l s = 0) : l.length ≤ 8 ∧ l.length = s.length ∧ (l.zip s).all okBM = true := by
  unfold chkR at h
  cases h1 : decide ((l.length : Int) > 8) with
  | true => rw [h1] at h; simp at h
  | false =>
    rw [h1, cond_false] at h
    cases h2 : ((l.length : Int) != (s.length : Int)) with
    | true => rw [h2] at h; simp at h
    | false =>
      rw [h2, cond_false] at h
      have k1 := of_decide_eq_false h1
      have k2 : (l.length : Int) = (s.length : Int) := by simpa using h2
      refine ⟨by omega, by omega, ?_⟩
      cases h3 : (l.zip s).all okBM with
      | true => rfl
      | false => rw [h3] at h; simp [okE] at h
theorem T_Settle_ok (l : List (TCT cBall)) (s : List (TCT cMot)) (re dr : Int) : (T_Settle l s re dr).sat (fun y => y = SettleR l s re dr) := by
  unfold T_Settle SettleR
  cases hc : chkR l s != 0 with
  | true => exact Eq.refl _
  | false =>
    have hc' : chkR l s = 0 := by simpa using hc
    obtain ⟨k1, k2, _⟩ := chk_ok hc'
    unfold okE
    cases hb : bncB re dr with
    | false => exact Eq.refl _
    | true =>
      have ha : appOk ([] : List (TCT cMot)) s 48 = true := by
        rw [appOk_eq]; refine decide_eq_true ?_; simp only [List.length_nil]; omega
      have ho : okO (l.length : Int) 0 ⟨l, re, dr, [], [], 0, (l.length : Int)⟩ (s, []) = true := decide_eq_true ⟨by omega, by omega, rfl, rfl, by show l.length ≤ 1000; omega, k2.symm, by show 0 + ((l.length : Int) - 0).toNat * 1000 ≤ 1000000; omega⟩
      rw [ha, ho, show ((l.length : Int) - 0).toNat = l.length by omega, show (0 : Int).toNat = 0 from rfl]
      refine ⟨selfL_ok _, ?_⟩
      cases okS (outR l re dr l.length 0 (s, [])) <;> exact Eq.refl _
theorem X_Settle_ok : CtxOk X_Settle := by
  refine ctxL_ok mixed puSet (fns_cons is_Settle (fns_cons is_pairs (fns_cons is_pairs1 fns_nil))) ?_
  intro p hp d hd g hg
  simp only [List.mem_cons, List.not_mem_nil, or_false] at hp
  rcases hp with rfl | rfl | rfl
  · simp only [assoc2] at hg
    rw [show Nat.beq 69 18 = false from rfl, Bool.false_and] at hg
    cases hg
  · simp only [assoc2] at hg
    rw [show Nat.beq 69 38 = false from rfl, Bool.false_and] at hg
    cases hg
  · have hl : loopsOf (bodyOf Try.f69) = [lb_ou, lb_in] := by kernel_rfl
    simp only at hd hg
    rw [hl] at hd
    simp only [List.mem_cons, List.not_mem_nil, or_false] at hd
    rcases hd with rfl | rfl
    · have hk : keyOf lb_ou = 1 := by kernel_rfl
      rw [hk] at hg
      simp [assoc2] at hg
      subst hg
      exact l_ou
    · have hk : keyOf lb_in = 4 := by kernel_rfl
      rw [hk] at hg
      simp only [assoc2] at hg
      rw [show Nat.beq 1 4 = false from rfl, Bool.and_false] at hg
      cases hg
abbrev s_Settle : PureT := spec [.sl cBall, .sl cMot, cBnc] [.sl cMot, .sl cPair, cI] (fun _ => true) (fun x => ((SettleR x.1 x.2.1 x.2.2.1.1 x.2.2.1.2.1).1, (SettleR x.1 x.2.1 x.2.2.1.1 x.2.2.1.2.1).2.1, (SettleR x.1 x.2.1 x.2.2.1.1 x.2.2.1.2.1).2.2.1, ()))
theorem q_Settle : PureOk Try.prog 18 s_Settle := q_by X_Settle_ok 7 (fun x => T_Settle x.1 x.2.1 x.2.2.1.1 x.2.2.1.2.1) (fun x => T_Settle_eq x) fun _ _ _ => T_Settle_ok _ _ _ _
end V
end Go.Proofs.Ytialgmhhkbdegaa
