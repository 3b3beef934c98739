import Derived.Test.YtkiaifmbbnnliaaGreatSc
namespace Go.Proofs.YtkiaifmbbnnliaaGreat
open Go.RowKit
namespace V
noncomputable def A12 : Code := (A8 (bodyOf Tryz.f120)).getD 1 .skip
noncomputable def A7o : Code := (A8 (bodyOf Tryz.f120)).getD 0 .skip
def O5 : Lay := { keys := [0, 1, 5, 6, 7, 8, 10, 11, 12, 13], ks := [.d (.sl A4), .d (.sl Aj), .p 0 0 0 0, .d (.sl Aj), .d (.sl Eg), .d cI, .o 62 Aj, .o 154 Eg, .d cI, .d cI], bs := [(0, 32, [.d cI, .d cI])], n := 86, nx := 1000, marks := [] }
def P2 : Lay := { keys := [0, 1, 5, 6, 7, 8, 10, 11, 12], ks := [.d (.sl A4), .d (.sl Aj), .p 0 0 0 0, .d (.sl Aj), .d (.sl Eg), .d cI, .o 62 Aj, .o 154 Eg, .d cI], bs := [(0, 32, [.d cI, .d cI])], n := 86, nx := 900, marks := [] }
def B8i : Lay := { keys := [6, 7, 8], ks := [.d (.sl Aj), .d (.sl Eg), .d cI], bs := [], n := 86, nx := 1000, marks := [] }
def Wu : XE → Lay := fun e => match e with | .ret => B8i | _ => O5
def Zi : XE → Lay := fun e => match e with | .ret => B8i | _ => P2
structure Dm where
 l : List (TCT A4)
 s0 : List (TCT Aj)
 re : Int
 dr : Int
 r1 : List (TCT Aj)
 r2 : List (TCT Eg)
 r3 : Int
def Jg (i k : Int) (c : Dm) (s : SS) : O5.T := ((c.l, c.s0, (), c.r1, c.r2, c.r3, s.1, s.2, i, k, ()), (c.re, c.dr, ()), ())
def Kg (i : Int) (c : Dm) (s : SS) : P2.T := ((c.l, c.s0, (), c.r1, c.r2, c.r3, s.1, s.2, i, ()), (c.re, c.dr, ()), ())
def Rr (e : Int) : B8i.T := (([], [], e, ()), ())
def dmI (g : O5.T) : Dm := ⟨g.1.1, g.1.2.1, g.2.1.1, g.2.1.2.1, g.1.2.2.2.1, g.1.2.2.2.2.1, g.1.2.2.2.2.2.1⟩
def dsI (g : O5.T) : SS := (g.1.2.2.2.2.2.2.1, g.1.2.2.2.2.2.2.2.1)
def dmO (g : P2.T) : Dm := ⟨g.1.1, g.1.2.1, g.2.1.1, g.2.1.2.1, g.1.2.2.2.1, g.1.2.2.2.2.1, g.1.2.2.2.2.2.1⟩
def dsO (g : P2.T) : SS := (g.1.2.2.2.2.2.2.1, g.1.2.2.2.2.2.2.2.1)
def A7p (i k : Int) (c : Dm) (s : SS) : Tree (O5.T ⊕ A1 Wu) :=
 bif decide (k < (c.l.length : Int)) then
 bif decide (0 ≤ i ∧ i < (c.l.length : Int)) then bif decide (0 ≤ i ∧ i < (s.1.length : Int)) then bif decide (i.toNat < s.1.length) then
 bif decide (0 ≤ k ∧ k < (c.l.length : Int)) then bif decide (0 ≤ k ∧ k < (s.1.length : Int)) then bif decide (k.toNat < s.1.length) then
 bif (O4 c.l s.1 c.re c.dr i k).2.2.1 == 4 then .leaf (.inr ⟨.ret, Rr (O4 c.l s.1 c.re c.dr i k).2.2.1⟩) else
 bif (O4 c.l s.1 c.re c.dr i k).2.2.1 == 0 then
  bif decide (0 ≤ i ∧ i < (s.1.length : Int)) then bif decide (i.toNat < s.1.length) then
  bif decide (0 ≤ k ∧ k < ((B5 s.1 i.toNat (O4 c.l s.1 c.re c.dr i k).1).length : Int)) then bif decide (k.toNat < (B5 s.1 i.toNat (O4 c.l s.1 c.re c.dr i k).1).length) then
  bif Ex s.2 [(i, k, ())] 16 then
   .leaf (.inl (Jg i (W64 (k + 1)) c (B5 (B5 s.1 i.toNat (O4 c.l s.1 c.re c.dr i k).1) k.toNat (O4 c.l s.1 c.re c.dr i k).2.1, s.2 ++ [(i, k, ())]))) else .fail else .fail else .fail else .fail else .fail
 else .leaf (.inl (Jg i (W64 (k + 1)) c s))
 else .fail else .fail else .fail else .fail else .fail else .fail
 else .leaf (.inr ⟨.exit 2, Jg i k c s⟩)
def T3 : List (Nat × PureT) := (157, Q5) :: (158, Qh) :: Bf3
theorem Asj : By Tryz.prog T3 := A0 is_rlists.plain Asg (A0 is_rBounce.plain Ajv B9b)
theorem Bij (g : O5.T) : evC Tryz.prog (C4 (ctx Tryz.prog T3 []) 7) T3 120 64 (fun _ => none) A12 (O5.of g) (F4 O5 Wu) = A7p g.1.2.2.2.2.2.2.2.2.1 g.1.2.2.2.2.2.2.2.2.2.1 (dmI g) (dsI g) := by kernel_rfl
def Azl (i k : Int) (c : Dm) (s : SS) : Bool := decide (0 ≤ i ∧ i < (c.l.length : Int) ∧ i + 1 ≤ k ∧ k ≤ (c.l.length : Int) ∧ c.l.length ≤ 1000 ∧ s.1.length = c.l.length ∧ s.2.length + ((c.l.length : Int) - k).toNat ≤ 1000000)
def Azm (i k : Int) (c : Dm) (s : SS) : Tree (A1 Wu) :=
 .br (Azl i k c s) (.br (okS (inR c.l c.re c.dr i.toNat ((c.l.length : Int) - k).toNat k.toNat s)) (.leaf ⟨.exit 2, Jg i (c.l.length : Int) c (O2 (inR c.l c.re c.dr i.toNat ((c.l.length : Int) - k).toNat k.toNat s))⟩) (.leaf ⟨.ret, Rr 4⟩)) .fail
def A36 (g : O5.T) : Tree (A1 Wu) := Azm g.1.2.2.2.2.2.2.2.2.1 g.1.2.2.2.2.2.2.2.2.2.1 (dmI g) (dsI g)
theorem Azn {step : O5.T → Tree (O5.T ⊕ A1 Wu)} (hs : ∀ i k c s, step (Jg i k c s) = A7p i k c s) (R : A1 Wu → Prop) (i : Int) (c : Dm) (hi : 0 ≤ i) (hil : i < (c.l.length : Int)) (hl : c.l.length ≤ 1000) (f : Nat) :
  ∀ (k : Int) (s : SS), i + 1 ≤ k → (c.l.length : Int) - k = f → s.1.length = c.l.length → s.2.length + f ≤ 1000000 → (okS (inR c.l c.re c.dr i.toNat f k.toNat s) = true → R ⟨.exit 2, Jg i (c.l.length : Int) c (O2 (inR c.l c.re c.dr i.toNat f k.toNat s))⟩) →
   (okS (inR c.l c.re c.dr i.toNat f k.toNat s) = false → R ⟨.ret, Rr 4⟩) → Zt O5 Wu step R (f + 1) (Jg i k c s) := by
 induction f with
 | zero =>
  intro k s _ hk _ _ h1 _
  have e : k = (c.l.length : Int) := by omega
  subst e
  intro _
  rw [hs]
  unfold A7p
  rw [decide_eq_false (show ¬ (c.l.length : Int) < (c.l.length : Int) by omega)]
  exact fun _ => h1 rfl
 | succ f ih =>
  intro k s hik hk hsl hsh h1 h2
  intro _
  rw [hs]
  unfold A7p
  rw [A7h] at h1 h2
  have hlt : k < (c.l.length : Int) := by omega
  have hkn : ((k.toNat : Nat) : Int) = k := by omega
  have hin : ((i.toNat : Nat) : Int) = i := by omega
  rw [Agn, decide_eq_true hlt, decide_eq_true (show 0 ≤ i ∧ i < (c.l.length : Int) from ⟨hi, hil⟩), decide_eq_true (show 0 ≤ i ∧ i < (s.1.length : Int) by omega), decide_eq_true (show i.toNat < s.1.length by omega),
   decide_eq_true (show 0 ≤ k ∧ k < (c.l.length : Int) by omega), decide_eq_true (show 0 ≤ k ∧ k < (s.1.length : Int) by omega), decide_eq_true (show k.toNat < s.1.length by omega), Br, decide_eq_true (show 0 ≤ k ∧ k < (s.1.length : Int) by omega), decide_eq_true (show k.toNat < s.1.length by omega),
   B3p (show s.2.length ≤ 1000000 by omega), show W64 (k + 1) = k + 1 from A5 (by omega) (by omega)]
  have hkt : (k + 1).toNat = k.toNat + 1 := by omega
  cases e2 : (Bw (bAt c.l s.1 i.toNat) (bAt c.l s.1 k.toNat) c.re c.dr).2.2.1 == 4 with
  | true =>
   have e4 := eq_of_beq e2
   have hst : Ej c.l c.re c.dr i.toNat k.toNat s = none := by unfold Ej; rw [e4]; exact Eq.refl _
   rw [hst] at h2
   have := h2 rfl
   rw [← e4] at this
   exact fun _ => this
  | false =>
   cases e1 : (Bw (bAt c.l s.1 i.toNat) (bAt c.l s.1 k.toNat) c.re c.dr).2.2.1 == 0 with
   | true =>
    have hst : Ej c.l c.re c.dr i.toNat k.toNat s = some (B5 (B5 s.1 i.toNat (Bw (bAt c.l s.1 i.toNat) (bAt c.l s.1 k.toNat) c.re c.dr).1) k.toNat (Bw (bAt c.l s.1 i.toNat) (bAt c.l s.1 k.toNat) c.re c.dr).2.1, s.2 ++ [(i, k, ())]) := by
     unfold Ej; rw [e1, hkn, hin]; rfl
    rw [hst, Option.bind_some] at h1 h2
    refine ih (k + 1) _ (by omega) (by omega) (by simp only [Br]; exact hsl) (by simp only [List.length_append, List.length_cons, List.length_nil]; omega) ?_ ?_
    ·rw [hkt]; exact h1
    ·rw [hkt]; exact h2
   | false =>
    have hst : Ej c.l c.re c.dr i.toNat k.toNat s = some s := by unfold Ej; rw [e1, e2]; rfl
    rw [hst, Option.bind_some] at h1 h2
    refine ih (k + 1) _ (by omega) (by omega) hsl (by omega) ?_ ?_
    ·rw [hkt]; exact h1
    ·rw [hkt]; exact h2
theorem Bik : Ae Tryz.prog 120 A12 (A9 O5 Wu A36) := by
 refine E0 (X := ctx Tryz.prog T3 []) (Ad Ab Asj A2) 7 120 (fun _ => none) (fun _ _ f h => by simp at h) O5 Wu (fun e => by cases e <;> exact Nat.le_refl _) A36 (fun g => A7p g.1.2.2.2.2.2.2.2.2.1 g.1.2.2.2.2.2.2.2.2.2.1 (dmI g) (dsI g)) Bij ?_
 intro g R _ hf
 obtain ⟨hf, h0⟩ := hf
 cases hc : Azl g.1.2.2.2.2.2.2.2.2.1 g.1.2.2.2.2.2.2.2.2.2.1 (dmI g) (dsI g) with
 | false => exact (h0 hc).elim
 | true =>
  obtain ⟨h1, h2⟩ := hf hc
  obtain ⟨k1, k2, k3, k4, k6, k7, k8⟩ := of_decide_eq_true hc
  exact ⟨_, Azn (fun _ _ _ _ => rfl) R g.1.2.2.2.2.2.2.2.2.1 (dmI g) k1 k2 k6 (((dmI g).l.length : Int) - g.1.2.2.2.2.2.2.2.2.2.1).toNat g.1.2.2.2.2.2.2.2.2.2.1 (dsI g) k3 (Int.toNat_of_nonneg (Int.sub_nonneg.2 k4)).symm k7 k8 h1 h2⟩
noncomputable def Ask : Ib := fun k => bif Nat.beq k 12 then some (A9 O5 Wu A36) else none
def A7q (j : Int) (c : Dm) (s : SS) : Tree (P2.T ⊕ A1 Zi) :=
 bif decide (j < (c.l.length : Int)) then
  bif Azl j (W64 (j + 1)) c s then
   bif okS (inR c.l c.re c.dr j.toNat ((c.l.length : Int) - W64 (j + 1)).toNat (W64 (j + 1)).toNat s) then .leaf (.inl (Kg (W64 (j + 1)) c (O2 (inR c.l c.re c.dr j.toNat ((c.l.length : Int) - W64 (j + 1)).toNat (W64 (j + 1)).toNat s))))
   else .leaf (.inr ⟨.ret, Rr 4⟩) else .fail
 else .leaf (.inr ⟨.exit 0, Kg j c s⟩)
theorem Bil (g : P2.T) : evC Tryz.prog (C4 (ctx Tryz.prog T3 []) 7) T3 120 64 Ask A7o (P2.of g) (F4 P2 Zi) = A7q g.1.2.2.2.2.2.2.2.2.1 (dmO g) (dsO g) := by kernel_rfl
def Azo (j : Int) (c : Dm) (s : SS) : Bool := decide (0 ≤ j ∧ j ≤ (c.l.length : Int) ∧ c.l.length ≤ 1000 ∧ s.1.length = c.l.length ∧ s.2.length + ((c.l.length : Int) - j).toNat * 1000 ≤ 1000000)
def Azp (j : Int) (c : Dm) (s : SS) : Tree (A1 Zi) :=
 .br (Azo j c s) (.br (okS (Fo c.l c.re c.dr ((c.l.length : Int) - j).toNat j.toNat s)) (.leaf ⟨.exit 0, Kg (c.l.length : Int) c (O2 (Fo c.l c.re c.dr ((c.l.length : Int) - j).toNat j.toNat s))⟩) (.leaf ⟨.ret, Rr 4⟩)) .fail
def Ac7 (g : P2.T) : Tree (A1 Zi) := Azp g.1.2.2.2.2.2.2.2.2.1 (dmO g) (dsO g)
theorem Azq {step : P2.T → Tree (P2.T ⊕ A1 Zi)} (hs : ∀ j c s, step (Kg j c s) = A7q j c s) (R : A1 Zi → Prop) (c : Dm) (hl : c.l.length ≤ 1000) (f : Nat) :
  ∀ (j : Int) (s : SS), 0 ≤ j → (c.l.length : Int) - j = f → s.1.length = c.l.length → s.2.length + f * 1000 ≤ 1000000 → (okS (Fo c.l c.re c.dr f j.toNat s) = true → R ⟨.exit 0, Kg (c.l.length : Int) c (O2 (Fo c.l c.re c.dr f j.toNat s))⟩) →
   (okS (Fo c.l c.re c.dr f j.toNat s) = false → R ⟨.ret, Rr 4⟩) → Zt P2 Zi step R (f + 1) (Kg j c s) := by
 induction f with
 | zero =>
  intro j s _ hk _ _ h1 _
  have e : j = (c.l.length : Int) := by omega
  subst e
  intro _
  rw [hs]
  unfold A7q
  rw [decide_eq_false (show ¬ (c.l.length : Int) < (c.l.length : Int) by omega)]
  exact fun _ => h1 rfl
 | succ f ih =>
  intro j s hj hk hsl hsh h1 h2
  intro _
  rw [hs]
  unfold A7q
  rw [K6] at h1 h2
  have hjt : (j + 1).toNat = j.toNat + 1 := by omega
  have hmk : ((c.l.length : Int) - (j + 1)).toNat = c.l.length - (j.toNat + 1) := by omega
  have hok : Azl j (j + 1) c s = true := decide_eq_true ⟨hj, by omega, by omega, by omega, hl, hsl, by omega⟩
  rw [show W64 (j + 1) = j + 1 from A5 (by omega) (by omega), decide_eq_true (show j < (c.l.length : Int) by omega), hok, hjt, hmk]
  cases he : inR c.l c.re c.dr j.toNat (c.l.length - (j.toNat + 1)) (j.toNat + 1) s with
  | none =>
   rw [he] at h2
   exact fun _ => h2 rfl
  | some s' =>
   rw [he, Option.bind_some] at h1 h2
   have hlen := A34 _ _ _ _ he
   refine ih (j + 1) s' (by omega) (by omega) (hlen.1.trans hsl) (by omega) ?_ ?_
   ·rw [hjt]; exact h1
   ·rw [hjt]; exact h2
theorem Bim : Ae Tryz.prog 120 A7o (A9 P2 Zi Ac7) := by
 refine E0 (X := ctx Tryz.prog T3 []) (Ad Ab Asj A2) 7 120 Ask ?_ P2 Zi (fun e => by cases e <;> first | exact Nat.le_refl _ | exact (show 900 ≤ 1000 by omega)) Ac7 (fun g => A7q g.1.2.2.2.2.2.2.2.2.1 (dmO g) (dsO g)) Bil ?_
 ·intro d hd f hf
  have hl : A8 A7o = [A12] := by kernel_rfl
  rw [hl, List.mem_singleton] at hd
  subst hd
  have hk : keyOf A12 = 12 := by kernel_rfl
  rw [hk] at hf
  have : Ask 12 = some (A9 O5 Wu A36) := rfl
  rw [this, Option.some.injEq] at hf
  subst hf
  exact Bik
 intro g R _ hf
 obtain ⟨hf, h0⟩ := hf
 cases hc : Azo g.1.2.2.2.2.2.2.2.2.1 (dmO g) (dsO g) with
 | false => exact (h0 hc).elim
 | true =>
  obtain ⟨h1, h2⟩ := hf hc
  obtain ⟨k1, k2, k5, k6, k7⟩ := of_decide_eq_true hc
  exact ⟨_, Azq (fun _ _ _ => rfl) R (dmO g) k5 (((dmO g).l.length : Int) - g.1.2.2.2.2.2.2.2.2.1).toNat g.1.2.2.2.2.2.2.2.2.1 (dsO g) k1 (Int.toNat_of_nonneg (Int.sub_nonneg.2 k2)).symm k6 k7 h1 h2⟩
theorem is_rSettle : FnIs Tryz.prog (120, Tryz.f120) := ⟨Tryz.func120, by kernel_rfl, by kernel_rfl⟩
noncomputable def A13 : Ctx := Gu Tryz.prog T3 [(120, Tryz.f120)] [((120, 9), A9 P2 Zi Ac7)]
theorem A37 : CtxOk A13 := by
 refine Bx Ab Asj (fns_cons is_rSettle A2) ?_
 intro p hp d hd g hg
 simp only [List.mem_singleton] at hp
 subst hp
 have hl : A8 (bodyOf Tryz.f120) = [A7o, A12] := by kernel_rfl
 simp only at hd hg
 rw [hl] at hd
 simp only [List.mem_cons, List.not_mem_nil, or_false] at hd
 rcases hd with rfl | rfl
 ·have hk : keyOf A7o = 9 := by kernel_rfl
  rw [hk] at hg
  simp [Bn] at hg
  subst hg
  exact Bim
 ·have hk : keyOf A12 = 12 := by kernel_rfl
  rw [hk] at hg
  simp only [Bn] at hg
  rw [show Nat.beq 9 12 = false from rfl, Bool.and_false] at hg
  cases hg
def Nd (l : List (TCT A4)) (s : List (TCT Aj)) (re dr : Int) : Tree Ajb :=
 bif J3 l s != 0 then .leaf ([], [], J3 l s, ()) else bif okE (Hr re dr) != 0 then .leaf ([], [], 2, ()) else
 bif Ex ([] : List (TCT Aj)) s 48 then
  bif Azo 0 ⟨l, s, re, dr, [], [], 0⟩ (s, []) then
   bif okS (Fo l re dr ((l.length : Int) - 0).toNat (0 : Int).toNat (s, [])) then .leaf ((O2 (Fo l re dr ((l.length : Int) - 0).toNat (0 : Int).toNat (s, []))).1, (O2 (Fo l re dr ((l.length : Int) - 0).toNat (0 : Int).toNat (s, []))).2, 0, ()) else .leaf ([], [], 4, ()) else .fail else .fail
theorem A38 (x : TCTs [.sl A4, .sl Aj, D5]) : C4 A13 7 (.fn 120) (Ce [.sl A4, .sl Aj, D5] x) Be 0 (Ft Tryz.prog [.sl Aj, .sl Eg, cI]) = Nd x.1 x.2.1 x.2.2.1.1 x.2.2.1.2.1 := by kernel_rfl
theorem A39 (l : List (TCT A4)) (s : List (TCT Aj)) (re dr : Int) : (Nd l s re dr).sat (fun y => y = C3 l s re dr) := by
 unfold Nd C3
 cases hc : J3 l s != 0 with
 | true => exact Eq.refl _
 | false =>
  have hc' : J3 l s = 0 := by simpa using hc
  obtain ⟨k1, k2, _⟩ := Ac6 hc'
  unfold okE
  cases hb : Hr re dr with
  | false => exact Eq.refl _
  | true =>
   have ha : Ex ([] : List (TCT Aj)) s 48 = true := by
    rw [Ke]; refine decide_eq_true ?_; simp only [List.length_nil]; omega
   have ho : Azo 0 ⟨l, s, re, dr, [], [], 0⟩ (s, []) = true := decide_eq_true ⟨by omega, by show (0 : Int) ≤ (l.length : Int); omega, by show l.length ≤ 1000; omega, k2.symm, by show 0 + ((l.length : Int) - 0).toNat * 1000 ≤ 1000000; omega⟩
   rw [ha, ho, show ((l.length : Int) - 0).toNat = l.length by omega, show (0 : Int).toNat = 0 from rfl]
   cases okS (Fo l re dr l.length 0 (s, [])) <;> exact Eq.refl _
theorem Ajc : A7 Tryz.prog 120 Q7 := B6 A37 7 (fun x => Nd x.1 x.2.1 x.2.2.1.1 x.2.2.1.2.1) (fun x => A38 x) fun _ _ _ => A39 _ _ _ _
end V
end Go.Proofs.YtkiaifmbbnnliaaGreat
