import Derived.Test.YtkiaifmbbnnliaaGreatSc
namespace Go.Proofs.YtkiaifmbbnnliaaGreat
open Go.RowKit
namespace V
noncomputable def Zx : Code := (A8 (bodyOf Tryz.f120)).getD 1 .skip
noncomputable def A67 : Code := (A8 (bodyOf Tryz.f120)).getD 0 .skip
def O3 : Lay := { keys := [0, 1, 5, 6, 7, 8, 10, 11, 12, 13], ks := [.d (.sl A3), .d (.sl Ai), .p 0 0 0 0, .d (.sl Ai), .d (.sl Ea), .d cI, .o 62 Ai, .o 154 Ea, .d cI, .d cI], bs := [(0, 32, [.d cI, .d cI])], n := 86, nx := 1000, marks := [] }
def Ox : Lay := { keys := [0, 1, 5, 6, 7, 8, 10, 11, 12], ks := [.d (.sl A3), .d (.sl Ai), .p 0 0 0 0, .d (.sl Ai), .d (.sl Ea), .d cI, .o 62 Ai, .o 154 Ea, .d cI], bs := [(0, 32, [.d cI, .d cI])], n := 86, nx := 900, marks := [] }
def B1l : Lay := { keys := [6, 7, 8], ks := [.d (.sl Ai), .d (.sl Ea), .d cI], bs := [], n := 86, nx := 1000, marks := [] }
def Vv : XE → Lay := fun e => match e with | .ret => B1l | _ => O3
def Yg : XE → Lay := fun e => match e with | .ret => B1l | _ => Ox
structure Dm where
 l : List (TCT A3)
 s0 : List (TCT Ai)
 re : Int
 dr : Int
 r1 : List (TCT Ai)
 r2 : List (TCT Ea)
 r3 : Int
def Jg (i k : Int) (c : Dm) (s : SS) : O3.T := ((c.l, c.s0, (), c.r1, c.r2, c.r3, s.1, s.2, i, k, ()), (c.re, c.dr, ()), ())
def Kg (i : Int) (c : Dm) (s : SS) : Ox.T := ((c.l, c.s0, (), c.r1, c.r2, c.r3, s.1, s.2, i, ()), (c.re, c.dr, ()), ())
def Rr (e : Int) : B1l.T := (([], [], e, ()), ())
def dmI (g : O3.T) : Dm := ⟨g.1.1, g.1.2.1, g.2.1.1, g.2.1.2.1, g.1.2.2.2.1, g.1.2.2.2.2.1, g.1.2.2.2.2.2.1⟩
def dsI (g : O3.T) : SS := (g.1.2.2.2.2.2.2.1, g.1.2.2.2.2.2.2.2.1)
def dmO (g : Ox.T) : Dm := ⟨g.1.1, g.1.2.1, g.2.1.1, g.2.1.2.1, g.1.2.2.2.1, g.1.2.2.2.2.1, g.1.2.2.2.2.2.1⟩
def dsO (g : Ox.T) : SS := (g.1.2.2.2.2.2.2.1, g.1.2.2.2.2.2.2.2.1)
def A68 (i k : Int) (c : Dm) (s : SS) : Tree (O3.T ⊕ A1 Vv) :=
 bif decide (k < (c.l.length : Int)) then
 bif decide (0 ≤ i ∧ i < (c.l.length : Int)) then bif decide (0 ≤ i ∧ i < (s.1.length : Int)) then bif decide (i.toNat < s.1.length) then
 bif decide (0 ≤ k ∧ k < (c.l.length : Int)) then bif decide (0 ≤ k ∧ k < (s.1.length : Int)) then bif decide (k.toNat < s.1.length) then
 bif (O2 c.l s.1 c.re c.dr i k).2.2.1 == 4 then .leaf (.inr ⟨.ret, Rr (O2 c.l s.1 c.re c.dr i k).2.2.1⟩) else
 bif (O2 c.l s.1 c.re c.dr i k).2.2.1 == 0 then
  bif decide (0 ≤ i ∧ i < (s.1.length : Int)) then bif decide (i.toNat < s.1.length) then
  bif decide (0 ≤ k ∧ k < ((B1 s.1 i.toNat (O2 c.l s.1 c.re c.dr i k).1).length : Int)) then bif decide (k.toNat < (B1 s.1 i.toNat (O2 c.l s.1 c.re c.dr i k).1).length) then
  bif Ey s.2 [(i, k, ())] 16 then
   .leaf (.inl (Jg i (W64 (k + 1)) c (B1 (B1 s.1 i.toNat (O2 c.l s.1 c.re c.dr i k).1) k.toNat (O2 c.l s.1 c.re c.dr i k).2.1, s.2 ++ [(i, k, ())]))) else .fail else .fail else .fail else .fail else .fail
 else .leaf (.inl (Jg i (W64 (k + 1)) c s))
 else .fail else .fail else .fail else .fail else .fail else .fail
 else .leaf (.inr ⟨.exit 2, Jg i k c s⟩)
def Sq : List (Nat × PureT) := (157, Py) :: (158, Qc) :: B6z
theorem Ani : Bu Tryz.prog Sq := A0 is_rlists.plain Ane (A0 is_rBounce.plain Agb B2e)
theorem B9w (g : O3.T) : evC Tryz.prog (Ch (ctx Tryz.prog Sq []) 7) Sq 120 64 (fun _ => none) Zx (O3.of g) (En O3 Vv) = A68 g.1.2.2.2.2.2.2.2.2.1 g.1.2.2.2.2.2.2.2.2.2.1 (dmI g) (dsI g) := by kernel_rfl
def Aui (i k : Int) (c : Dm) (s : SS) : Bool := decide (0 ≤ i ∧ i < (c.l.length : Int) ∧ i + 1 ≤ k ∧ k ≤ (c.l.length : Int) ∧ c.l.length ≤ 1000 ∧ s.1.length = c.l.length ∧ s.2.length + ((c.l.length : Int) - k).toNat ≤ 1000000)
def Auj (i k : Int) (c : Dm) (s : SS) : Tree (A1 Vv) :=
 .br (Aui i k c s) (.br (okS (inR c.l c.re c.dr i.toNat ((c.l.length : Int) - k).toNat k.toNat s)) (.leaf ⟨.exit 2, Jg i (c.l.length : Int) c (O0 (inR c.l c.re c.dr i.toNat ((c.l.length : Int) - k).toNat k.toNat s))⟩) (.leaf ⟨.ret, Rr 4⟩)) .fail
def A20 (g : O3.T) : Tree (A1 Vv) := Auj g.1.2.2.2.2.2.2.2.2.1 g.1.2.2.2.2.2.2.2.2.2.1 (dmI g) (dsI g)
theorem Auk {step : O3.T → Tree (O3.T ⊕ A1 Vv)} (hs : ∀ i k c s, step (Jg i k c s) = A68 i k c s) (R : A1 Vv → Prop) (i : Int) (c : Dm) (hi : 0 ≤ i) (hil : i < (c.l.length : Int)) (hl : c.l.length ≤ 1000) (f : Nat) :
  ∀ (k : Int) (s : SS), i + 1 ≤ k → (c.l.length : Int) - k = f → s.1.length = c.l.length → s.2.length + f ≤ 1000000 → (okS (inR c.l c.re c.dr i.toNat f k.toNat s) = true → R ⟨.exit 2, Jg i (c.l.length : Int) c (O0 (inR c.l c.re c.dr i.toNat f k.toNat s))⟩) →
   (okS (inR c.l c.re c.dr i.toNat f k.toNat s) = false → R ⟨.ret, Rr 4⟩) → Yr O3 Vv step R (f + 1) (Jg i k c s) := by
 induction f with
 | zero =>
  intro k s _ hk _ _ h1 _
  have e : k = (c.l.length : Int) := by omega
  subst e
  intro _
  rw [hs]
  unfold A68
  rw [decide_eq_false (show ¬ (c.l.length : Int) < (c.l.length : Int) by omega)]
  exact fun _ => h1 rfl
 | succ f ih =>
  intro k s hik hk hsl hsh h1 h2
  intro _
  rw [hs]
  unfold A68
  rw [A60] at h1 h2
  have hlt : k < (c.l.length : Int) := by omega
  have hkn : ((k.toNat : Nat) : Int) = k := by omega
  have hin : ((i.toNat : Nat) : Int) = i := by omega
  rw [Add, decide_eq_true hlt, decide_eq_true (show 0 ≤ i ∧ i < (c.l.length : Int) from ⟨hi, hil⟩), decide_eq_true (show 0 ≤ i ∧ i < (s.1.length : Int) by omega), decide_eq_true (show i.toNat < s.1.length by omega),
   decide_eq_true (show 0 ≤ k ∧ k < (c.l.length : Int) by omega), decide_eq_true (show 0 ≤ k ∧ k < (s.1.length : Int) by omega), decide_eq_true (show k.toNat < s.1.length by omega), Be, decide_eq_true (show 0 ≤ k ∧ k < (s.1.length : Int) by omega), decide_eq_true (show k.toNat < s.1.length by omega),
   Axs (show s.2.length ≤ 1000000 by omega), show W64 (k + 1) = k + 1 from A6 (by omega) (by omega)]
  have hkt : (k + 1).toNat = k.toNat + 1 := by omega
  cases e2 : (B7 (bAt c.l s.1 i.toNat) (bAt c.l s.1 k.toNat) c.re c.dr).2.2.1 == 4 with
  | true =>
   have e4 := eq_of_beq e2
   have hst : Dh c.l c.re c.dr i.toNat k.toNat s = none := by unfold Dh; rw [e4]; exact Eq.refl _
   rw [hst] at h2
   have := h2 rfl
   rw [← e4] at this
   exact fun _ => this
  | false =>
   cases e1 : (B7 (bAt c.l s.1 i.toNat) (bAt c.l s.1 k.toNat) c.re c.dr).2.2.1 == 0 with
   | true =>
    have hst : Dh c.l c.re c.dr i.toNat k.toNat s = some (B1 (B1 s.1 i.toNat (B7 (bAt c.l s.1 i.toNat) (bAt c.l s.1 k.toNat) c.re c.dr).1) k.toNat (B7 (bAt c.l s.1 i.toNat) (bAt c.l s.1 k.toNat) c.re c.dr).2.1, s.2 ++ [(i, k, ())]) := by
     unfold Dh; rw [e1, hkn, hin]; rfl
    rw [hst, Option.bind_some] at h1 h2
    refine ih (k + 1) _ (by omega) (by omega) (by simp only [Be]; exact hsl) (by simp only [List.length_append, List.length_cons, List.length_nil]; omega) ?_ ?_
    ·rw [hkt]; exact h1
    ·rw [hkt]; exact h2
   | false =>
    have hst : Dh c.l c.re c.dr i.toNat k.toNat s = some s := by unfold Dh; rw [e1, e2]; rfl
    rw [hst, Option.bind_some] at h1 h2
    refine ih (k + 1) _ (by omega) (by omega) hsl (by omega) ?_ ?_
    ·rw [hkt]; exact h1
    ·rw [hkt]; exact h2
theorem B9x : Aj Tryz.prog 120 Zx (Ac O3 Vv A20) := by
 refine Dc (X := ctx Tryz.prog Sq []) (Ad Ab Ani A2) 7 120 (fun _ => none) (fun _ _ f h => by simp at h) O3 Vv (fun e => by cases e <;> exact Nat.le_refl _) A20 (fun g => A68 g.1.2.2.2.2.2.2.2.2.1 g.1.2.2.2.2.2.2.2.2.2.1 (dmI g) (dsI g)) B9w ?_
 intro g R _ hf
 obtain ⟨hf, h0⟩ := hf
 cases hc : Aui g.1.2.2.2.2.2.2.2.2.1 g.1.2.2.2.2.2.2.2.2.2.1 (dmI g) (dsI g) with
 | false => exact (h0 hc).elim
 | true =>
  obtain ⟨h1, h2⟩ := hf hc
  obtain ⟨k1, k2, k3, k4, k6, k7, k8⟩ := of_decide_eq_true hc
  exact ⟨_, Auk (fun _ _ _ _ => rfl) R g.1.2.2.2.2.2.2.2.2.1 (dmI g) k1 k2 k6 (((dmI g).l.length : Int) - g.1.2.2.2.2.2.2.2.2.2.1).toNat g.1.2.2.2.2.2.2.2.2.2.1 (dsI g) k3 (Int.toNat_of_nonneg (Int.sub_nonneg.2 k4)).symm k7 k8 h1 h2⟩
noncomputable def Anj : Jh := fun k => bif Nat.beq k 12 then some (Ac O3 Vv A20) else none
def A69 (j : Int) (c : Dm) (s : SS) : Tree (Ox.T ⊕ A1 Yg) :=
 bif decide (j < (c.l.length : Int)) then
  bif Aui j (W64 (j + 1)) c s then
   bif okS (inR c.l c.re c.dr j.toNat ((c.l.length : Int) - W64 (j + 1)).toNat (W64 (j + 1)).toNat s) then .leaf (.inl (Kg (W64 (j + 1)) c (O0 (inR c.l c.re c.dr j.toNat ((c.l.length : Int) - W64 (j + 1)).toNat (W64 (j + 1)).toNat s))))
   else .leaf (.inr ⟨.ret, Rr 4⟩) else .fail
 else .leaf (.inr ⟨.exit 0, Kg j c s⟩)
theorem B9y (g : Ox.T) : evC Tryz.prog (Ch (ctx Tryz.prog Sq []) 7) Sq 120 64 Anj A67 (Ox.of g) (En Ox Yg) = A69 g.1.2.2.2.2.2.2.2.2.1 (dmO g) (dsO g) := by kernel_rfl
def Aul (j : Int) (c : Dm) (s : SS) : Bool := decide (0 ≤ j ∧ j ≤ (c.l.length : Int) ∧ c.l.length ≤ 1000 ∧ s.1.length = c.l.length ∧ s.2.length + ((c.l.length : Int) - j).toNat * 1000 ≤ 1000000)
def Aum (j : Int) (c : Dm) (s : SS) : Tree (A1 Yg) :=
 .br (Aul j c s) (.br (okS (Em c.l c.re c.dr ((c.l.length : Int) - j).toNat j.toNat s)) (.leaf ⟨.exit 0, Kg (c.l.length : Int) c (O0 (Em c.l c.re c.dr ((c.l.length : Int) - j).toNat j.toNat s))⟩) (.leaf ⟨.ret, Rr 4⟩)) .fail
def Aa1 (g : Ox.T) : Tree (A1 Yg) := Aum g.1.2.2.2.2.2.2.2.2.1 (dmO g) (dsO g)
theorem Aun {step : Ox.T → Tree (Ox.T ⊕ A1 Yg)} (hs : ∀ j c s, step (Kg j c s) = A69 j c s) (R : A1 Yg → Prop) (c : Dm) (hl : c.l.length ≤ 1000) (f : Nat) :
  ∀ (j : Int) (s : SS), 0 ≤ j → (c.l.length : Int) - j = f → s.1.length = c.l.length → s.2.length + f * 1000 ≤ 1000000 → (okS (Em c.l c.re c.dr f j.toNat s) = true → R ⟨.exit 0, Kg (c.l.length : Int) c (O0 (Em c.l c.re c.dr f j.toNat s))⟩) →
   (okS (Em c.l c.re c.dr f j.toNat s) = false → R ⟨.ret, Rr 4⟩) → Yr Ox Yg step R (f + 1) (Kg j c s) := by
 induction f with
 | zero =>
  intro j s _ hk _ _ h1 _
  have e : j = (c.l.length : Int) := by omega
  subst e
  intro _
  rw [hs]
  unfold A69
  rw [decide_eq_false (show ¬ (c.l.length : Int) < (c.l.length : Int) by omega)]
  exact fun _ => h1 rfl
 | succ f ih =>
  intro j s hj hk hsl hsh h1 h2
  intro _
  rw [hs]
  unfold A69
  rw [Gp] at h1 h2
  have hjt : (j + 1).toNat = j.toNat + 1 := by omega
  have hmk : ((c.l.length : Int) - (j + 1)).toNat = c.l.length - (j.toNat + 1) := by omega
  have hok : Aui j (j + 1) c s = true := decide_eq_true ⟨hj, by omega, by omega, by omega, hl, hsl, by omega⟩
  rw [show W64 (j + 1) = j + 1 from A6 (by omega) (by omega), decide_eq_true (show j < (c.l.length : Int) by omega), hok, hjt, hmk]
  cases he : inR c.l c.re c.dr j.toNat (c.l.length - (j.toNat + 1)) (j.toNat + 1) s with
  | none =>
   rw [he] at h2
   exact fun _ => h2 rfl
  | some s' =>
   rw [he, Option.bind_some] at h1 h2
   have hlen := A1x _ _ _ _ he
   refine ih (j + 1) s' (by omega) (by omega) (hlen.1.trans hsl) (by omega) ?_ ?_
   ·rw [hjt]; exact h1
   ·rw [hjt]; exact h2
theorem B9z : Aj Tryz.prog 120 A67 (Ac Ox Yg Aa1) := by
 refine Dc (X := ctx Tryz.prog Sq []) (Ad Ab Ani A2) 7 120 Anj ?_ Ox Yg (fun e => by cases e <;> first | exact Nat.le_refl _ | exact (show 900 ≤ 1000 by omega)) Aa1 (fun g => A69 g.1.2.2.2.2.2.2.2.2.1 (dmO g) (dsO g)) B9y ?_
 ·intro d hd f hf
  have hl : A8 A67 = [Zx] := by kernel_rfl
  rw [hl, List.mem_singleton] at hd
  subst hd
  have hk : keyOf Zx = 12 := by kernel_rfl
  rw [hk] at hf
  have : Anj 12 = some (Ac O3 Vv A20) := rfl
  rw [this, Option.some.injEq] at hf
  subst hf
  exact B9x
 intro g R _ hf
 obtain ⟨hf, h0⟩ := hf
 cases hc : Aul g.1.2.2.2.2.2.2.2.2.1 (dmO g) (dsO g) with
 | false => exact (h0 hc).elim
 | true =>
  obtain ⟨h1, h2⟩ := hf hc
  obtain ⟨k1, k2, k5, k6, k7⟩ := of_decide_eq_true hc
  exact ⟨_, Aun (fun _ _ _ => rfl) R (dmO g) k5 (((dmO g).l.length : Int) - g.1.2.2.2.2.2.2.2.2.1).toNat g.1.2.2.2.2.2.2.2.2.1 (dsO g) k1 (Int.toNat_of_nonneg (Int.sub_nonneg.2 k2)).symm k6 k7 h1 h2⟩
theorem is_rSettle : FnIs Tryz.prog (120, Tryz.f120) := ⟨Tryz.func120, by kernel_rfl, by kernel_rfl⟩
noncomputable def Zy : Ctx := Hk Tryz.prog Sq [(120, Tryz.f120)] [((120, 9), Ac Ox Yg Aa1)]
theorem A21 : CtxOk Zy := by
 refine Bw Ab Ani (fns_cons is_rSettle A2) ?_
 intro p hp d hd g hg
 simp only [List.mem_singleton] at hp
 subst hp
 have hl : A8 (bodyOf Tryz.f120) = [A67, Zx] := by kernel_rfl
 simp only at hd hg
 rw [hl] at hd
 simp only [List.mem_cons, List.not_mem_nil, or_false] at hd
 rcases hd with rfl | rfl
 ·have hk : keyOf A67 = 9 := by kernel_rfl
  rw [hk] at hg
  simp [Bo] at hg
  subst hg
  exact B9z
 ·have hk : keyOf Zx = 12 := by kernel_rfl
  rw [hk] at hg
  simp only [Bo] at hg
  rw [show Nat.beq 9 12 = false from rfl, Bool.and_false] at hg
  cases hg
def Nb (l : List (TCT A3)) (s : List (TCT Ai)) (re dr : Int) : Tree Anh :=
 bif I4 l s != 0 then .leaf ([], [], I4 l s, ()) else bif okE (Gh re dr) != 0 then .leaf ([], [], 2, ()) else
 bif Ey ([] : List (TCT Ai)) s 48 then
  bif Aul 0 ⟨l, s, re, dr, [], [], 0⟩ (s, []) then
   bif okS (Em l re dr ((l.length : Int) - 0).toNat (0 : Int).toNat (s, [])) then .leaf ((O0 (Em l re dr ((l.length : Int) - 0).toNat (0 : Int).toNat (s, []))).1, (O0 (Em l re dr ((l.length : Int) - 0).toNat (0 : Int).toNat (s, []))).2, 0, ()) else .leaf ([], [], 4, ()) else .fail else .fail
theorem A22 (x : TCTs [.sl A3, .sl Ai, Dz]) : Ch Zy 7 (.fn 120) (Co [.sl A3, .sl Ai, Dz] x) Bl 0 (Hn Tryz.prog [.sl Ai, .sl Ea, cI]) = Nb x.1 x.2.1 x.2.2.1.1 x.2.2.1.2.1 := by kernel_rfl
theorem A23 (l : List (TCT A3)) (s : List (TCT Ai)) (re dr : Int) : (Nb l s re dr).sat (fun y => y = Bi l s re dr) := by
 unfold Nb Bi
 cases hc : I4 l s != 0 with
 | true => exact Eq.refl _
 | false =>
  have hc' : I4 l s = 0 := by simpa using hc
  obtain ⟨k1, k2, _⟩ := A1z hc'
  unfold okE
  cases hb : Gh re dr with
  | false => exact Eq.refl _
  | true =>
   have ha : Ey ([] : List (TCT Ai)) s 48 = true := by
    rw [Ka]; refine decide_eq_true ?_; simp only [List.length_nil]; omega
   have ho : Aul 0 ⟨l, s, re, dr, [], [], 0⟩ (s, []) = true := decide_eq_true ⟨by omega, by show (0 : Int) ≤ (l.length : Int); omega, by show l.length ≤ 1000; omega, k2.symm, by show 0 + ((l.length : Int) - 0).toNat * 1000 ≤ 1000000; omega⟩
   rw [ha, ho, show ((l.length : Int) - 0).toNat = l.length by omega, show (0 : Int).toNat = 0 from rfl]
   cases okS (Em l re dr l.length 0 (s, [])) <;> exact Eq.refl _
theorem Afr : A7 Tryz.prog 120 Q0 := B2 A21 7 (fun x => Nb x.1 x.2.1 x.2.2.1.1 x.2.2.1.2.1) (fun x => A22 x) fun _ _ _ => A23 _ _ _ _
end V
end Go.Proofs.YtkiaifmbbnnliaaGreat
