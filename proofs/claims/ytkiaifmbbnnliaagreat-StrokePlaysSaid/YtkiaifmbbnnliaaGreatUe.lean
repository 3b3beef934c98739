import Derived.Test.YtkiaifmbbnnliaaGreatUd
namespace Go.Proofs.YtkiaifmbbnnliaaGreat
open Go.RowKit
namespace V
def B0b : List (Nat × PureT) := (167, Agy) :: (166, Agz) :: (165, Un) :: plR
theorem B96 : By Tryz.prog B0b := A0 is_rdot.plain B94 (A0 is_rway.plain B95 (A0 is_Close.plain B09 puR))
abbrev Atj : PureT := B9 [cI, cI] [cI] (fun x => decide (0 ≤ x.1 ∧ 0 < x.2.1)) (fun x => (W64 (x.1.tdiv x.2.1), ()))
def Acm (a b : Int) : Tree (TCTs [cI]) := bif b != 0 then bif b != 0 then bif decide (a.tmod b < 0) then .leaf (W64 (W64 (a.tdiv b) - 1), ()) else .leaf (W64 (a.tdiv b), ()) else .fail else .fail
theorem Ajr (a b : Int) (h : decide (0 ≤ a ∧ 0 < b) = true) : (Acm a b).sat (fun y => y = (W64 (a.tdiv b), ())) := by
 obtain ⟨h1, h2⟩ := of_decide_eq_true h
 unfold Acm
 rw [show (b != 0) = true by simp; omega, decide_eq_false (show ¬ a.tmod b < 0 by have := Int.tmod_nonneg b h1; omega)]
 exact rfl
theorem B97 : A7 Tryz.prog 192 Atj := B6 (Ad Ab Aa (fns_cons is_down A2)) 2 (fun x => Acm x.1 x.2.1) (fun x => by kernel_rfl) fun _ hok _ => Ajr _ _ hok
def Bex : List (Nat × PureT) := (192, Atj) :: B0b
theorem Biq : By Tryz.prog Bex := A0 is_down.plain B97 B96
abbrev Atk : PureT := B9 [A4, Aj, A4, Aj] [cPt] (fun _ => true)
 (fun x => ((W64 (W64 (x.2.2.1.1 * x.2.1.2.1.1) - W64 (x.1.1 * x.2.2.2.1.2.1.1)), W64 (W64 (x.2.2.1.1 * x.2.1.2.1.2.1) - W64 (x.1.1 * x.2.2.2.1.2.1.2.1)), ()), ()))
theorem B98 : A7 Tryz.prog 199 Atk := Sf (Ad Ab Aa (fns_cons is_urge A2)) 2 (fun x => by kernel_rfl)
def Lrk : Lay := { keys := [3, 5, 8, 12], ks := [.d cI, .p 1 0 0 0, .p 3 0 0 0, .p 43 0 0 0], bs := [(1, 24, [.d cI, .d cI]), (3, 24, [.d cI, .d cI]), (43, 24, [.d cI, .d cI])], n := 91, nx := 45, marks := [] }
noncomputable def Atl : Code := (A8 (bodyOf Tryz.f168)).getD 0 .skip
def Rg (r1 r2 x y ux uy be : Int) : Lrk.T := ((be, (), (), (), ()), (ux, uy, ()), (r1, r2, ()), (x, y, ()), ())
def A88 : XE → Lay := fun _ => Lrk
def Ah2 (r1 r2 x y ux uy be : Int) : Tree (Lrk.T ⊕ A1 A88) := bif hvS be ux uy x y then .leaf (.inl (Rg r1 r2 (A3l x) (A3l y) ux uy be)) else .leaf (.inr ⟨.exit 0, Rg r1 r2 x y ux uy be⟩)
def Acn (g : Lrk.T) : Tree (A1 A88) := .leaf ⟨.exit 0, Rg g.2.2.1.1 g.2.2.1.2.1 (hv g.1.1 g.2.1.1 g.2.1.2.1 64 g.2.2.2.1.1 g.2.2.2.1.2.1).1 (hv g.1.1 g.2.1.1 g.2.1.2.1 64 g.2.2.2.1.1 g.2.2.2.1.2.1).2 g.2.1.1 g.2.1.2.1 g.1.1⟩
theorem Ah3 {step : Lrk.T → Tree (Lrk.T ⊕ A1 A88)} (hs : ∀ r1 r2 x y ux uy be, step (Rg r1 r2 x y ux uy be) = Ah2 r1 r2 x y ux uy be) (R : A1 A88 → Prop) (r1 r2 ux uy be : Int) : ∀ (n : Nat) (x y : Int), x.natAbs < 2 ^ n → y.natAbs < 2 ^ n → inK .i64 x → inK .i64 y →
  R ⟨.exit 0, Rg r1 r2 (hv be ux uy n x y).1 (hv be ux uy n x y).2 ux uy be⟩ → Zt Lrk A88 step R (n + 1) (Rg r1 r2 x y ux uy be)
 | 0, x, y, hx, hy, _, _, h => by
  have e1 : x = 0 := by have : (2:Nat) ^ 0 = 1 := rfl; omega
  have e2 : y = 0 := by have : (2:Nat) ^ 0 = 1 := rfl; omega
  subst e1 e2
  intro _
  rw [hs]
  unfold Ah2
  rw [A86]
  exact fun _ => h
 | n + 1, x, y, hx, hy, kx, ky, h => by
  intro _
  rw [hs]
  unfold Ah2
  unfold hv at h
  cases hc : hvS be ux uy x y with
  | true =>
   rw [hc, cond_true] at h
   obtain ⟨a1, a2⟩ := Up hx kx
   obtain ⟨b1, b2⟩ := Up hy ky
   exact Ah3 hs R r1 r2 ux uy be n _ _ a1 b1 a2 b2 h
  | false =>
   rw [hc, cond_false] at h
   exact fun _ => h
noncomputable def Bey : Ctx := ctx Tryz.prog B0b []
theorem Atm : CtxOk Bey := Ad Ab B96 A2
theorem B0c : Ae Tryz.prog 168 Atl (A9 Lrk A88 Acn) := by
 refine E0 Atm 3 168 (fun _ => none) (fun _ _ f h => by simp at h) Lrk A88 (fun _ => Nat.le_refl _) Acn (fun g => Ah2 g.2.2.1.1 g.2.2.1.2.1 g.2.2.2.1.1 g.2.2.2.1.2.1 g.2.1.1 g.2.1.2.1 g.1.1) (fun g => by kernel_rfl) ?_
 intro g R hw hf
 have hw' : (WFKs Lrk.ks g.1 ∧ WFB Lrk.bs g.2) := hw
 obtain ⟨_, _, _, hb, _⟩ := hw'
 have hb' : inK .i64 g.2.2.2.1.1 ∧ inK .i64 g.2.2.2.1.2.1 := by
  simp only [WFKs, WFK, WFD] at hb
  exact ⟨hb.1, hb.2.1⟩
 exact ⟨65, Ah3 (fun _ _ _ _ _ _ _ => rfl) R g.2.2.1.1 g.2.2.1.2.1 g.2.1.1 g.2.1.2.1 g.1.1 64 g.2.2.2.1.1 g.2.2.2.1.2.1 (Uq hb'.1) (Uq hb'.2) hb'.1 hb'.2 hf⟩
noncomputable def B0d : Ctx := Gu Tryz.prog Bex [(168, Tryz.f168)] [((168, 5), A9 Lrk A88 Acn)]
theorem Aco : CtxOk B0d := Bx Ab Biq (fns_cons is_rkick A2) (Bg (by kernel_rfl) (by kernel_rfl) B0c)
def A3o (nx ny ux uy re dr be : Int) : Tree (TCTs [cPt]) :=
 bif decide (0 ≤ kD nx ny ux uy ∧ 0 < kQ nx ny) then bif kQ nx ny != 0 then bif W64 (1000 * be) != 0 then bif W64 (1000 * be) != 0 then .leaf (((kK nx ny ux uy re dr be).1, (kK nx ny ux uy re dr be).2, ()), ()) else .fail else .fail else .fail else .fail
theorem Acp (nx ny ux uy re dr be : Int) (h : kOk nx ny ux uy be = true) : (A3o nx ny ux uy re dr be).sat (fun y => y = (((kK nx ny ux uy re dr be).1, (kK nx ny ux uy re dr be).2, ()), ())) := by
 obtain ⟨h1, h2, h3⟩ := of_decide_eq_true h
 unfold A3o
 rw [show (kQ nx ny != 0) = true by simp; omega, show (W64 (1000 * be) != 0) = true by simp; omega, decide_eq_true (⟨h3, h1⟩ : 0 ≤ kD nx ny ux uy ∧ 0 < kQ nx ny)]
 exact rfl
theorem B0e : A7 Tryz.prog 168 Nk := B6 Aco 3
 (fun x => A3o x.1.1 x.1.2.1 x.2.1.1 x.2.1.2.1 x.2.2.1.1 x.2.2.1.2.1 x.2.2.2.1) (fun x => by kernel_rfl) fun _ hok _ => Acp _ _ _ _ _ _ _ hok
end V
end Go.Proofs.YtkiaifmbbnnliaaGreat
