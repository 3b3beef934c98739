import Derived.Test.YtkiaifmbbnnliaaGreatUd
namespace Go.Proofs.YtkiaifmbbnnliaaGreat
open Go.RowKit
namespace V
def Av7 : List (Nat × PureT) := (167, Adn) :: (166, Ado) :: (165, Tv) :: plR
theorem B29 : Bu Tryz.prog Av7 := A0 is_rdot.plain B27 (A0 is_rway.plain B28 (A0 is_Close.plain Av5 puR))
abbrev Aok : PureT := B4 [cI, cI] [cI] (fun x => decide (0 ≤ x.1 ∧ 0 < x.2.1)) (fun x => (W64 (x.1.tdiv x.2.1), ()))
def Aaf (a b : Int) : Tree (TCTs [cI]) := bif b != 0 then bif b != 0 then bif decide (a.tmod b < 0) then .leaf (W64 (W64 (a.tdiv b) - 1), ()) else .leaf (W64 (a.tdiv b), ()) else .fail else .fail
theorem Ag7 (a b : Int) (h : decide (0 ≤ a ∧ 0 < b) = true) : (Aaf a b).sat (fun y => y = (W64 (a.tdiv b), ())) := by
 obtain ⟨h1, h2⟩ := of_decide_eq_true h
 unfold Aaf
 rw [show (b != 0) = true by simp; omega, decide_eq_false (show ¬ a.tmod b < 0 by have := Int.tmod_nonneg b h1; omega)]
 exact rfl
theorem B2a : A7 Tryz.prog 192 Aok := B2 (Ad Ab A9 (fns_cons is_down A2)) 2 (fun x => Aaf x.1 x.2.1) (fun x => by kernel_rfl) fun _ hok _ => Ag7 _ _ hok
def B6t : List (Nat × PureT) := (192, Aok) :: Av7
theorem Ba3 : Bu Tryz.prog B6t := A0 is_down.plain B2a B29
abbrev Aol : PureT := B4 [A3, Ai, A3, Ai] [cPt] (fun _ => true)
 (fun x => ((W64 (W64 (x.2.2.1.1 * x.2.1.2.1.1) - W64 (x.1.1 * x.2.2.2.1.2.1.1)), W64 (W64 (x.2.2.1.1 * x.2.1.2.1.2.1) - W64 (x.1.1 * x.2.2.2.1.2.1.2.1)), ()), ()))
theorem B2b : A7 Tryz.prog 199 Aol := S6 (Ad Ab A9 (fns_cons is_urge A2)) 2 (fun x => by kernel_rfl)
def Lrk : Lay := { keys := [3, 5, 8, 12], ks := [.d cI, .p 1 0 0 0, .p 3 0 0 0, .p 43 0 0 0], bs := [(1, 24, [.d cI, .d cI]), (3, 24, [.d cI, .d cI]), (43, 24, [.d cI, .d cI])], n := 91, nx := 45, marks := [] }
noncomputable def Aom : Code := (A8 (bodyOf Tryz.f168)).getD 0 .skip
def Rg (r1 r2 x y ux uy be : Int) : Lrk.T := ((be, (), (), (), ()), (ux, uy, ()), (r1, r2, ()), (x, y, ()), ())
def A6p : XE → Lay := fun _ => Lrk
def Adr (r1 r2 x y ux uy be : Int) : Tree (Lrk.T ⊕ A1 A6p) := bif hvS be ux uy x y then .leaf (.inl (Rg r1 r2 (A2g x) (A2g y) ux uy be)) else .leaf (.inr ⟨.exit 0, Rg r1 r2 x y ux uy be⟩)
def Aag (g : Lrk.T) : Tree (A1 A6p) := .leaf ⟨.exit 0, Rg g.2.2.1.1 g.2.2.1.2.1 (hv g.1.1 g.2.1.1 g.2.1.2.1 64 g.2.2.2.1.1 g.2.2.2.1.2.1).1 (hv g.1.1 g.2.1.1 g.2.1.2.1 64 g.2.2.2.1.1 g.2.2.2.1.2.1).2 g.2.1.1 g.2.1.2.1 g.1.1⟩
theorem Ads {step : Lrk.T → Tree (Lrk.T ⊕ A1 A6p)} (hs : ∀ r1 r2 x y ux uy be, step (Rg r1 r2 x y ux uy be) = Adr r1 r2 x y ux uy be) (R : A1 A6p → Prop) (r1 r2 ux uy be : Int) : ∀ (n : Nat) (x y : Int), x.natAbs < 2 ^ n → y.natAbs < 2 ^ n → inK .i64 x → inK .i64 y →
  R ⟨.exit 0, Rg r1 r2 (hv be ux uy n x y).1 (hv be ux uy n x y).2 ux uy be⟩ → Yr Lrk A6p step R (n + 1) (Rg r1 r2 x y ux uy be)
 | 0, x, y, hx, hy, _, _, h => by
  have e1 : x = 0 := by have : (2:Nat) ^ 0 = 1 := rfl; omega
  have e2 : y = 0 := by have : (2:Nat) ^ 0 = 1 := rfl; omega
  subst e1 e2
  intro _
  rw [hs]
  unfold Adr
  rw [A6n]
  exact fun _ => h
 | n + 1, x, y, hx, hy, kx, ky, h => by
  intro _
  rw [hs]
  unfold Adr
  unfold hv at h
  cases hc : hvS be ux uy x y with
  | true =>
   rw [hc, cond_true] at h
   obtain ⟨a1, a2⟩ := Tx hx kx
   obtain ⟨b1, b2⟩ := Tx hy ky
   exact Ads hs R r1 r2 ux uy be n _ _ a1 b1 a2 b2 h
  | false =>
   rw [hc, cond_false] at h
   exact fun _ => h
noncomputable def B6u : Ctx := ctx Tryz.prog Av7 []
theorem Aon : CtxOk B6u := Ad Ab B29 A2
theorem Av8 : Aj Tryz.prog 168 Aom (Ac Lrk A6p Aag) := by
 refine Dc Aon 3 168 (fun _ => none) (fun _ _ f h => by simp at h) Lrk A6p (fun _ => Nat.le_refl _) Aag (fun g => Adr g.2.2.1.1 g.2.2.1.2.1 g.2.2.2.1.1 g.2.2.2.1.2.1 g.2.1.1 g.2.1.2.1 g.1.1) (fun g => by kernel_rfl) ?_
 intro g R hw hf
 have hw' : (WFKs Lrk.ks g.1 ∧ WFB Lrk.bs g.2) := hw
 obtain ⟨_, _, _, hb, _⟩ := hw'
 have hb' : inK .i64 g.2.2.2.1.1 ∧ inK .i64 g.2.2.2.1.2.1 := by
  simp only [WFKs, WFK, WFD] at hb
  exact ⟨hb.1, hb.2.1⟩
 exact ⟨65, Ads (fun _ _ _ _ _ _ _ => rfl) R g.2.2.1.1 g.2.2.1.2.1 g.2.1.1 g.2.1.2.1 g.1.1 64 g.2.2.2.1.1 g.2.2.2.1.2.1 (Ty hb'.1) (Ty hb'.2) hb'.1 hb'.2 hf⟩
noncomputable def Av9 : Ctx := Hk Tryz.prog B6t [(168, Tryz.f168)] [((168, 5), Ac Lrk A6p Aag)]
theorem Aah : CtxOk Av9 := Bw Ab Ba3 (fns_cons is_rkick A2) (Bk (by kernel_rfl) (by kernel_rfl) Av8)
def A2j (nx ny ux uy re dr be : Int) : Tree (TCTs [cPt]) :=
 bif decide (0 ≤ kD nx ny ux uy ∧ 0 < kQ nx ny) then bif kQ nx ny != 0 then bif W64 (1000 * be) != 0 then bif W64 (1000 * be) != 0 then .leaf (((kK nx ny ux uy re dr be).1, (kK nx ny ux uy re dr be).2, ()), ()) else .fail else .fail else .fail else .fail
theorem Aai (nx ny ux uy re dr be : Int) (h : kOk nx ny ux uy be = true) : (A2j nx ny ux uy re dr be).sat (fun y => y = (((kK nx ny ux uy re dr be).1, (kK nx ny ux uy re dr be).2, ()), ())) := by
 obtain ⟨h1, h2, h3⟩ := of_decide_eq_true h
 unfold A2j
 rw [show (kQ nx ny != 0) = true by simp; omega, show (W64 (1000 * be) != 0) = true by simp; omega, decide_eq_true (⟨h3, h1⟩ : 0 ≤ kD nx ny ux uy ∧ 0 < kQ nx ny)]
 exact rfl
theorem Ava : A7 Tryz.prog 168 Nh := B2 Aah 3
 (fun x => A2j x.1.1 x.1.2.1 x.2.1.1 x.2.1.2.1 x.2.2.1.1 x.2.2.1.2.1 x.2.2.2.1) (fun x => by kernel_rfl) fun _ hok _ => Aai _ _ _ _ _ _ _ hok
end V
end Go.Proofs.YtkiaifmbbnnliaaGreat
