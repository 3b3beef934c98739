import Derived.Test.YtkiaifmbbnnliaaGreatUc
namespace Go.Proofs.YtkiaifmbbnnliaaGreat
open Go.RowKit
namespace V
theorem is_newKick : FnIs Tryz.prog (191, Tryz.f191) := ⟨Tryz.func191, by kernel_rfl, by kernel_rfl⟩
theorem is_great : FnIs Tryz.prog (202, Tryz.f202) := ⟨Tryz.func202, by kernel_rfl, by kernel_rfl⟩
theorem is_rkick : FnIs Tryz.prog (168, Tryz.f168) := ⟨Tryz.func168, by kernel_rfl, by kernel_rfl⟩
def plC : List (Nat × PureT) := (186, Adn) :: (190, Ado) :: (189, Tv) :: plB
theorem puC : Bu Tryz.prog plC := A0 is_dot.plain B6r (A0 is_way.plain B6s (A0 is_close.plain Av4 puB))
def hvS (be ux uy x y : Int) : Bool := decide (W64 (be * W64 (W64 (x * x) + W64 (y * y))) > W64 (2 * W64 (W64 (ux * x) + W64 (uy * y))))
def A2g (x : Int) : Int := W64 (x.tdiv 2)
def hv (be ux uy : Int) : Nat → Int → Int → Int × Int
 | 0, x, y => (x, y)
 | n + 1, x, y => bif hvS be ux uy x y then hv be ux uy n (A2g x) (A2g y) else (x, y)
theorem Tx {x : Int} {n : Nat} (h : x.natAbs < 2 ^ (n + 1)) (hx : inK .i64 x) : (A2g x).natAbs < 2 ^ n ∧ inK .i64 (A2g x) := by
 have ⟨a, b⟩ := B7c hx
 have h1 : (x.tdiv 2).natAbs = x.natAbs / 2 := Int.natAbs_tdiv x 2
 unfold A2g
 rw [show W64 (x.tdiv 2) = x.tdiv 2 from A6 (by omega) (by omega), h1]
 refine ⟨?_, ?_⟩
 ·rw [Nat.pow_succ] at h; omega
 ·simp only [inK, Hg, As]; omega
theorem A6n (be ux uy : Int) : hvS be ux uy 0 0 = false := by
 unfold hvS
 simp only [Int.mul_zero]
 rw [show W64 (W64 0 + W64 0) = 0 by decide, Int.mul_zero]
 decide
theorem Ty {x : Int} (h : inK .i64 x) : x.natAbs < 2 ^ 64 := by
 have ⟨a, b⟩ := B7c h
 have : (2 : Nat) ^ 64 = 18446744073709551616 := by decide
 omega
def Lnk : Lay := { keys := [8, 13, 14], ks := [.p 3 0 0 0, .p 4 0 0 0, .f 202 [.p 4 0 0 0] []], bs := [(3, 24, [.d cI, .d cI]), (4, 223, [.d cI, .d cI, .d cI, .d cI, .d cI])], n := 113, nx := 5, marks := [] }
noncomputable def Aac : Code := (A8 (bodyOf Tryz.f191)).getD 0 .skip
def Lg (r1 r2 x y ux uy be : Int) : Lnk.T := (((), (), (((), ()), ()), ()), (r1, r2, ()), (x, y, ux, uy, be, ()), ())
def A6o : XE → Lay := fun _ => Lnk
def Adp (r1 r2 x y ux uy be : Int) : Tree (Lnk.T ⊕ A1 A6o) := bif hvS be ux uy x y then .leaf (.inl (Lg r1 r2 (A2g x) (A2g y) ux uy be)) else .leaf (.inr ⟨.exit 0, Lg r1 r2 x y ux uy be⟩)
def Aad (g : Lnk.T) : Tree (A1 A6o) := .leaf ⟨.exit 0, Lg g.2.1.1 g.2.1.2.1 (hv g.2.2.1.2.2.2.2.1 g.2.2.1.2.2.1 g.2.2.1.2.2.2.1 64 g.2.2.1.1 g.2.2.1.2.1).1 (hv g.2.2.1.2.2.2.2.1 g.2.2.1.2.2.1 g.2.2.1.2.2.2.1 64 g.2.2.1.1 g.2.2.1.2.1).2 g.2.2.1.2.2.1 g.2.2.1.2.2.2.1 g.2.2.1.2.2.2.2.1⟩
theorem Adq {step : Lnk.T → Tree (Lnk.T ⊕ A1 A6o)} (hs : ∀ r1 r2 x y ux uy be, step (Lg r1 r2 x y ux uy be) = Adp r1 r2 x y ux uy be) (R : A1 A6o → Prop) (r1 r2 ux uy be : Int) : ∀ (n : Nat) (x y : Int), x.natAbs < 2 ^ n → y.natAbs < 2 ^ n → inK .i64 x → inK .i64 y →
  R ⟨.exit 0, Lg r1 r2 (hv be ux uy n x y).1 (hv be ux uy n x y).2 ux uy be⟩ → Yr Lnk A6o step R (n + 1) (Lg r1 r2 x y ux uy be)
 | 0, x, y, hx, hy, _, _, h => by
  have e1 : x = 0 := by have : (2:Nat) ^ 0 = 1 := rfl; omega
  have e2 : y = 0 := by have : (2:Nat) ^ 0 = 1 := rfl; omega
  subst e1 e2
  intro _
  rw [hs]
  unfold Adp
  rw [A6n]
  exact fun _ => h
 | n + 1, x, y, hx, hy, kx, ky, h => by
  intro _
  rw [hs]
  unfold Adp
  unfold hv at h
  cases hc : hvS be ux uy x y with
  | true =>
   rw [hc, cond_true] at h
   obtain ⟨a1, a2⟩ := Tx hx kx
   obtain ⟨b1, b2⟩ := Tx hy ky
   exact Adq hs R r1 r2 ux uy be n _ _ a1 b1 a2 b2 h
  | false =>
   rw [hc, cond_false] at h
   exact fun _ => h
noncomputable def Av6 : Ctx := ctx Tryz.prog plC [(202, Tryz.f202)]
theorem Aae : CtxOk Av6 := Ad Ab puC (fns_cons is_great A2)
theorem Ag4 : Aj Tryz.prog 191 Aac (Ac Lnk A6o Aad) := by
 refine Dc Aae 3 191 (fun _ => none) (fun _ _ f h => by simp at h) Lnk A6o (fun _ => Nat.le_refl _) Aad (fun g => Adp g.2.1.1 g.2.1.2.1 g.2.2.1.1 g.2.2.1.2.1 g.2.2.1.2.2.1 g.2.2.1.2.2.2.1 g.2.2.1.2.2.2.2.1) (fun g => by kernel_rfl) ?_
 intro g R hw hf
 have hw' : (WFKs Lnk.ks g.1 ∧ WFB Lnk.bs g.2) := hw
 obtain ⟨_, _, hb, _⟩ := hw'
 have hb' : inK .i64 g.2.2.1.1 ∧ inK .i64 g.2.2.1.2.1 := by
  simp only [WFKs, WFK, WFD] at hb
  exact ⟨hb.1, hb.2.1⟩
 exact ⟨65, Adq (fun _ _ _ _ _ _ _ => rfl) R g.2.1.1 g.2.1.2.1 g.2.2.1.2.2.1 g.2.2.1.2.2.2.1 g.2.2.1.2.2.2.2.1 64 g.2.2.1.1 g.2.2.1.2.1 (Ty hb'.1) (Ty hb'.2) hb'.1 hb'.2 hf⟩
def kQ (nx ny : Int) : Int := W64 (W64 (nx * nx) + W64 (ny * ny))
def kD (nx ny ux uy : Int) : Int := W64 (W64 (ux * nx) + W64 (uy * ny))
def kA (nx ny ux uy : Int) : Int := W64 ((kD nx ny ux uy).tdiv (kQ nx ny))
def kC (nx ny ux uy : Int) : Int := W64 ((W64 (W64 (uy * nx) - W64 (ux * ny))).tdiv (kQ nx ny))
def kX (nx ny ux uy re dr be : Int) : Int := W64 ((W64 (W64 (W64 (W64 (1000 + re) * nx) * kA nx ny ux uy) - W64 (W64 (dr * ny) * kC nx ny ux uy))).tdiv (W64 (1000 * be)))
def kY (nx ny ux uy re dr be : Int) : Int := W64 ((W64 (W64 (W64 (W64 (1000 + re) * ny) * kA nx ny ux uy) + W64 (W64 (dr * nx) * kC nx ny ux uy))).tdiv (W64 (1000 * be)))
def kK (nx ny ux uy re dr be : Int) : Int × Int := hv be ux uy 64 (kX nx ny ux uy re dr be) (kY nx ny ux uy re dr be)
def kOk (nx ny ux uy be : Int) : Bool := decide (0 < kQ nx ny ∧ 0 < W64 (1000 * be) ∧ 0 ≤ kD nx ny ux uy)
abbrev Nh : PureT := B4 [cPt, cPt, Dz, cI] [cPt] (fun x => kOk x.1.1 x.1.2.1 x.2.1.1 x.2.1.2.1 x.2.2.2.1)
 (fun x => (((kK x.1.1 x.1.2.1 x.2.1.1 x.2.1.2.1 x.2.2.1.1 x.2.2.1.2.1 x.2.2.2.1).1, (kK x.1.1 x.1.2.1 x.2.1.1 x.2.1.2.1 x.2.2.1.1 x.2.2.1.2.1 x.2.2.2.1).2, ()), ()))
noncomputable def Ag5 : Ctx := Hk Tryz.prog plC [(191, Tryz.f191)] [((191, 9), Ac Lnk A6o Aad)]
theorem A2h : CtxOk Ag5 := Bw Ab puC (fns_cons is_newKick A2) (Bk (by kernel_rfl) (by kernel_rfl) Ag4)
def Rq (nx ny ux uy re dr be : Int) : Tree (TCTs [cPt]) :=
 bif kQ nx ny != 0 then bif kQ nx ny != 0 then bif W64 (1000 * be) != 0 then bif W64 (1000 * be) != 0 then .leaf (((kK nx ny ux uy re dr be).1, (kK nx ny ux uy re dr be).2, ()), ()) else .fail else .fail else .fail else .fail
theorem A2i (nx ny ux uy re dr be : Int) (h : kOk nx ny ux uy be = true) : (Rq nx ny ux uy re dr be).sat (fun y => y = (((kK nx ny ux uy re dr be).1, (kK nx ny ux uy re dr be).2, ()), ())) := by
 obtain ⟨h1, h2, _⟩ := of_decide_eq_true h
 unfold Rq
 rw [show (kQ nx ny != 0) = true by simp; omega, show (W64 (1000 * be) != 0) = true by simp; omega]
 exact rfl
theorem Ag6 : A7 Tryz.prog 191 Nh := B2 A2h 3
 (fun x => Rq x.1.1 x.1.2.1 x.2.1.1 x.2.1.2.1 x.2.2.1.1 x.2.2.1.2.1 x.2.2.2.1) (fun x => by kernel_rfl) fun _ hok _ => A2i _ _ _ _ _ _ _ hok
end V
end Go.Proofs.YtkiaifmbbnnliaaGreat
