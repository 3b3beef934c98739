import Derived.Test.YtkiaifmbbnnliaaGreatCA
namespace Go.Proofs.YtkiaifmbbnnliaaGreat
open Go.RowKit
namespace V
namespace St
theorem is_rCopy : FnIs Tryz.prog (20, Tryz.f20) := ⟨Tryz.func20, by kernel_rfl, by kernel_rfl⟩
theorem is_rsettle : FnIs Tryz.prog (63, Tryz.f63) := ⟨Tryz.func63, by kernel_rfl, by kernel_rfl⟩
theorem is_rcounts : FnIs Tryz.prog (119, Tryz.f119) := ⟨Tryz.func119, by kernel_rfl, by kernel_rfl⟩
abbrev plR4 : List (Nat × PureT) := (74, s_onB) :: (71, s_CellAt) :: (72, s_Slow) :: (126, s_Step) :: (127, s_Bump) :: (120, s_Settle) :: (125, s_Posts) :: plS4
theorem puR4 : PuOk Tryz.prog plR4 := puOk_cons is_rIs.plain q_rIs (puOk_cons is_rCellAt.plain q_rCellAt (puOk_cons is_rSlow.plain q_rSlow (puOk_cons is_rStep.plain q_rStep (puOk_cons is_rBump.plain q_rBump (puOk_cons is_rSettle.plain q_rSettle (puOk_cons is_rPosts.plain q_rPosts puS4))))))
noncomputable def X_r4 : Ctx := ctx Tryz.prog plR4 [(119, Tryz.f119)]
theorem X_r4_ok : CtxOk X_r4 := ctx_ok mixed puR4 (fns_cons is_rcounts fns_nil)
abbrev bsR : List BK := [(4, 34, kGr), (5, 38, kSo), (6, 38, kSo)]
abbrev kKn : SK := .o 57 cKn
def Lt_k (i nx : Nat) : Lay := { keys := [2, 3, 4, 8, 10, 11, i], ks := [.p 4 0 0 0, .p 5 0 0 0, .p 6 0 0 0, .d (.sl cDisc), kKn, .d cI, .d cI], bs := bsR, n := 233, nx := nx, marks := [] }
structure RT where
  g : SKTs kGr
  z : SKTs kSt
  w : Int
  fl : Int
  t : Int
  ps : Dss
  st : Int
def bR (c : RT) (s : S2) : SKTs kGr × SKTs kSo × SKTs kSt × Unit := (c.g, (s.1, s.2.1, c.w, c.fl, c.t, ()), c.z, ())
def rs (i nx : Nat) (g : (Lt_k i nx).T) : S2 := (g.2.2.1.1, g.2.2.1.2.1, g.1.2.2.2.2.1)
def nB (c : RT) : Nat := (blX c.g).length
def gmCx (g : SKTs kGr) : TCT cBnc := (g.2.2.2.2.2.2.2.2.2.2.2.2.1, g.2.2.2.2.2.2.2.2.2.2.2.2.2.1, ())
end St
end V
end Go.Proofs.YtkiaifmbbnnliaaGreat
