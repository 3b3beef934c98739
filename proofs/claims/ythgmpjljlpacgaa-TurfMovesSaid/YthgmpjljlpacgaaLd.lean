/- The law TurfMoves: its walk by the evaluator. For all arguments the law returns true: both sides have one contract. -/
import Derived.Test.YthgmpjljlpacgaaTh
import Derived.Test.YthgmpjljlpacgaaEm
namespace Go.Proofs.Ythgmpjljlpacgaa
open Go.RowKit Ev
theorem is_TurfMoves : FnIs Try.prog (6, Try.f6) := ⟨Try.func6, by kernel_rfl, by kernel_rfl⟩
def pl_moves : List (Nat × PureT) := [(16, g_First), (20, g_First), (18, g_Towards), (21, g_Towards), (14, g_fine)]
theorem pu_moves : PuOk Try.prog pl_moves := puOk_cons is_First.plain p_First (puOk_cons is_refFirst.plain p_refFirst (puOk_cons is_Towards.plain p_Towards (puOk_cons is_refTowards.plain p_refTowards (puOk_cons is_fine.plain p_fine puOk_nil))))
theorem moves_walk (px py vx vy qx qy wx wy r n l : Int) (h1 : inK .i64 px) (h2 : inK .i64 py) (h3 : inK .i64 vx) (h4 : inK .i64 vy) (h5 : inK .i64 qx) (h6 : inK .i64 qy) (h7 : inK .i64 wx) (h8 : inK .i64 wy) (hr : inK .i64 r) (hn : inK .i64 n) (hl : inK .i64 l) (w : World) :
    Calls Try.prog 6 #[.agg #[.int .i64 px, .int .i64 py], .agg #[.int .i64 vx, .int .i64 vy], .agg #[.int .i64 qx, .int .i64 qy], .agg #[.int .i64 wx, .int .i64 wy], .int .i64 r, .int .i64 n, .int .i64 l] w fun e w' => e = .returned (.bool true) ∧ Below w.heap.size w w' := by
  have e : evFn (ctx Try.prog pl_moves [(6, Try.f6)]) 3 6 [.agg [.int .i64 px, .int .i64 py], .agg [.int .i64 vx, .int .i64 vy], .agg [.int .i64 qx, .int .i64 qy], .agg [.int .i64 wx, .int .i64 wy], .int .i64 r, .int .i64 n, .int .i64 l] noHeap 0 lawK =
      bif (Fs px py vx vy qx qy wx wy r n).1 == (Fs px py vx vy qx qy wx wy r n).1 then bif (Fs px py vx vy qx qy wx wy r n).2 == (Fs px py vx vy qx qy wx wy r n).2 then
      bif (TwR px py qx qy l).1.1 == (TwR px py qx qy l).1.1 && ((TwR px py qx qy l).1.2 == (TwR px py qx qy l).1.2 && true) then bif (TwR px py qx qy l).2 == (TwR px py qx qy l).2 then .leaf () else .fail else .fail else .fail else .fail := by kernel_rfl
  refine law_calls (xs := [.agg [.int .i64 px, .int .i64 py], .agg [.int .i64 vx, .int .i64 vy], .agg [.int .i64 qx, .int .i64 qy], .agg [.int .i64 wx, .int .i64 wy], .int .i64 r, .int .i64 n, .int .i64 l])
    (us := [.agg #[.int .i64 px, .int .i64 py], .agg #[.int .i64 vx, .int .i64 vy], .agg #[.int .i64 qx, .int .i64 qy], .agg #[.int .i64 wx, .int .i64 wy], .int .i64 r, .int .i64 n, .int .i64 l]) (ctx_ok mixed pu_moves (fns_cons is_TurfMoves fns_nil)) 3 ?_ ?_
  · simp only [repL_consI, repL_nilI, rep_aggI, rep_intI, and_true]
    exact ⟨⟨h1, h2⟩, ⟨h3, h4⟩, ⟨h5, h6⟩, ⟨h7, h8⟩, hr, hn, hl⟩
  · rw [e]
    simp only [beq_self_eq_true, Bool.and_self, cond_true]
    trivial
end Go.Proofs.Ythgmpjljlpacgaa
