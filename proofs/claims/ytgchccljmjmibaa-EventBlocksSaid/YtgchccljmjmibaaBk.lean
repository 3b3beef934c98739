/- Chapter 11: the number of a game: a contract. -/
import Derived.Test.YtgchccljmjmibaaBag
import Derived.Test.YtgchccljmjmibaaBb
namespace Go.Proofs.Ytgchccljmjmibaa
open Go.RowKit
namespace V
namespace Ev
/-- the number of a game, and the error -/
def gameV (n a b : Int) : Int × Int :=
  bif decide (n < 2) then (0, 3) else bif decide (n > 16) then (0, 3) else bif decide (min a b < 0) then (0, 2) else bif decide (max a b ≥ n) then (0, 2) else bif a == b then (0, 2) else (W64 (W64 (W64 (W64 (Int.tdiv (W64 (min a b * W64 (W64 (W64 (2 * n) - min a b) - 1))) 2) + max a b) - min a b) - 1), 0)
abbrev TGm := Tree (TCTs [cI, cI])
def T_game (n a b : Int) : TGm :=
  bif decide (n < 2) then .leaf (0, 3, ()) else bif decide (n > 16) then .leaf (0, 3, ()) else bif decide (min a b < 0) then .leaf (0, 2, ()) else bif decide (max a b ≥ n) then .leaf (0, 2, ()) else bif a == b then .leaf (0, 2, ()) else .leaf (W64 (W64 (W64 (W64 (Int.tdiv (W64 (min a b * W64 (W64 (W64 (2 * n) - min a b) - 1))) 2) + max a b) - min a b) - 1), 0, ())
theorem T_game_ok (n a b : Int) : (T_game n a b).sat (fun y => y = ((gameV n a b).1, (gameV n a b).2, ())) := by
  unfold T_game gameV
  refine sat_cond (fun h => ?_) (fun h => ?_)
  · rw [h]; exact rfl
  rw [h]
  refine sat_cond (fun h => ?_) (fun h => ?_)
  · rw [h]; exact rfl
  rw [h]
  refine sat_cond (fun h => ?_) (fun h => ?_)
  · rw [h]; exact rfl
  rw [h]
  refine sat_cond (fun h => ?_) (fun h => ?_)
  · rw [h]; exact rfl
  rw [h]
  refine sat_cond (fun h => ?_) (fun h => ?_)
  · rw [h]; exact rfl
  rw [h]; exact rfl
abbrev s_Game : PureT := spec [cI, cI, cI] [cI, cI] (fun _ => true) (fun x => ((gameV x.1 x.2.1 x.2.2.1).1, (gameV x.1 x.2.1 x.2.2.1).2, ()))
theorem q_Game : PureOk Try.prog 19 s_Game := q_by (ctx_ok mixed puOk_nil allF_ok) 6 (fun x => T_game x.1 x.2.1 x.2.2.1) (fun x => by kernel_rfl) fun x _ _ => T_game_ok x.1 x.2.1 x.2.2.1
end Ev
end V
end Go.Proofs.Ytgchccljmjmibaa
