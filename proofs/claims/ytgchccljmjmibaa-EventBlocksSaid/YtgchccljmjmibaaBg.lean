/- event.Rounds: its contract: the rounds are those of a table. -/
import Derived.Test.YtgchccljmjmibaaBf
namespace Go.Proofs.Ytgchccljmjmibaa
open Go.RowKit
namespace V
namespace Ev
set_option maxRecDepth 100000
/-- the rounds of a block -/
def rnds (n : Nat) : List (List (Int × Int × Unit)) := match n with
  | 2 => rd_2
  | 3 => rd_3
  | 4 => rd_4
  | 5 => rd_5
  | 6 => rd_6
  | 7 => rd_7
  | 8 => rd_8
  | 9 => rd_9
  | 10 => rd_10
  | 11 => rd_11
  | 12 => rd_12
  | 13 => rd_13
  | 14 => rd_14
  | 15 => rd_15
  | 16 => rd_16
  | _ => []
theorem rd_case {T : Int → Tree (List (List (Int × Int × Unit)) × Int × Unit)} (h2 : T 2 = .leaf (rd_2, (0 : Int), ())) (h3 : T 3 = .leaf (rd_3, (0 : Int), ())) (h4 : T 4 = .leaf (rd_4, (0 : Int), ())) (h5 : T 5 = .leaf (rd_5, (0 : Int), ())) (h6 : T 6 = .leaf (rd_6, (0 : Int), ())) (h7 : T 7 = .leaf (rd_7, (0 : Int), ())) (h8 : T 8 = .leaf (rd_8, (0 : Int), ())) (h9 : T 9 = .leaf (rd_9, (0 : Int), ())) (h10 : T 10 = .leaf (rd_10, (0 : Int), ())) (h11 : T 11 = .leaf (rd_11, (0 : Int), ())) (h12 : T 12 = .leaf (rd_12, (0 : Int), ())) (h13 : T 13 = .leaf (rd_13, (0 : Int), ())) (h14 : T 14 = .leaf (rd_14, (0 : Int), ())) (h15 : T 15 = .leaf (rd_15, (0 : Int), ())) (h16 : T 16 = .leaf (rd_16, (0 : Int), ())) (n : Int) (h : 2 ≤ n ∧ n ≤ 16) : T n = .leaf (rnds n.toNat, (0 : Int), ()) := by
  obtain rfl | rfl | rfl | rfl | rfl | rfl | rfl | rfl | rfl | rfl | rfl | rfl | rfl | rfl | rfl : n = 2 ∨ n = 3 ∨ n = 4 ∨ n = 5 ∨ n = 6 ∨ n = 7 ∨ n = 8 ∨ n = 9 ∨ n = 10 ∨ n = 11 ∨ n = 12 ∨ n = 13 ∨ n = 14 ∨ n = 15 ∨ n = 16 := by omega
  · exact h2
  · exact h3
  · exact h4
  · exact h5
  · exact h6
  · exact h7
  · exact h8
  · exact h9
  · exact h10
  · exact h11
  · exact h12
  · exact h13
  · exact h14
  · exact h15
  · exact h16
theorem rd_all (n : Int) (h : 2 ≤ n ∧ n ≤ 16) : evFn XR 40 (.fn 18) (encAs [cI] (n, ())) noHeap 0 (outK XR.P [.sl (.sl cPr), cI]) = .leaf (rnds n.toNat, (0 : Int), ()) :=
  rd_case (T := fun n : Int => evFn XR 40 (.fn 18) (encAs [cI] (n, ())) noHeap 0 (outK XR.P [.sl (.sl cPr), cI])) r_2 r_3 r_4 r_5 r_6 r_7 r_8 r_9 r_10 r_11 r_12 r_13 r_14 r_15 r_16 n h
noncomputable abbrev s_Rounds : PureT := spec [cI] [.sl (.sl cPr), cI] (fun x => decide (2 ≤ x.1 ∧ x.1 ≤ 16)) (fun x => (rnds x.1.toNat, (0 : Int), ()))
theorem q_Rounds : PureOk Try.prog 18 s_Rounds :=
  q_by2 XR_ok 40 (fun x => evFn XR 40 (.fn 18) (encAs [cI] x) noHeap 0 (outK XR.P [.sl (.sl cPr), cI])) (fun x => .leaf (rnds x.1.toNat, (0 : Int), ())) (fun _ => rfl) (fun x h => rd_all x.1 (of_decide_eq_true h)) (fun _ _ _ => rfl)
end Ev
end V
end Go.Proofs.Ytgchccljmjmibaa
