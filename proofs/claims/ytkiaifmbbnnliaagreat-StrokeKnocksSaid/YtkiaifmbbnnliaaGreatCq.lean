import Derived.Test.YtkiaifmbbnnliaaGreatCA
namespace Go.Proofs.YtkiaifmbbnnliaaGreat
open Go.RowKit
namespace V
namespace St
theorem is_l4great : FnIs Tryz.prog (14, Tryz.f14) := ⟨Tryz.func14, by kernel_rfl, by kernel_rfl⟩
def lfU : Tree Unit := .leaf ()
def gr_T (g : TCT cGr) (s : TCT cSt) (yes k : Tree Unit) : Tree Unit :=
  bif inKB .i64 (g.1.1.size : Int) then bif decide ((g.1.1.size : Int) > 100) then yes else bif decide (((hoopsL g.1).length : Int) > 20) then yes else bif decide (((cellsL g.1).length : Int) > 300) then yes else
  bif decide (((ballsG g).length : Int) > 5) then bif decide (((ballsG g).length : Int) ≤ 8) then yes else bif decide (((ballsG g).length : Int) > 12) then yes else bif decide (((msT s).length : Int) > 12) then yes else bif decide (((osT s).length : Int) > 12) then yes else k
  else bif decide (((ballsG g).length : Int) > 12) then yes else bif decide (((msT s).length : Int) > 12) then yes else bif decide (((osT s).length : Int) > 12) then yes else k else .fail
theorem gr_T_ok {g : TCT cGr} {s : TCT cSt} {yes k : Tree Unit} {R : Unit → Prop} (hs : (g.1.1.size : Int) ≤ maxK .i64) (hy : yes.sat R) (hk : (msT s).length ≤ 12 → (osT s).length ≤ 12 → k.sat R) : (gr_T g s yes k).sat R := by
  unfold gr_T
  have h0 : inKB .i64 (g.1.1.size : Int) = true := by
    unfold inKB
    have : (g.1.1.size : Int) ≤ 9223372036854775807 := hs
    simp only [Bool.and_eq_true, decide_eq_true_eq]
    exact ⟨by show (-9223372036854775808 : Int) ≤ _; omega, hs⟩
  rw [h0, cond_true]
  cases decide ((g.1.1.size : Int) > 100) with
  | true => exact hy
  | false =>
  cases decide (((hoopsL g.1).length : Int) > 20) with
  | true => exact hy
  | false =>
  cases decide (((cellsL g.1).length : Int) > 300) with
  | true => exact hy
  | false =>
  have last : (bif decide (((ballsG g).length : Int) > 12) then yes else bif decide (((msT s).length : Int) > 12) then yes else bif decide (((osT s).length : Int) > 12) then yes else k : Tree Unit).sat R := by
    cases decide (((ballsG g).length : Int) > 12) with
    | true => exact hy
    | false =>
    cases h1 : decide (((msT s).length : Int) > 12) with
    | true => exact hy
    | false =>
    cases h2 : decide (((osT s).length : Int) > 12) with
    | true => exact hy
    | false =>
      have a := of_decide_eq_false h1
      have b := of_decide_eq_false h2
      exact hk (by omega) (by omega)
  simp only [cond_false]
  cases decide (((ballsG g).length : Int) > 5) with
  | false => exact last
  | true =>
  cases decide (((ballsG g).length : Int) ≤ 8) with
  | true => exact hy
  | false => exact last
end St
open St
end V
end Go.Proofs.YtkiaifmbbnnliaaGreat
