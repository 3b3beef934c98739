import Derived.Test.YtkiaifmbbnnliaaGreatCq
namespace Go.Proofs.YtkiaifmbbnnliaaGreat
open Go.RowKit
namespace V
namespace St
theorem Atk {l : TCT An} {os : List Bool} {w fl : Int} {i : Nat} {ms ms' : Ae} (h : slE l os w fl i ms = .inl ms') : ms'.length = ms.length := by
 unfold slE at h
 cases h1 : !C2 ms os i || Eg w fl i with
 | true => rw [h1] at h; cases h; rfl
 | false =>
  rw [h1] at h
  cases h2 : G7 l (Ag ms i).1 != 0 with
  | true => rw [h2] at h; cases h
  | false =>
   rw [h2] at h
   cases h3 : (Ln l (Ag ms i)).2.1 != 0 with
   | true => rw [h3] at h; cases h
   | false => rw [h3] at h; cases h; exact Be _ _ _
end St
end V
end Go.Proofs.YtkiaifmbbnnliaaGreat
