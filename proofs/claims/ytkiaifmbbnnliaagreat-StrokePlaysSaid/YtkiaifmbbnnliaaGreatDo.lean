import Derived.Test.YtkiaifmbbnnliaaGreatDn
namespace Go.Proofs.YtkiaifmbbnnliaaGreat
open Go.RowKit
namespace V
namespace St
theorem Ayc {bl : List (TCT A4)} {c : TCT D5} {t st w fl : Int} {n : Nat} {s : S2} {r : Af × Kns} (h : seF bl c t st w fl n s = .inl r) : r.1.length = s.1.length := by
 unfold seF at h
 cases he : (seS bl c w fl n s).2.2.1 != 0 with
 | true => rw [he] at h; cases h
 | false =>
  rw [he] at h
  cases h
  exact Aex
end St
end V
end Go.Proofs.YtkiaifmbbnnliaaGreat
