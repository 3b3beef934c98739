import Derived.Test.YtkiaifmbbnnliaaGreatSc
namespace Go.Proofs.YtkiaifmbbnnliaaGreat
open Go.RowKit
namespace V
structure Dm where
  l : List (TCT cBall)
  s0 : List (TCT cMot)
  re : Int
  dr : Int
  r1 : List (TCT cMot)
  r2 : List (TCT cPair)
  r3 : Int
end V
end Go.Proofs.YtkiaifmbbnnliaaGreat
