import Derived.Test.YtcfanlgpkefogaaGreatSc
namespace Go.Proofs.YtcfanlgpkefogaaGreat
open Go.RowKit
namespace V
structure Dm where
 l : List (TCT No)
 s0 : List (TCT Bau)
 re : Int
 dr : Int
 r1 : List (TCT Bau)
 r2 : List (TCT Bfj)
 r3 : Int
end V
end Go.Proofs.YtcfanlgpkefogaaGreat
