import Derived.Test.YtcfanlgpkefogaaGreatSc
namespace Go.Proofs.YtcfanlgpkefogaaGreat
open Go.RowKit
namespace V
structure Dm where
 l:List (TCT Fq)
 s0:List (TCT Baq)
 re:Int
 dr:Int
 r1:List (TCT Baq)
 r2:List (TCT Bfk)
 r3:Int
end V
end Go.Proofs.YtcfanlgpkefogaaGreat
