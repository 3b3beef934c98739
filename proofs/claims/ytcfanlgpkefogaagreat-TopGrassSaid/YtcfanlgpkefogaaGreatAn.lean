import Derived.Test.YtcfanlgpkefogaaGreatAm
namespace Go.Proofs.YtcfanlgpkefogaaGreat
open Go.RowKit
namespace V
end V
end Go.Proofs.YtcfanlgpkefogaaGreat
