import Derived.Test.YtcfanlgpkefogaaGreatAo
import Derived.Test.YtcfanlgpkefogaaGreatNd
namespace Go.Proofs.YtcfanlgpkefogaaGreat
open Go.RowKit
namespace V
theorem Cce {w d n:Int} (hw:0≤w) (h0:0≤d) (h1:d≤n) (hn:0<n):0≤(w*d).tdiv n∧(w*d).tdiv n≤w:=by
 have k0:0≤w*d:=Int.mul_nonneg hw h0
 refine ⟨Int.tdiv_nonneg k0 (by omega),?_⟩
 have k1:=Int.mul_tdiv_self_le (k:=n) k0
 have k2:w*d≤w*n:=Int.mul_le_mul_of_nonneg_left h1 hw
 rw [Int.mul_comm w n] at k2
 exact Int.le_of_mul_le_mul_left (Int.le_trans k1 k2) hn
namespace St
def Ms (l:List (TCT No)) (M:Int):Prop:=∀ i:Nat,i<l.length→(Bam l i (Baj No)).1=M
def D3s (l:TCT Ban):Prop:=∀ p:TCT cPt,0≤(Bga l p).1∧(Bga l p).2.1=0∧(Bga l p).2.2.1=0
end St
end V
end Go.Proofs.YtcfanlgpkefogaaGreat
