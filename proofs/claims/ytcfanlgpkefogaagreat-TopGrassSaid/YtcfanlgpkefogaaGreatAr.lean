import Derived.Test.YtcfanlgpkefogaaGreatAp
import Derived.Test.YtcfanlgpkefogaaGreatAg
import Derived.Test.YtcfanlgpkefogaaGreatFo
import Derived.Test.YtcfanlgpkefogaaGreatAj
namespace Go.Proofs.YtcfanlgpkefogaaGreat
open Go.RowKit
namespace V
namespace Tp
open St
end Tp
open Tp
end V
end Go.Proofs.YtcfanlgpkefogaaGreat
namespace Go.Proofs.YtcfanlgpkefogaaGreat
open Go.RowKit
namespace V
namespace Tp
open St
theorem Cxq (n:Nat):Ms (List.replicate n Be0) 450:=fun i hi=>by
 rw [List.length_replicate] at hi
 have:Bav (List.replicate n Be0) i (Bas Fq)=Be0:=by
  rw [Bcv,List.getD_eq_getElem?_getD,List.getElem?_replicate,if_pos hi];rfl
 rw [this];rfl
theorem Cxr {d s:Int} {x:TCT Bbv} {l:List (TCT Bcn)}:Ms (Fp (Bgr d s x l)) 450∧∀ i:Nat,i<(Fp (Bgr d s x l)).length→Bc1 (Fp (Bgr d s x l)) i=Be0:=by
 refine ⟨Cxq _,fun i hi=>?_⟩
 have hi:i<(List.replicate (sN (Bmn d s l)) Be0).length:=hi
 rw [List.length_replicate] at hi
 show Bav (List.replicate (sN (Bmn d s l)) Be0) i (Bas Fq)=Be0
 rw [Bcv,List.getD_eq_getElem?_getD,List.getElem?_replicate,if_pos hi];rfl
structure TI (g:TCT cGr) (i:Nat) (t:TCT cSt):Prop where
 a:StaOk g t
 tk:t.2.2.2.2.1=(i:Int)
end Tp
open Tp
end V
end Go.Proofs.YtcfanlgpkefogaaGreat
