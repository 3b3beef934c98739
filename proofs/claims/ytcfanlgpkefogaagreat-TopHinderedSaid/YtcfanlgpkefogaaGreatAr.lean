import Derived.Test.YtcfanlgpkefogaaGreatAp
import Derived.Test.YtcfanlgpkefogaaGreatAg
import Derived.Test.YtcfanlgpkefogaaGreatFo
import Derived.Test.YtcfanlgpkefogaaGreatAj
namespace Go.Proofs.YtcfanlgpkefogaaGreat
open Go.RowKit
namespace V
namespace Tp
open St
noncomputable def Ccf:Code:=(Bak (bodyOf Tryz.f4)).getD 0 .skip
end Tp
open Tp
end V
end Go.Proofs.YtcfanlgpkefogaaGreat
namespace Go.Proofs.YtcfanlgpkefogaaGreat
open Go.RowKit
namespace V
namespace Tp
open St
theorem D8p (d:Int):∀ n:Nat,Bam (Bcb (grn d 0)) n (Baj Bc5)=(d,0,0,())∨Bam (Bcb (grn d 0)) n (Baj Bc5)=(0,0,0,()):=fun n=>by
 cases n with
 | zero=>exact .inl rfl
 | succ n=>exact .inr rfl
theorem D3t {d:Int} (h:0≤d):D3s (grn d 0):=fun p=>by
 unfold Bga
 cases Be9 (grn d 0) p==0 with
 | false=>exact ⟨Int.le_refl _,rfl,rfl⟩
 | true =>
  rw [cond_true]
  rcases D8p d (Int.toNat (Bp2 (grn d 0) p)) with e | e
  ·rw [e];exact ⟨h,rfl,rfl⟩
  ·rw [e];exact ⟨Int.le_refl _,rfl,rfl⟩
theorem D3u (n:Nat):Ms (List.replicate n Bdy) 450:=fun i hi=>by
 rw [List.length_replicate] at hi
 have:Bam (List.replicate n Bdy) i (Baj No)=Bdy:=by
  rw [Bda,List.getD_eq_getElem?_getD,List.getElem?_replicate,if_pos hi];rfl
 rw [this];rfl
theorem D3v {d s:Int} {x:TCT Bbv} {l:List (TCT Bbk)}:Ms (V2 (Be8 d s x l)) 450∧∀ i:Nat,i<(V2 (Be8 d s x l)).length→Bch (V2 (Be8 d s x l)) i=Bdy:=by
 refine ⟨D3u _,fun i hi=>?_⟩
 have hi:i<(List.replicate (sN (Bn6 d s l)) Bdy).length:=hi
 rw [List.length_replicate] at hi
 show Bam (List.replicate (sN (Bn6 d s l)) Bdy) i (Baj No)=Bdy
 rw [Bda,List.getD_eq_getElem?_getD,List.getElem?_replicate,if_pos hi];rfl
theorem Dd8 {x:Int} (h:0≤x∧x≤65535):0≤W64 x:=by rw [Bb4 (by omega) (by omega)];exact h.1
end Tp
open Tp
end V
end Go.Proofs.YtcfanlgpkefogaaGreat
