import Derived.Test.YtlangijnealfjaaGreatAg
import Derived.Test.YtlangijnealfjaaGreatNd
import Derived.Test.YtlangijnealfjaaGreatFo
namespace Go.Proofs.YtlangijnealfjaaGreat
open Go.RowKit
namespace V
namespace Tp
open St
end Tp
end V
end Go.Proofs.YtlangijnealfjaaGreat
namespace Go.Proofs.YtlangijnealfjaaGreat
open Go.RowKit
namespace V
namespace Tp
open St
end Tp
open Tp
end V
end Go.Proofs.YtlangijnealfjaaGreat
namespace Go.Proofs.YtlangijnealfjaaGreat
open Go.RowKit
namespace V
namespace Tp
open St
def bwN (x y p k:Int):TCT cBl:=(0,(x,(bif x==0&&(y==0&&true) then 1 else y),()),p,k,())
theorem B6q {x y p k n:Int} (h1 : -32768≤x∧x≤32767) (h2 : -32768≤y∧y≤32767) (h3:1≤p∧p≤2097152) (h4:0≤k∧k≤4) (hn:1≤n):bwB n (bwN x y p k)=false:=by
 unfold bwB bwN
 simp only
 have hf:fpt x (bif x==0&&(y==0&&true) then 1 else y)=true:=by
  cases x==0&&(y==0&&true) <;> exact decide_eq_true (by simp only [cond_true,cond_false];omega)
 have hz:(x==0&&((bif x==0&&(y==0&&true) then 1 else y)==0&&true))=false:=by
  cases hx:x==0 with
  | false=>rfl
  | true =>
   cases hy:y==0 with
   | true=>rfl
   | false=>simp only [Bool.true_and,Bool.false_and,cond_false,hy]
 rw [hf,hz,decide_eq_false (show ¬ (0:Int)<0 by decide),decide_eq_false (show ¬ (0:Int)≥n by omega),decide_eq_false (show ¬ (p<1) by omega),decide_eq_false (show ¬ (p>2097152) by omega),decide_eq_false (show ¬ (k<0) by omega),decide_eq_false (show ¬ (k>4) by omega)]
 rfl
theorem Bc0 {p:Int} (h3:0≤p∧p≤4294967295):W64 (1+Int.tmod (W64 p) 2097152)=1+p % 2097152:=by
 rw [Be (n:=p) (by omega) (by omega),Int.tmod_eq_emod_of_nonneg h3.1,Be (n:=1+p % 2097152) (by omega) (by omega)]
theorem Bc1 {k:Int} (h4:0≤k∧k≤255):Int.tmod (W64 k) 5=k % 5:=by
 rw [Be (n:=k) (by omega) (by omega),Int.tmod_eq_emod_of_nonneg h4.1]
theorem Bc2 (p:Int):1≤1+p % 2097152∧1+p % 2097152≤2097152:=by omega
theorem Bgw (k:Int):0≤k % 5∧k % 5≤4:=by omega
theorem w16 {x:Int} (h : -32768≤x∧x≤32767):W64 x=x:=Be (by omega) (by omega)
theorem B6r {w:TCT Pu} (hw:WFD Pu w):Me w 0=bwN w.1 w.2.1 (1+w.2.2.1 % 2097152) (w.2.2.2.1 % 5):=by
 unfold Me bwN
 rw [Bc0 hw.2.2.1,Bc1 hw.2.2.2.1,w16 hw.1,w16 hw.2.1]
theorem B6s {w:TCT Pu} (hw:WFD Pu w) {n:Int} (hn:1≤n):bwB n (Me w 0)=false:=by
 rw [B6r hw]
 exact B6q hw.1 hw.2.1 (Bc2 _) (Bgw _) hn
theorem B6t {d s:Int} {x:TCT Cj} {l:List (TCT F2)} (h:Nx d s x l=true):∃ ps,Tw d s l=.inl ps∧(Hd (gN d s x ps.length) ps).2.1=0∧(msT (Hd (gN d s x ps.length) ps).1).length=l.length:=by
 unfold Nx at h
 cases ho:Tw d s l with
 | inr ps=>rw [ho] at h;cases h
 | inl ps =>
  rw [ho] at h
  have h:And l (Hd (gN d s x ps.length) ps)=true:=h
  unfold And at h
  rw [Bool.and_eq_true,Bool.and_eq_true] at h
  refine ⟨ps,rfl,beq_iff_eq.1 h.1,?_⟩
  have:=beq_iff_eq.1 h.2.1
  omega
theorem B6u {d s:Int} {x:TCT Cj} {l:List (TCT F2)} (h:Nx d s x l=true):StaOk (Lp d s x l) (N9 d s x l)∧D5 (N9 d s x l)=true∧(∀ j:Nat,Di (osT (N9 d s x l)) j=false)∧(A2 (Lp d s x l)).length=l.length∧(Lp d s x l).1=grn d s:=by
 obtain ⟨ps,ho,he,hm⟩:=B6t h
 obtain ⟨a,b,c,e⟩:=B9n he
 unfold Lp N9
 rw [ho]
 exact ⟨a,b,c,a.m.symm.trans hm,rfl⟩
end Tp
open Tp
end V
end Go.Proofs.YtlangijnealfjaaGreat
