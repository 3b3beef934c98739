import Derived.Test.YtcfanlgpkefogaaGreatAg
import Derived.Test.YtcfanlgpkefogaaGreatNd
import Derived.Test.YtcfanlgpkefogaaGreatFo
namespace Go.Proofs.YtcfanlgpkefogaaGreat
open Go.RowKit
namespace V
namespace Tp
open St
end Tp
end V
end Go.Proofs.YtcfanlgpkefogaaGreat
namespace Go.Proofs.YtcfanlgpkefogaaGreat
open Go.RowKit
namespace V
namespace Tp
open St
end Tp
open Tp
end V
end Go.Proofs.YtcfanlgpkefogaaGreat
namespace Go.Proofs.YtcfanlgpkefogaaGreat
open Go.RowKit
namespace V
namespace Tp
open St
theorem Cg5 {g:TCT cGr} {s:TCT cSt} (h:StaOk g s) (ht:s.2.2.2.2.1≠4000):TickV g s=Bjf 4∨∃ r:S2,tkF (ctS g s) (msT s,osT s,[])=.inl r∧TickV g s=(nxS s r,r.2.2,0,()):=by
 unfold TickV
 rw [Cl2 h,cond_false]
 unfold tkV
 cases hf:tkF (ctS g s) (msT s,osT s,[]) with
 | inr e=>exact .inl (by rw [Clj h ht hf];rfl)
 | inl r=>exact .inr ⟨r,rfl,rfl⟩
def bwN (x y p k:Int):TCT cBl:=(0,(x,(bif x==0&&(y==0&&true) then 1 else y),()),p,k,())
theorem Cwv {x y p k n:Int} (h1 : -32768≤x∧x≤32767) (h2 : -32768≤y∧y≤32767) (h3:1≤p∧p≤2097152) (h4:0≤k∧k≤4) (hn:1≤n):bwB n (bwN x y p k)=false:=by
 unfold bwB bwN
 simp only
 have hf:fpt x (bif x==0&&(y==0&&true) then 1 else y)=true:=by
  cases x==0&&(y==0&&true) <;> exact decide_eq_true (by simp only [cond_true,cond_false];omega)
 have hz:(x==0&&((bif x==0&&(y==0&&true) then 1 else y)==0&&true))=false:=by
  cases hx:x==0 with
  | false=>rfl
  | true =>
   cases hy:y==0 with
   | true=>rfl
   | false=>simp only [Bool.true_and,Bool.false_and,cond_false,hy]
 rw [hf,hz,decide_eq_false (show ¬ (0:Int)<0 by decide),decide_eq_false (show ¬ (0:Int)≥n by omega),decide_eq_false (show ¬ (p<1) by omega),decide_eq_false (show ¬ (p>2097152) by omega),decide_eq_false (show ¬ (k<0) by omega),decide_eq_false (show ¬ (k>4) by omega)]
 rfl
theorem D1l {p:Int} (h3:0≤p∧p≤4294967295):W64 (1+Int.tmod (W64 p) 2097152)=1+p % 2097152:=by
 rw [Bbc (n:=p) (by omega) (by omega),Int.tmod_eq_emod_of_nonneg h3.1,Bbc (n:=1+p % 2097152) (by omega) (by omega)]
theorem D1m {k:Int} (h4:0≤k∧k≤255):Int.tmod (W64 k) 5=k % 5:=by
 rw [Bbc (n:=k) (by omega) (by omega),Int.tmod_eq_emod_of_nonneg h4.1]
theorem D1n (p:Int):1≤1+p % 2097152∧1+p % 2097152≤2097152:=by omega
theorem D5h (k:Int):0≤k % 5∧k % 5≤4:=by omega
theorem w16 {x:Int} (h : -32768≤x∧x≤32767):W64 x=x:=Bbc (by omega) (by omega)
theorem Cww {d s:Int} {x:TCT Bbu} {l:List (TCT Bdx)} (h:Bmb d s x l=true):∃ ps,Bmm d s l=.inl ps∧(Bf8 (gN d s x ps.length) ps).2.1=0∧(msT (Bf8 (gN d s x ps.length) ps).1).length=l.length:=by
 unfold Bmb at h
 cases ho:Bmm d s l with
 | inr ps=>rw [ho] at h;cases h
 | inl ps =>
  rw [ho] at h
  have h:Cfv l (Bf8 (gN d s x ps.length) ps)=true:=h
  unfold Cfv at h
  rw [Bool.and_eq_true,Bool.and_eq_true] at h
  refine ⟨ps,rfl,beq_iff_eq.1 h.1,?_⟩
  have:=beq_iff_eq.1 h.2.1
  omega
theorem Cwx {d s:Int} {x:TCT Bbu} {l:List (TCT Bdx)} (h:Bmb d s x l=true):StaOk (Bgu d s x l) (Bkg d s x l)∧Bey (Bkg d s x l)=true∧(∀ j:Nat,Bcc (osT (Bkg d s x l)) j=false)∧(No (Bgu d s x l)).length=l.length∧(Bgu d s x l).1=grn d s:=by
 obtain ⟨ps,ho,he,hm⟩:=Cww h
 obtain ⟨a,b,c,e⟩:=D04 he
 unfold Bgu Bkg
 rw [ho]
 exact ⟨a,b,c,a.m.symm.trans hm,rfl⟩
end Tp
open Tp
end V
end Go.Proofs.YtcfanlgpkefogaaGreat
