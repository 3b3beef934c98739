import Derived.Test.YtcfanlgpkefogaaGreatAg
import Derived.Test.YtcfanlgpkefogaaGreatNd
import Derived.Test.YtcfanlgpkefogaaGreatFo
namespace Go.Proofs.YtcfanlgpkefogaaGreat
open Go.RowKit
namespace V
namespace Tp
open St
abbrev cU8:TC:=.i .u8
def Ccp (a b:TCT Baq):Bool:=(a.1.1==b.1.1&&(a.1.2.1==b.1.2.1&&true))&&((a.2.1.1==b.2.1.1&&(a.2.1.2.1==b.2.1.2.1&&true))&&((a.2.2.1.1==b.2.2.1.1&&(a.2.2.1.2.1==b.2.2.1.2.1&&true))&&true))
def moT (s:SKTs kSt) (k:Int):TCT Baq:=Bav (s.1:Baj) (Int.toNat k) (Bas Baq)
end Tp
end V
end Go.Proofs.YtcfanlgpkefogaaGreat
namespace Go.Proofs.YtcfanlgpkefogaaGreat
open Go.RowKit
namespace V
namespace Tp
open St
def Ccq:Tree Unit:=.leaf ()
end Tp
open Tp
end V
end Go.Proofs.YtcfanlgpkefogaaGreat
namespace Go.Proofs.YtcfanlgpkefogaaGreat
open Go.RowKit
namespace V
namespace Tp
open St
theorem Cgn {g:TCT cGr} {s:TCT cSt} (h:StaOk g s) (ht:s.2.2.2.2.1≠4000):TickV g s=Bjf 4∨∃ r:S2,tkF (ctS g s) (msT s,osT s,[])=.inl r∧TickV g s=(nxS s r,r.2.2,0,()):=by
 unfold TickV
 rw [Cln h,cond_false]
 unfold tkV
 cases hf:tkF (ctS g s) (msT s,osT s,[]) with
 | inr e=>exact .inl (by rw [Cm3 h ht hf];rfl)
 | inl r=>exact .inr ⟨r,rfl,rfl⟩
theorem Bwf (m:TCT Baq):Ccp m m=true:=by unfold Ccp;simp only [beq_self_eq_true,Bool.and_self]
def bwN (x y p k:Int):TCT cBl:=(0,(x,(bif x==0&&(y==0&&true) then 1 else y),()),p,k,())
theorem Cxl {x y p k n:Int} (h1 : -32768≤x∧x≤32767) (h2 : -32768≤y∧y≤32767) (h3:1≤p∧p≤2097152) (h4:0≤k∧k≤4) (hn:1≤n):bwB n (bwN x y p k)=false:=by
 unfold bwB bwN
 simp only
 have hf:fpt x (bif x==0&&(y==0&&true) then 1 else y)=true:=by
  cases x==0&&(y==0&&true) <;> exact decide_eq_true (by simp only [cond_true,cond_false];omega)
 have hz:(x==0&&((bif x==0&&(y==0&&true) then 1 else y)==0&&true))=false:=by
  cases hx:x==0 with
  | false=>rfl
  | true =>
   cases hy:y==0 with
   | true=>rfl
   | false=>simp only [Bool.true_and,Bool.false_and,cond_false,hy]
 rw [hf,hz,decide_eq_false (show ¬ (0:Int)<0 by decide),decide_eq_false (show ¬ (0:Int)≥n by omega),decide_eq_false (show ¬ (p<1) by omega),decide_eq_false (show ¬ (p>2097152) by omega),decide_eq_false (show ¬ (k<0) by omega),decide_eq_false (show ¬ (k>4) by omega)]
 rfl
theorem D28 {p:Int} (h3:0≤p∧p≤4294967295):W64 (1+Int.tmod (W64 p) 2097152)=1+p % 2097152:=by
 rw [Bbb (n:=p) (by omega) (by omega),Int.tmod_eq_emod_of_nonneg h3.1,Bbb (n:=1+p % 2097152) (by omega) (by omega)]
theorem D29 {k:Int} (h4:0≤k∧k≤255):Int.tmod (W64 k) 5=k % 5:=by
 rw [Bbb (n:=k) (by omega) (by omega),Int.tmod_eq_emod_of_nonneg h4.1]
theorem D2a (p:Int):1≤1+p % 2097152∧1+p % 2097152≤2097152:=by omega
theorem D64 (k:Int):0≤k % 5∧k % 5≤4:=by omega
theorem w16 {x:Int} (h : -32768≤x∧x≤32767):W64 x=x:=Bbb (by omega) (by omega)
theorem Cxm {w:TCT Bm7} (hw:WFD Bm7 w):Bkb w 0=bwN w.1 w.2.1 (1+w.2.2.1 % 2097152) (w.2.2.2.1 % 5):=by
 unfold Bkb bwN
 rw [D28 hw.2.2.1,D29 hw.2.2.2.1,w16 hw.1,w16 hw.2.1]
theorem Cxn {w:TCT Bm7} (hw:WFD Bm7 w) {n:Int} (hn:1≤n):bwB n (Bkb w 0)=false:=by
 rw [Cxm hw]
 exact Cxl hw.1 hw.2.1 (D2a _) (D64 _) hn
theorem Cxo {d s:Int} {x:TCT Bbv} {l:List (TCT Bcn)} (h:Bki d s x l=true):∃ ps,Bmn d s l=.inl ps∧(Bf7 (gN d s x ps.length) ps).2.1=0∧(msT (Bf7 (gN d s x ps.length) ps).1).length=l.length:=by
 unfold Bki at h
 cases ho:Bmn d s l with
 | inr ps=>rw [ho] at h;cases h
 | inl ps =>
  rw [ho] at h
  have h:Cgd l (Bf7 (gN d s x ps.length) ps)=true:=h
  unfold Cgd at h
  rw [Bool.and_eq_true,Bool.and_eq_true] at h
  refine ⟨ps,rfl,beq_iff_eq.1 h.1,?_⟩
  have:=beq_iff_eq.1 h.2.1
  omega
theorem Cxp {d s:Int} {x:TCT Bbv} {l:List (TCT Bcn)} (h:Bki d s x l=true):StaOk (Bgr d s x l) (Bk3 d s x l)∧Bex (Bk3 d s x l)=true∧(∀ j:Nat,Bbu (osT (Bk3 d s x l)) j=false)∧(Fp (Bgr d s x l)).length=l.length∧(Bgr d s x l).1=grn d s:=by
 obtain ⟨ps,ho,he,hm⟩:=Cxo h
 obtain ⟨a,b,c,e⟩:=D0r he
 unfold Bgr Bk3
 rw [ho]
 exact ⟨a,b,c,a.m.symm.trans hm,rfl⟩
end Tp
open Tp
end V
end Go.Proofs.YtcfanlgpkefogaaGreat
