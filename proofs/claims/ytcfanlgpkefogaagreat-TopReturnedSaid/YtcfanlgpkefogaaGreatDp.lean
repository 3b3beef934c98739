import Derived.Test.YtcfanlgpkefogaaGreatCA
import Derived.Test.YtcfanlgpkefogaaGreatDo
namespace Go.Proofs.YtcfanlgpkefogaaGreat
open Go.RowKit
namespace V
namespace St
abbrev bsR:List BK:=[(4,41,kGr),(5,45,kSo),(6,45,kSo)]
abbrev kKn:SK:=.o 58 cKn
def Bgx (nx:Nat):Lay:={ keys:=[2,3,4,8,10,11],ks:=[.p 4 0 0 0,.p 5 0 0 0,.p 6 0 0 0,.d (.sl A2),kKn,.d cI],bs:=bsR,n:=233,nx:=nx,marks:=[] }
def Ble (i nx:Nat):Lay:={ keys:=[2,3,4,8,10,11,i],ks:=[.p 4 0 0 0,.p 5 0 0 0,.p 6 0 0 0,.d (.sl A2),kKn,.d cI,.d cI],bs:=bsR,n:=233,nx:=nx,marks:=[] }
def Bbc:Lay:={ keys:=[4,5,6],ks:=[.p 6 0 0 0,kKn,.d cI],bs:=[(6,45,kSo)],n:=233,nx:=12000,marks:=[] }
def rs (i nx:Nat) (g:(Ble i nx).T):S2:=(g.2.2.1.1,g.2.2.1.2.1,g.1.2.2.2.2.1)
end St
end V
end Go.Proofs.YtcfanlgpkefogaaGreat
namespace Go.Proofs.YtcfanlgpkefogaaGreat
open Go.RowKit
namespace V
namespace St
end St
end V
end Go.Proofs.YtcfanlgpkefogaaGreat
namespace Go.Proofs.YtcfanlgpkefogaaGreat
open Go.RowKit
namespace V
namespace St
def srE (l:TCT A5) (os:List Bool) (w fl:Int) (i:Nat) (ms:Ax):Ax⊕Int :=
 bif !Cf ms os i||F9 w fl i then .inl ms else bif (M9 l (A8 ms i)).2.1 != 0 then .inr 4 else .inl (Bu ms i (A9o l (A8 ms i)))
end St
end V
end Go.Proofs.YtcfanlgpkefogaaGreat
namespace Go.Proofs.YtcfanlgpkefogaaGreat
open Go.RowKit
namespace V
namespace St
theorem B2l {l:TCT A5} {os:List Bool} {w fl:Int} {i:Nat} {ms:Ax} {e:Int} (h:srE l os w fl i ms=.inr e):e=4:=by
 unfold srE at h
 cases h1:!Cf ms os i||F9 w fl i with
 | true=>rw [h1] at h;cases h
 | false =>
  rw [h1] at h
  cases h3:(M9 l (A8 ms i)).2.1 != 0 with
  | true=>rw [h3] at h;cases h;rfl
  | false=>rw [h3] at h;cases h
end St
end V
end Go.Proofs.YtcfanlgpkefogaaGreat
namespace Go.Proofs.YtcfanlgpkefogaaGreat
open Go.RowKit
namespace V
namespace St
def Blf:Lay:=Bgx 4000
def Blg:Lay:={ keys:=[3,4,10],ks:=[.p 5 0 0 0,.p 6 0 0 0,kKn],bs:=[(5,45,kSo),(6,45,kSo)],n:=233,nx:=4000,marks:=[] }
def Blh:XE→Lay:=fun e=>match e with | .ret=>Bbc | _=>Blg
abbrev T0:=Tree (Blf.T⊕A1 Blh)
end St
end V
end Go.Proofs.YtcfanlgpkefogaaGreat
namespace Go.Proofs.YtcfanlgpkefogaaGreat
open Go.RowKit
namespace V
namespace St
end St
end V
end Go.Proofs.YtcfanlgpkefogaaGreat
namespace Go.Proofs.YtcfanlgpkefogaaGreat
open Go.RowKit
namespace V
namespace St
def Bgy:FLay:={ ks:=[.ag kSo,kKn,.d cI],bs:=[],nx:=1000 }
def Auo (b:Bool):FLay:=bif b then Bgy else FN
def erT (e:Int):(Auo true).T:=((([],[],0,0,0,()),[],e,()),())
end St
end V
end Go.Proofs.YtcfanlgpkefogaaGreat
namespace Go.Proofs.YtcfanlgpkefogaaGreat
open Go.RowKit
namespace V
theorem Ws {S B:Type} {f g:Nat→S→S⊕B} {Inv:Nat→S→Prop} {n:Nat} (h1:∀ i s,i<n→Inv i s→f i s=g i s) (h2:∀ i s s',i<n→Inv i s→f i s=.inl s'→Inv (i+1) s'):∀ (k i:Nat) (s:S),i+k=n→Inv i s→B6 f i k s=B6 g i k s
 | 0,_,_,_,_=>rfl
 | k+1,i,s,hk,hi=>by
  unfold B6
  rw [← h1 i s (by omega) hi]
  cases hf:f i s with
  | inl s'=>exact Ws h1 h2 k (i+1) s' (by omega) (h2 i s s' (by omega) hi hf)
  | inr b=>rfl
theorem A3v {α:Type} {d:α}:∀ (l:List α) (i j:Nat) (x:α),i<l.length→Bc (Bu l i x) j d=if j=i then x else Bc l j d
 | [],i,_,_,h=>absurd h (Nat.not_lt_zero i)
 | _::l,0,0,x,_=>rfl
 | _::l,0,j+1,x,_=>rfl
 | _::l,i+1,0,x,_=>by rw [if_neg (by omega)];rfl
 | _::l,i+1,j+1,x,h=>by
  show Bc (Bu l i x) j d=_
  rw [A3v l i j x (by simpa using h)]
  by_cases e:j=i
  ·rw [if_pos e,if_pos (by omega)]
  ·rw [if_neg e,if_neg (by omega)];rfl
namespace St
theorem Aa8 {α:Type} {ok:Nat→α→Bool} {d:α}:∀ (l:List α) (i:Nat),Ip ok i l=true→∀ j,j<l.length→ok (i+j) (Bc l j d)=true
 | [],_,_,j,hj=>absurd hj (Nat.not_lt_zero j)
 | x::l,i,h,j,hj=>by
  simp only [Ip,Bool.and_eq_true] at h
  cases j with
  | zero=>exact h.1
  | succ j =>
   have:=Aa8 (d:=d) l (i+1) h.2 j (by simpa using hj)
   rw [show i+(j+1)=i+1+j by omega]
   exact this
theorem Aup {x y w g:Int} (hx:0≤x) (hy:0≤y) (hxw:x≤w) (hyg:y≤g) (hw:w≤4194304) (hg:g≤4194304):fpt x y=true:=by
 unfold fpt
 exact decide_eq_true ⟨by omega,by omega,by omega,by omega⟩
theorem Bbd {l:TCT A5} {p:TCT cPt} (hl:Ck l=0) (h:onB l p=true):G5 l p=0:=by
 have a:=Ae1 hl
 have hw:=a.w
 have hg:=a.lg
 unfold G5 Gc
 unfold onB inR at h
 simp only [Bool.and_eq_true,decide_eq_true_eq] at h
 rw [hl,Aup h.1.1 h.2.1 h.1.2 h.2.2 hw.2 hg.2]
 show (bif onB l p then 0 else 5:Int)=0
 rw [show onB l p=true by unfold onB inR;simp only [Bool.and_eq_true,decide_eq_true_eq];exact h]
 rfl
def onA (l:TCT A5) (os:List Bool) (n:Nat) (ms:Ax):Prop:=ms.length=n∧∀ j,j<n→Bc os j (B7 .b)=false→G5 l (A8 ms j).1=0
theorem Auq {l:TCT A5} {os:List Bool} {w fl:Int} {n i:Nat} {s s':Ax} (hi:i<n) (h:onA l os n s) (h2:slE l os w fl i s=.inl s'):onA l os n s':=by
 unfold slE at h2
 cases h3:!Cf s os i||F9 w fl i with
 | true=>rw [h3] at h2;cases h2;exact h
 | false =>
  rw [h3] at h2
  simp only [cond_false] at h2
  cases h4:G5 l (A8 s i).1 != 0 with
  | true=>rw [h4] at h2;cases h2
  | false =>
   rw [h4] at h2
   simp only [cond_false] at h2
   cases h5:(M9 l (A8 s i)).2.1 != 0 with
   | true=>rw [h5] at h2;cases h2
   | false =>
    rw [h5] at h2
    cases h2
    refine ⟨by rw [Bw];exact h.1,fun j hj ho=>?_⟩
    unfold A8
    rw [A3v s i j _ (by rw [h.1];exact hi)]
    by_cases e:j=i
    ·rw [if_pos e]
     subst e
     exact h.2 j hj ho
    ·rw [if_neg e];exact h.2 j hj ho
theorem Bgz {l:TCT A5} {os:List Bool} {w fl:Int} {n:Nat} {ms:Ax} (h:onA l os n ms):B6 (slE l os w fl) 0 n ms=B6 (srE l os w fl) 0 n ms:=by
 refine Ws (n:=n) (Inv:=fun _ s=>onA l os n s) (fun i s hi hl=>?_) (fun i s s' hi hl h2=>Auq hi hl h2) n 0 ms (by omega) h
 unfold slE srE
 cases h3:!Cf s os i||F9 w fl i with
 | true=>rfl
 | false =>
  have ho:Bc os i (B7 .b)=false:=by
   rw [Bool.or_eq_false_iff] at h3
   have:=h3.1
   unfold Cf at this
   cases hg:Bc os i (B7 .b) with
   | false=>rfl
   | true=>rw [hg] at this;cases this
  rw [hl.2 i hi ho]
  rfl
theorem B2m {g:TCT cGr} {s:TCT cSt} (h:StaOk g s):Ck g.1=0:=by
 have k:=h.gr
 unfold groE at k
 cases h1:Ck g.1 != 0 with
 | true=>rw [h1,cond_true] at k;exact k
 | false=>exact bne_eq_false_iff_eq.1 h1
theorem Bbe {g:TCT cGr} {s:TCT cSt} (h:StaOk g s):onA g.1 (osT s) (A4 g).length (msT s):=by
 refine ⟨h.m,fun j hj ho=>?_⟩
 have hm:=h.m
 have a:=Aa8 (d:=B7 Bd) (msT s) 0 h.ok j (by omega)
 rw [Nat.zero_add] at a
 unfold okS okO at a
 rw [ho] at a
 simp only [Bool.and_eq_true,cond_false] at a
 exact Bbd (B2m h) a.2
def flR (fl:Int):Int:=bif decide (fl>0) then W64 (fl-1) else fl
def Bbf (s:SKTs kSo) (r:S2):(Auo true).T:=(((r.1,r.2.1,s.2.2.1,flR s.2.2.2.1,W64 (s.2.2.2.2.1+1),()),r.2.2,0,()),())
def toR (s:SKTs kSo):S2⊕Int→En Auo
 | .inl r=>⟨true,Bbf s r⟩
 | .inr e=>⟨true,erT e⟩
end St
end V
end Go.Proofs.YtcfanlgpkefogaaGreat
namespace Go.Proofs.YtcfanlgpkefogaaGreat
open Go.RowKit
namespace V
namespace St
end St
end V
end Go.Proofs.YtcfanlgpkefogaaGreat
namespace Go.Proofs.YtcfanlgpkefogaaGreat
open Go.RowKit
namespace V
namespace St
theorem B2s {x N:Int} (h : -N≤x∧x≤N) : -N≤Int.tdiv x 1000∧Int.tdiv x 1000≤N:=by
 by_cases hx:0≤x
 ·rw [Int.tdiv_eq_ediv_of_nonneg hx];omega
 ·have e:x = -(-x):=by omega
  rw [e,Int.neg_tdiv,Int.tdiv_eq_ediv_of_nonneg (show 0 ≤ -x by omega)]
  omega
theorem Bbl (k:Int):Vl k=0∨Vl k=150∨Vl k=500∨Vl k=900:=by
 unfold Vl
 cases (1:Int)==k <;> cases (2:Int)==k <;> cases (3:Int)==k <;> simp
theorem Auy {m k:Int} (h : -2097152≤m∧m≤2097152) : -2097152000≤fwD m k∧fwD m k≤2097152000:=by
 have b : -2097152000≤m*Vl k∧m*Vl k≤2097152000:=by
  rcases Bbl k with e | e | e | e <;> rw [e] <;> omega
 unfold fwD
 generalize m*Vl k=x at b
 rw [Bi (n:=x) (by omega) (by omega)]
 have c:=B2s b
 rw [Bi (by omega) (by omega)]
 exact c
def BM (a b:Int) (l:Ax):Prop:=∀ j:Nat,(-a≤(A8 l j).2.1.1∧(A8 l j).2.1.1≤a)∧(-b≤(A8 l j).2.1.2.1∧(A8 l j).2.1.2.1≤b)
theorem SM.bm {l:Ax} (h:SM l):BM 16777216 16777216 l:=fun j=>by
 have:=h j
 unfold smB Bo at this
 simp only [Bool.and_eq_true,Bool.not_eq_true'] at this
 exact ⟨Fc this.1,Fc this.2⟩
theorem B7p {x d a:Int} (h : -a≤x∧x≤a) (ha:0≤a∧a≤4000000000) (hd : -2097152000≤d∧d≤2097152000) : -(a+2097152000)≤W64 (x+d)∧W64 (x+d)≤a+2097152000:=by
 rw [Bi (n:=x+d) (by omega) (by omega)];omega
theorem Ajf {x a:Int} (h : -a≤x∧x≤a) : -(a+2097152000)≤x∧x≤a+2097152000:=by omega
theorem BM.mX {a b:Int} {l:Ax} {i d:Int} (h:BM a b l) (ha:0≤a∧a≤4000000000) (hd : -2097152000≤d∧d≤2097152000):BM (a+2097152000) b (St.mX l i d):=fun j=>by
 unfold St.mX
 show _∧_
 unfold A8
 rcases Kl (d:=B7 Bd) l (Int.toNat i) j ((A8 l (Int.toNat i)).1,(W64 ((A8 l (Int.toNat i)).2.1.1+d),(A8 l (Int.toNat i)).2.1.2.1,()),(A8 l (Int.toNat i)).2.2.1,()) with e | e
 ·have e':=e
  unfold A8 at e'
  rw [e']
  exact ⟨B7p (h (Int.toNat i)).1 ha hd,(h (Int.toNat i)).2⟩
 ·have e':=e
  unfold A8 at e'
  rw [e']
  exact ⟨Ajf (h j).1,(h j).2⟩
theorem BM.mY {a b:Int} {l:Ax} {i d:Int} (h:BM a b l) (ha:0≤b∧b≤4000000000) (hd : -2097152000≤d∧d≤2097152000):BM a (b+2097152000) (St.mY l i d):=fun j=>by
 unfold St.mY
 show _∧_
 unfold A8
 rcases Kl (d:=B7 Bd) l (Int.toNat i) j ((A8 l (Int.toNat i)).1,((A8 l (Int.toNat i)).2.1.1,W64 ((A8 l (Int.toNat i)).2.1.2.1+d),()),(A8 l (Int.toNat i)).2.2.1,()) with e | e
 ·have e':=e
  unfold A8 at e'
  rw [e']
  exact ⟨(h (Int.toNat i)).1,B7p (h (Int.toNat i)).2 ha hd⟩
 ·have e':=e
  unfold A8 at e'
  rw [e']
  exact ⟨(h j).1,Ajf (h j).2⟩
theorem Ajg {x:Int} (h : -2113929216≤x∧x≤2113929216):A2z x=Bs x (-16777216) 16777216:=by
 unfold A2z Bs
 rw [Bi (n:=0-x) (by omega) (by omega)]
 by_cases h1:x < -16777216
 ·rw [decide_eq_true h1,decide_eq_true (show max x (0-x)>16777216 by omega)];rfl
 ·by_cases h2:16777216<x
  ·rw [decide_eq_true h2,decide_eq_true (show max x (0-x)>16777216 by omega),Bool.or_true]
  ·rw [decide_eq_false h1,decide_eq_false h2,decide_eq_false (show ¬ max x (0-x)>16777216 by omega)];rfl
theorem B2t {ms:Ax} {w:TCT cBw} {n:Int} (h:SM ms) (hb:BwOk n w):A6a (skM ms w) w.1=!Bo (A8 (skM ms w) (Int.toNat w.1)).2.1.1 (A8 (skM ms w) (Int.toNat w.1)).2.1.2.1:=by
 have tw:=Aut hb.f hb.z hb.p
 have b:BM (16777216+2097152000) (16777216+2097152000) (skM ms w):=(BM.mX h.bm (by omega) (Auy tw.2.1)).mY (by omega) (Auy tw.2.2)
 have c:=b (Int.toNat w.1)
 unfold A6a Bo
 rw [Ajg (by simpa using c.1),Ajg (by simpa using c.2)]
 cases Bs (A8 (skM ms w) (Int.toNat w.1)).2.1.1 (-16777216) 16777216 <;> cases Bs (A8 (skM ms w) (Int.toNat w.1)).2.1.2.1 (-16777216) 16777216 <;> rfl
end St
end V
end Go.Proofs.YtcfanlgpkefogaaGreat
