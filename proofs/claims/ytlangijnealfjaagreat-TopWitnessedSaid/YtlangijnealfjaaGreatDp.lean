import Derived.Test.YtlangijnealfjaaGreatCA
import Derived.Test.YtlangijnealfjaaGreatDo
namespace Go.Proofs.YtlangijnealfjaaGreat
open Go.RowKit
namespace V
namespace St
abbrev bsR:List BK:=[(4,64,kGr),(5,76,kSo),(6,76,kSo)]
abbrev kKn:SK:=.o 101 cKn
def Beb (nx:Nat):Lay:={ keys:=[2,3,4,8,10,11],ks:=[.p 4 0 0 0,.p 5 0 0 0,.p 6 0 0 0,.d (.sl A4),kKn,.d cI],bs:=bsR,n:=233,nx:=nx,marks:=[] }
def Biq (i nx:Nat):Lay:={ keys:=[2,3,4,8,10,11,i],ks:=[.p 4 0 0 0,.p 5 0 0 0,.p 6 0 0 0,.d (.sl A4),kKn,.d cI,.d cI],bs:=bsR,n:=233,nx:=nx,marks:=[] }
def B8o:Lay:={ keys:=[4,5,6],ks:=[.p 6 0 0 0,kKn,.d cI],bs:=[(6,76,kSo)],n:=233,nx:=12000,marks:=[] }
def rs (i nx:Nat) (g:(Biq i nx).T):S2:=(g.2.2.1.1,g.2.2.1.2.1,g.1.2.2.2.2.1)
end St
end V
end Go.Proofs.YtlangijnealfjaaGreat
namespace Go.Proofs.YtlangijnealfjaaGreat
open Go.RowKit
namespace V
namespace St
end St
end V
end Go.Proofs.YtlangijnealfjaaGreat
namespace Go.Proofs.YtlangijnealfjaaGreat
open Go.RowKit
namespace V
namespace St
def srE (l:TCT Am) (os:List Bool) (w fl:Int) (i:Nat) (ms:Au):Au⊕Int :=
 bif !Cf ms os i||Fi w fl i then .inl ms else bif (Nq l (A9 ms i)).2.1 != 0 then .inr 4 else .inl (Bf ms i (Aco l (A9 ms i)))
end St
end V
end Go.Proofs.YtlangijnealfjaaGreat
namespace Go.Proofs.YtlangijnealfjaaGreat
open Go.RowKit
namespace V
namespace St
theorem Azo {l:TCT Am} {os:List Bool} {w fl:Int} {i:Nat} {ms:Au} {e:Int} (h:srE l os w fl i ms=.inr e):e=4:=by
 unfold srE at h
 cases h1:!Cf ms os i||Fi w fl i with
 | true=>rw [h1] at h;cases h
 | false =>
  rw [h1] at h
  cases h3:(Nq l (A9 ms i)).2.1 != 0 with
  | true=>rw [h3] at h;cases h;rfl
  | false=>rw [h3] at h;cases h
end St
end V
end Go.Proofs.YtlangijnealfjaaGreat
namespace Go.Proofs.YtlangijnealfjaaGreat
open Go.RowKit
namespace V
namespace St
def Bir:Lay:=Beb 4000
def Bis:Lay:={ keys:=[3,4,10],ks:=[.p 5 0 0 0,.p 6 0 0 0,kKn],bs:=[(5,76,kSo),(6,76,kSo)],n:=233,nx:=4000,marks:=[] }
def Bit:XE→Lay:=fun e=>match e with | .ret=>B8o | _=>Bis
abbrev T0:=Tree (Bir.T⊕A1 Bit)
end St
end V
end Go.Proofs.YtlangijnealfjaaGreat
namespace Go.Proofs.YtlangijnealfjaaGreat
open Go.RowKit
namespace V
namespace St
end St
end V
end Go.Proofs.YtlangijnealfjaaGreat
namespace Go.Proofs.YtlangijnealfjaaGreat
open Go.RowKit
namespace V
namespace St
def Bec:FLay:={ ks:=[.ag kSo,kKn,.d cI],bs:=[],nx:=1000 }
def Arf (b:Bool):FLay:=bif b then Bec else FN
def erT (e:Int):(Arf true).T:=((([],[],0,0,0,()),[],e,()),())
end St
end V
end Go.Proofs.YtlangijnealfjaaGreat
namespace Go.Proofs.YtlangijnealfjaaGreat
open Go.RowKit
namespace V
theorem Vj {S B:Type} {f g:Nat→S→S⊕B} {Inv:Nat→S→Prop} {n:Nat} (h1:∀ i s,i<n→Inv i s→f i s=g i s) (h2:∀ i s s',i<n→Inv i s→f i s=.inl s'→Inv (i+1) s'):∀ (k i:Nat) (s:S),i+k=n→Inv i s→Ax f i k s=Ax g i k s
 | 0,_,_,_,_=>rfl
 | k+1,i,s,hk,hi=>by
  unfold Ax
  rw [← h1 i s (by omega) hi]
  cases hf:f i s with
  | inl s'=>exact Vj h1 h2 k (i+1) s' (by omega) (h2 i s s' (by omega) hi hf)
  | inr b=>rfl
theorem A2x {α:Type} {d:α}:∀ (l:List α) (i j:Nat) (x:α),i<l.length→As (Bf l i x) j d=if j=i then x else As l j d
 | [],i,_,_,h=>absurd h (Nat.not_lt_zero i)
 | _::l,0,0,x,_=>rfl
 | _::l,0,j+1,x,_=>rfl
 | _::l,i+1,0,x,_=>by rw [if_neg (by omega)];rfl
 | _::l,i+1,j+1,x,h=>by
  show As (Bf l i x) j d=_
  rw [A2x l i j x (by simpa using h)]
  by_cases e:j=i
  ·rw [if_pos e,if_pos (by omega)]
  ·rw [if_neg e,if_neg (by omega)];rfl
namespace St
theorem A8h {α:Type} {ok:Nat→α→Bool} {d:α}:∀ (l:List α) (i:Nat),I2 ok i l=true→∀ j,j<l.length→ok (i+j) (As l j d)=true
 | [],_,_,j,hj=>absurd hj (Nat.not_lt_zero j)
 | x::l,i,h,j,hj=>by
  simp only [I2,Bool.and_eq_true] at h
  cases j with
  | zero=>exact h.1
  | succ j =>
   have:=A8h (d:=d) l (i+1) h.2 j (by simpa using hj)
   rw [show i+(j+1)=i+1+j by omega]
   exact this
theorem Arh {x y w g:Int} (hx:0≤x) (hy:0≤y) (hxw:x≤w) (hyg:y≤g) (hw:w≤4194304) (hg:g≤4194304):fpt x y=true:=by
 unfold fpt
 exact decide_eq_true ⟨by omega,by omega,by omega,by omega⟩
theorem B8p {l:TCT Am} {p:TCT cPt} (hl:Cp l=0) (h:onB l p=true):Gk l p=0:=by
 have a:=Acd hl
 have hw:=a.w
 have hg:=a.lg
 unfold Gk A4p
 unfold onB inR at h
 simp only [Bool.and_eq_true,decide_eq_true_eq] at h
 rw [hl,Arh h.1.1 h.2.1 h.1.2 h.2.2 hw.2 hg.2]
 show (bif onB l p then 0 else 5:Int)=0
 rw [show onB l p=true by unfold onB inR;simp only [Bool.and_eq_true,decide_eq_true_eq];exact h]
 rfl
def onA (l:TCT Am) (os:List Bool) (n:Nat) (ms:Au):Prop:=ms.length=n∧∀ j,j<n→As os j (Aq .b)=false→Gk l (A9 ms j).1=0
theorem Ari {l:TCT Am} {os:List Bool} {w fl:Int} {n i:Nat} {s s':Au} (hi:i<n) (h:onA l os n s) (h2:slE l os w fl i s=.inl s'):onA l os n s':=by
 unfold slE at h2
 cases h3:!Cf s os i||Fi w fl i with
 | true=>rw [h3] at h2;cases h2;exact h
 | false =>
  rw [h3] at h2
  simp only [cond_false] at h2
  cases h4:Gk l (A9 s i).1 != 0 with
  | true=>rw [h4] at h2;cases h2
  | false =>
   rw [h4] at h2
   simp only [cond_false] at h2
   cases h5:(Nq l (A9 s i)).2.1 != 0 with
   | true=>rw [h5] at h2;cases h2
   | false =>
    rw [h5] at h2
    cases h2
    refine ⟨by rw [C0];exact h.1,fun j hj ho=>?_⟩
    unfold A9
    rw [A2x s i j _ (by rw [h.1];exact hi)]
    by_cases e:j=i
    ·rw [if_pos e]
     subst e
     exact h.2 j hj ho
    ·rw [if_neg e];exact h.2 j hj ho
theorem Bed {l:TCT Am} {os:List Bool} {w fl:Int} {n:Nat} {ms:Au} (h:onA l os n ms):Ax (slE l os w fl) 0 n ms=Ax (srE l os w fl) 0 n ms:=by
 refine Vj (n:=n) (Inv:=fun _ s=>onA l os n s) (fun i s hi hl=>?_) (fun i s s' hi hl h2=>Ari hi hl h2) n 0 ms (by omega) h
 unfold slE srE
 cases h3:!Cf s os i||Fi w fl i with
 | true=>rfl
 | false =>
  have ho:As os i (Aq .b)=false:=by
   rw [Bool.or_eq_false_iff] at h3
   have:=h3.1
   unfold Cf at this
   cases hg:As os i (Aq .b) with
   | false=>rfl
   | true=>rw [hg] at this;cases this
  rw [hl.2 i hi ho]
  rfl
theorem Azp {g:TCT cGr} {s:TCT cSt} (h:StaOk g s):Cp g.1=0:=by
 have k:=h.gr
 unfold groE at k
 cases h1:Cp g.1 != 0 with
 | true=>rw [h1,cond_true] at k;exact k
 | false=>exact bne_eq_false_iff_eq.1 h1
theorem B8q {g:TCT cGr} {s:TCT cSt} (h:StaOk g s):onA g.1 (osT s) (A2 g).length (msT s):=by
 refine ⟨h.m,fun j hj ho=>?_⟩
 have hm:=h.m
 have a:=A8h (d:=Aq B0) (msT s) 0 h.ok j (by omega)
 rw [Nat.zero_add] at a
 unfold okS okO at a
 rw [ho] at a
 simp only [Bool.and_eq_true,cond_false] at a
 exact B8p (Azp h) a.2
def flR (fl:Int):Int:=bif decide (fl>0) then W64 (fl-1) else fl
def B8r (s:SKTs kSo) (r:S2):(Arf true).T:=(((r.1,r.2.1,s.2.2.1,flR s.2.2.2.1,W64 (s.2.2.2.2.1+1),()),r.2.2,0,()),())
def toR (s:SKTs kSo):S2⊕Int→Ee Arf
 | .inl r=>⟨true,B8r s r⟩
 | .inr e=>⟨true,erT e⟩
end St
end V
end Go.Proofs.YtlangijnealfjaaGreat
namespace Go.Proofs.YtlangijnealfjaaGreat
open Go.RowKit
namespace V
namespace St
end St
end V
end Go.Proofs.YtlangijnealfjaaGreat
namespace Go.Proofs.YtlangijnealfjaaGreat
open Go.RowKit
namespace V
namespace St
theorem Azv {x N:Int} (h : -N≤x∧x≤N) : -N≤Int.tdiv x 1000∧Int.tdiv x 1000≤N:=by
 by_cases hx:0≤x
 ·rw [Int.tdiv_eq_ediv_of_nonneg hx];omega
 ·have e:x = -(-x):=by omega
  rw [e,Int.neg_tdiv,Int.tdiv_eq_ediv_of_nonneg (show 0 ≤ -x by omega)]
  omega
theorem B8x (k:Int):U8 k=0∨U8 k=150∨U8 k=500∨U8 k=900:=by
 unfold U8
 cases (1:Int)==k <;> cases (2:Int)==k <;> cases (3:Int)==k <;> simp
theorem Ars {m k:Int} (h : -2097152≤m∧m≤2097152) : -2097152000≤fwD m k∧fwD m k≤2097152000:=by
 have b : -2097152000≤m*U8 k∧m*U8 k≤2097152000:=by
  rcases B8x k with e | e | e | e <;> rw [e] <;> omega
 unfold fwD
 generalize m*U8 k=x at b
 rw [Be (n:=x) (by omega) (by omega)]
 have c:=Azv b
 rw [Be (by omega) (by omega)]
 exact c
def BM (a b:Int) (l:Au):Prop:=∀ j:Nat,(-a≤(A9 l j).2.1.1∧(A9 l j).2.1.1≤a)∧(-b≤(A9 l j).2.1.2.1∧(A9 l j).2.1.2.1≤b)
theorem SM.bm {l:Au} (h:SM l):BM 16777216 16777216 l:=fun j=>by
 have:=h j
 unfold smB B9 at this
 simp only [Bool.and_eq_true,Bool.not_eq_true'] at this
 exact ⟨F4 this.1,F4 this.2⟩
theorem B52 {x d a:Int} (h : -a≤x∧x≤a) (ha:0≤a∧a≤4000000000) (hd : -2097152000≤d∧d≤2097152000) : -(a+2097152000)≤W64 (x+d)∧W64 (x+d)≤a+2097152000:=by
 rw [Be (n:=x+d) (by omega) (by omega)];omega
theorem Agz {x a:Int} (h : -a≤x∧x≤a) : -(a+2097152000)≤x∧x≤a+2097152000:=by omega
theorem BM.mX {a b:Int} {l:Au} {i d:Int} (h:BM a b l) (ha:0≤a∧a≤4000000000) (hd : -2097152000≤d∧d≤2097152000):BM (a+2097152000) b (St.mX l i d):=fun j=>by
 unfold St.mX
 show _∧_
 unfold A9
 rcases K6 (d:=Aq B0) l (Int.toNat i) j ((A9 l (Int.toNat i)).1,(W64 ((A9 l (Int.toNat i)).2.1.1+d),(A9 l (Int.toNat i)).2.1.2.1,()),(A9 l (Int.toNat i)).2.2.1,()) with e | e
 ·have e':=e
  unfold A9 at e'
  rw [e']
  exact ⟨B52 (h (Int.toNat i)).1 ha hd,(h (Int.toNat i)).2⟩
 ·have e':=e
  unfold A9 at e'
  rw [e']
  exact ⟨Agz (h j).1,(h j).2⟩
theorem BM.mY {a b:Int} {l:Au} {i d:Int} (h:BM a b l) (ha:0≤b∧b≤4000000000) (hd : -2097152000≤d∧d≤2097152000):BM a (b+2097152000) (St.mY l i d):=fun j=>by
 unfold St.mY
 show _∧_
 unfold A9
 rcases K6 (d:=Aq B0) l (Int.toNat i) j ((A9 l (Int.toNat i)).1,((A9 l (Int.toNat i)).2.1.1,W64 ((A9 l (Int.toNat i)).2.1.2.1+d),()),(A9 l (Int.toNat i)).2.2.1,()) with e | e
 ·have e':=e
  unfold A9 at e'
  rw [e']
  exact ⟨(h (Int.toNat i)).1,B52 (h (Int.toNat i)).2 ha hd⟩
 ·have e':=e
  unfold A9 at e'
  rw [e']
  exact ⟨(h j).1,Agz (h j).2⟩
theorem Ah0 {x:Int} (h : -2113929216≤x∧x≤2113929216):A1v x=Bd x (-16777216) 16777216:=by
 unfold A1v Bd
 rw [Be (n:=0-x) (by omega) (by omega)]
 by_cases h1:x < -16777216
 ·rw [decide_eq_true h1,decide_eq_true (show max x (0-x)>16777216 by omega)];rfl
 ·by_cases h2:16777216<x
  ·rw [decide_eq_true h2,decide_eq_true (show max x (0-x)>16777216 by omega),Bool.or_true]
  ·rw [decide_eq_false h1,decide_eq_false h2,decide_eq_false (show ¬ max x (0-x)>16777216 by omega)];rfl
theorem Azw {ms:Au} {w:TCT cBw} {n:Int} (h:SM ms) (hb:BwOk n w):A56 (skM ms w) w.1=!B9 (A9 (skM ms w) (Int.toNat w.1)).2.1.1 (A9 (skM ms w) (Int.toNat w.1)).2.1.2.1:=by
 have tw:=Arl hb.f hb.z hb.p
 have b:BM (16777216+2097152000) (16777216+2097152000) (skM ms w):=(BM.mX h.bm (by omega) (Ars tw.2.1)).mY (by omega) (Ars tw.2.2)
 have c:=b (Int.toNat w.1)
 unfold A56 B9
 rw [Ah0 (by simpa using c.1),Ah0 (by simpa using c.2)]
 cases Bd (A9 (skM ms w) (Int.toNat w.1)).2.1.1 (-16777216) 16777216 <;> cases Bd (A9 (skM ms w) (Int.toNat w.1)).2.1.2.1 (-16777216) 16777216 <;> rfl
end St
end V
end Go.Proofs.YtlangijnealfjaaGreat
