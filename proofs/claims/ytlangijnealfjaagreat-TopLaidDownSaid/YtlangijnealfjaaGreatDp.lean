import Derived.Test.YtlangijnealfjaaGreatCA
import Derived.Test.YtlangijnealfjaaGreatDo
namespace Go.Proofs.YtlangijnealfjaaGreat
open Go.RowKit
namespace V
namespace St
abbrev bsR:List BK:=[(4,64,kGr),(5,76,kSo),(6,76,kSo)]
abbrev kKn:SK:=.o 101 cKn
def B7m (nx:Nat):Lay:={ keys:=[2,3,4,8,10,11],ks:=[.p 4 0 0 0,.p 5 0 0 0,.p 6 0 0 0,.d (.sl A1),kKn,.d cI],bs:=bsR,n:=233,nx:=nx,marks:=[] }
def Bba (i nx:Nat):Lay:={ keys:=[2,3,4,8,10,11,i],ks:=[.p 4 0 0 0,.p 5 0 0 0,.p 6 0 0 0,.d (.sl A1),kKn,.d cI,.d cI],bs:=bsR,n:=233,nx:=nx,marks:=[] }
def B2b:Lay:={ keys:=[4,5,6],ks:=[.p 6 0 0 0,kKn,.d cI],bs:=[(6,76,kSo)],n:=233,nx:=12000,marks:=[] }
def rs (i nx:Nat) (g:(Bba i nx).T):S2:=(g.2.2.1.1,g.2.2.1.2.1,g.1.2.2.2.2.1)
end St
end V
end Go.Proofs.YtlangijnealfjaaGreat
namespace Go.Proofs.YtlangijnealfjaaGreat
open Go.RowKit
namespace V
namespace St
end St
end V
end Go.Proofs.YtlangijnealfjaaGreat
namespace Go.Proofs.YtlangijnealfjaaGreat
open Go.RowKit
namespace V
namespace St
end St
end V
end Go.Proofs.YtlangijnealfjaaGreat
namespace Go.Proofs.YtlangijnealfjaaGreat
open Go.RowKit
namespace V
namespace St
end St
end V
end Go.Proofs.YtlangijnealfjaaGreat
namespace Go.Proofs.YtlangijnealfjaaGreat
open Go.RowKit
namespace V
namespace St
def Bbb:Lay:=B7m 4000
def Bbc:Lay:={ keys:=[3,4,10],ks:=[.p 5 0 0 0,.p 6 0 0 0,kKn],bs:=[(5,76,kSo),(6,76,kSo)],n:=233,nx:=4000,marks:=[] }
def Bbd:XE→Lay:=fun e=>match e with | .ret=>B2b | _=>Bbc
abbrev T0:=Tree (Bbb.T⊕A0 Bbd)
end St
end V
end Go.Proofs.YtlangijnealfjaaGreat
namespace Go.Proofs.YtlangijnealfjaaGreat
open Go.RowKit
namespace V
namespace St
end St
end V
end Go.Proofs.YtlangijnealfjaaGreat
namespace Go.Proofs.YtlangijnealfjaaGreat
open Go.RowKit
namespace V
namespace St
def B7n:FLay:={ ks:=[.ag kSo,kKn,.d cI],bs:=[],nx:=1000 }
def Ao5 (b:Bool):FLay:=bif b then B7n else FN
def erT (e:Int):(Ao5 true).T:=((([],[],0,0,0,()),[],e,()),())
end St
end V
end Go.Proofs.YtlangijnealfjaaGreat
namespace Go.Proofs.YtlangijnealfjaaGreat
open Go.RowKit
namespace V
namespace St
theorem B2c {x y w g:Int} (hx:0≤x) (hy:0≤y) (hxw:x≤w) (hyg:y≤g) (hw:w≤4194304) (hg:g≤4194304):fpt x y=true:=by
 unfold fpt
 exact decide_eq_true ⟨by omega,by omega,by omega,by omega⟩
def flR (fl:Int):Int:=bif decide (fl>0) then W64 (fl-1) else fl
def B2d (s:SKTs kSo) (r:S2):(Ao5 true).T:=(((r.1,r.2.1,s.2.2.1,flR s.2.2.2.1,W64 (s.2.2.2.2.1+1),()),r.2.2,0,()),())
def toR (s:SKTs kSo):S2⊕Int→Dx Ao5
 | .inl r=>⟨true,B2d s r⟩
 | .inr e=>⟨true,erT e⟩
end St
end V
end Go.Proofs.YtlangijnealfjaaGreat
namespace Go.Proofs.YtlangijnealfjaaGreat
open Go.RowKit
namespace V
namespace St
end St
end V
end Go.Proofs.YtlangijnealfjaaGreat
namespace Go.Proofs.YtlangijnealfjaaGreat
open Go.RowKit
namespace V
namespace St
theorem Avn {x N:Int} (h : -N≤x∧x≤N) : -N≤Int.tdiv x 1000∧Int.tdiv x 1000≤N:=by
 by_cases hx:0≤x
 ·rw [Int.tdiv_eq_ediv_of_nonneg hx];omega
 ·have e:x = -(-x):=by omega
  rw [e,Int.neg_tdiv,Int.tdiv_eq_ediv_of_nonneg (show 0 ≤ -x by omega)]
  omega
theorem B2i (k:Int):A06 k=0∨A06 k=150∨A06 k=500∨A06 k=900:=by
 unfold A06
 cases (1:Int)==k <;> cases (2:Int)==k <;> cases (3:Int)==k <;> simp
theorem Ao6 {m k:Int} (h : -2097152≤m∧m≤2097152) : -2097152000≤fwD m k∧fwD m k≤2097152000:=by
 have b : -2097152000≤m*A06 k∧m*A06 k≤2097152000:=by
  rcases B2i k with e | e | e | e <;> rw [e] <;> omega
 unfold fwD
 generalize m*A06 k=x at b
 rw [B5 (n:=x) (by omega) (by omega)]
 have c:=Avn b
 rw [B5 (by omega) (by omega)]
 exact c
def BM (a b:Int) (l:Ar):Prop:=∀ j:Nat,(-a≤(A9 l j).2.1.1∧(A9 l j).2.1.1≤a)∧(-b≤(A9 l j).2.1.2.1∧(A9 l j).2.1.2.1≤b)
theorem SM.bm {l:Ar} (h:SM l):BM 16777216 16777216 l:=fun j=>by
 have:=h j
 unfold smB B1 at this
 simp only [Bool.and_eq_true,Bool.not_eq_true'] at this
 exact ⟨Eb this.1,Eb this.2⟩
theorem Azf {x d a:Int} (h : -a≤x∧x≤a) (ha:0≤a∧a≤4000000000) (hd : -2097152000≤d∧d≤2097152000) : -(a+2097152000)≤W64 (x+d)∧W64 (x+d)≤a+2097152000:=by
 rw [B5 (n:=x+d) (by omega) (by omega)];omega
theorem Ae1 {x a:Int} (h : -a≤x∧x≤a) : -(a+2097152000)≤x∧x≤a+2097152000:=by omega
theorem BM.mX {a b:Int} {l:Ar} {i d:Int} (h:BM a b l) (ha:0≤a∧a≤4000000000) (hd : -2097152000≤d∧d≤2097152000):BM (a+2097152000) b (St.mX l i d):=fun j=>by
 unfold St.mX
 show _∧_
 unfold A9
 rcases J9 (d:=Ak Au) l (Int.toNat i) j ((A9 l (Int.toNat i)).1,(W64 ((A9 l (Int.toNat i)).2.1.1+d),(A9 l (Int.toNat i)).2.1.2.1,()),(A9 l (Int.toNat i)).2.2.1,()) with e | e
 ·have e':=e
  unfold A9 at e'
  rw [e']
  exact ⟨Azf (h (Int.toNat i)).1 ha hd,(h (Int.toNat i)).2⟩
 ·have e':=e
  unfold A9 at e'
  rw [e']
  exact ⟨Ae1 (h j).1,(h j).2⟩
theorem BM.mY {a b:Int} {l:Ar} {i d:Int} (h:BM a b l) (ha:0≤b∧b≤4000000000) (hd : -2097152000≤d∧d≤2097152000):BM a (b+2097152000) (St.mY l i d):=fun j=>by
 unfold St.mY
 show _∧_
 unfold A9
 rcases J9 (d:=Ak Au) l (Int.toNat i) j ((A9 l (Int.toNat i)).1,((A9 l (Int.toNat i)).2.1.1,W64 ((A9 l (Int.toNat i)).2.1.2.1+d),()),(A9 l (Int.toNat i)).2.2.1,()) with e | e
 ·have e':=e
  unfold A9 at e'
  rw [e']
  exact ⟨(h (Int.toNat i)).1,Azf (h (Int.toNat i)).2 ha hd⟩
 ·have e':=e
  unfold A9 at e'
  rw [e']
  exact ⟨(h j).1,Ae1 (h j).2⟩
theorem Ae2 {x:Int} (h : -2113929216≤x∧x≤2113929216):Avl x=B6 x (-16777216) 16777216:=by
 unfold Avl B6
 rw [B5 (n:=0-x) (by omega) (by omega)]
 by_cases h1:x < -16777216
 ·rw [decide_eq_true h1,decide_eq_true (show max x (0-x)>16777216 by omega)];rfl
 ·by_cases h2:16777216<x
  ·rw [decide_eq_true h2,decide_eq_true (show max x (0-x)>16777216 by omega),Bool.or_true]
  ·rw [decide_eq_false h1,decide_eq_false h2,decide_eq_false (show ¬ max x (0-x)>16777216 by omega)];rfl
theorem Avo {ms:Ar} {w:TCT cBw} {n:Int} (h:SM ms) (hb:BwOk n w):Agw (skM ms w) w.1=!B1 (A9 (skM ms w) (Int.toNat w.1)).2.1.1 (A9 (skM ms w) (Int.toNat w.1)).2.1.2.1:=by
 have tw:=Aze hb.f hb.z hb.p
 have b:BM (16777216+2097152000) (16777216+2097152000) (skM ms w):=(BM.mX h.bm (by omega) (Ao6 tw.2.1)).mY (by omega) (Ao6 tw.2.2)
 have c:=b (Int.toNat w.1)
 unfold Agw B1
 rw [Ae2 (by simpa using c.1),Ae2 (by simpa using c.2)]
 cases B6 (A9 (skM ms w) (Int.toNat w.1)).2.1.1 (-16777216) 16777216 <;> cases B6 (A9 (skM ms w) (Int.toNat w.1)).2.1.2.1 (-16777216) 16777216 <;> rfl
end St
end V
end Go.Proofs.YtlangijnealfjaaGreat
