import Derived.Test.YtcfanlgpkefogaaGreatKa
import Derived.Test.YtcfanlgpkefogaaGreatYi
namespace Go.Proofs.YtcfanlgpkefogaaGreat
open Go.RowKit
namespace V
namespace St
def OF (l:TCT A5) (n:Nat) (ms:Ax) (os:List Bool):Prop:=∀ j:Nat,j<n→Ci os j=true→onB l (A8 ms j).1=false
theorem OF.rel {l:TCT A5} {n:Nat} {s s':S2} (h:∀ i:Nat,REL i s s') (ho:s'.2.1=s.2.1) (q:OF l n s.1 s.2.1):OF l n s'.1 s'.2.1:=fun j hj e=>by
 rw [ho] at e
 rw [((h j).r1 e).2.1]
 exact q j hj e
theorem B68 {l:TCT A5} {t st:Int} {n i:Nat} {s s':S2} (hi:i<n) (h:lvE l t st i s=.inl s') (q:s.1.length=n∧OF l n s.1 s.2.1):s'.1.length=n∧OF l n s'.1 s'.2.1:=by
 unfold lvE at h
 cases e1:!Bc s.2.1 i (B7 .b) with
 | false=>rw [e1] at h;cases h;exact q
 | true =>
  rw [e1] at h
  cases e2:!onB l (A8 s.1 i).1 with
  | false=>rw [e2] at h;cases h;exact q
  | true =>
   rw [e2] at h
   cases h
   refine ⟨(Bw _ _ _).trans q.1,fun j hj e=>?_⟩
   by_cases k:j=i
   ·subst k
    show onB l (A8 (Bu s.1 j (B1v (A8 s.1 j))) j).1=false
    rw [Gj (by rw [q.1];exact hj) rfl]
    exact (by simpa using e2:onB l (A8 s.1 j).1=false)
   ·show onB l (A8 (Bu s.1 i (B1v (A8 s.1 i))) j).1=false
    have e:Ci (Bu s.2.1 i true) j=true:=e
    rw [Vn k] at e
    rw [Ex k]
    exact q.2 j hj e
theorem B69 {bl:List (TCT A3)} {l:TCT A5} {t st:Int} {n:Nat} {s s':S2} (hn:s.1.length=n) (h:mvF bl l t st n s=.inl s') (q:OF l n s.1 s.2.1):OF l n s'.1 s'.2.1:=by
 unfold mvF at h
 cases e1:B6 (stE bl s.2.1) 0 n s.1 with
 | inr x=>rw [e1] at h;cases h
 | inl ms =>
  rw [e1] at h
  have f:=Aqj hn e1
  have a:OF l n ms s.2.1:=OF.rel (s:=s) (s':=(ms,s.2.1,s.2.2)) (fun i=>Bf (n:=n) (Inv:=fun _ (x:Ax)=>REL i s (x,s.2.1,s.2.2)) (fun j x x' _ hx h2=>hx.trans (Ajr h2)) n 0 s.1 ms (by omega) .refl e1) rfl q
  exact (Bf (n:=n) (Inv:=fun _ (x:S2)=>x.1.length=n∧OF l n x.1 x.2.1) (fun i x x' hi p e=>B68 hi e p) n 0 (ms,s.2.1,s.2.2) s' (by omega) ⟨f.l.trans hn,a⟩ h).2
theorem B6a {k:CT} {j:Nat} {s s':S2} (hn8:k.bl.length≤8) (q:s.1.length=k.bl.length∧OF k.l k.bl.length s.1 s.2.1) (h:tkE k j s=.inl s'):s'.1.length=k.bl.length∧OF k.l k.bl.length s'.1 s'.2.1:=by
 unfold tkE at h
 cases h1:mvF k.bl k.l k.t ((j+1:Nat):Int) k.bl.length s with
 | inr e=>rw [h1] at h;cases h
 | inl s1 =>
  rw [h1] at h
  simp only at h
  have a:=B69 q.1 h1 q.2
  cases h2:seF k.bl k.c k.t ((j+1:Nat):Int) k.w k.fl k.bl.length s1 with
  | inr e=>rw [h2] at h;cases h
  | inl s2 =>
   rw [h2] at h
   simp only at h
   have b:OF k.l k.bl.length s2.1 s1.2.1:=OF.rel (s:=s1) (s':=(s2.1,s1.2.1,s2.2)) (fun i=>A6d hn8 h2) rfl a
   cases h3:buF k.bl k.c k.ps k.t ((j+1:Nat):Int) k.w k.fl k.bl.length (s2.1,s1.2.1,s2.2) with
   | inr e=>rw [h3] at h;cases h
   | inl s3 =>
    rw [h3] at h
    cases h
    exact ⟨(Aqi h3).trans ((A6b h2).trans ((Aqg h1).trans q.1)),OF.rel (s:=(s2.1,s1.2.1,s2.2)) (s':=(s3.1,s1.2.1,s3.2)) (fun i=>Aju h3) rfl b⟩
theorem B6b {k:CT} {s s':S2} (hn8:k.bl.length≤8) (hn:s.1.length=k.bl.length) (q:OF k.l k.bl.length s.1 s.2.1) (h:tkF k s=.inl s'):OF k.l k.bl.length s'.1 s'.2.1:=by
 unfold tkF at h
 cases h0:k.t==4000 with
 | true=>rw [h0] at h;cases h
 | false =>
  rw [h0] at h
  simp only [cond_false] at h
  cases h1:B6 (slE k.l s.2.1 k.w k.fl) 0 k.bl.length s.1 with
  | inr e=>rw [h1] at h;cases h
  | inl ms =>
   rw [h1] at h
   have f:=Aqk hn h1
   have a:OF k.l k.bl.length ms s.2.1:=OF.rel (s:=s) (s':=(ms,s.2.1,s.2.2)) (fun i=>Bf (n:=k.bl.length) (Inv:=fun _ (x:Ax)=>REL i s (x,s.2.1,s.2.2)) (fun j x x' _ hx h2=>hx.trans (Ajq h2)) k.bl.length 0 s.1 ms (by omega) .refl h1) rfl q
   have h2:B6 (tkE k) 0 16 (ms,s.2.1,s.2.2)=.inl s':=h
   exact (Bf (n:=16) (Inv:=fun _ (x:S2)=>x.1.length=k.bl.length∧OF k.l k.bl.length x.1 x.2.1) (fun j x x' _ hx h3=>B6a hn8 hx h3) 16 0 (ms,s.2.1,s.2.2) s' (by omega) ⟨f.ll.trans hn,a⟩ h2).2
theorem Alj {g:TCT cGr}:∀ (n:Nat) (s:TCT cSt) (ks:Kns) (r:TCT cSt×Kns),StaOk g s→OF g.1 (A4 g).length (msT s) (osT s)→rnS g n s ks=.inl r→OF g.1 (A4 g).length (msT r.1) (osT r.1)
 | 0,s,ks,r,_,q,e=>by
  rw [A02] at e
  cases h1:decide ((ks.length:Int)>4096) with
  | true=>rw [h1] at e;cases e
  | false=>rw [h1] at e;cases e;exact q
 | m+1,s,ks,r,h,q,e=>by
  rw [A03] at e
  cases h1:decide ((ks.length:Int)>4096) with
  | true=>rw [h1] at e;cases e
  | false =>
   rw [h1,cond_false] at e
   cases h2:Dh s with
   | true=>rw [h2] at e;cases e;exact q
   | false =>
    rw [h2] at e
    simp only [Bool.not_false,cond_true] at e
    cases h3:tkF (ctS g s) (msT s,osT s,ks) with
    | inr x=>rw [h3] at e;cases e
    | inl r1 =>
     rw [h3] at e
     exact Alj m (nxS s r1) r1.2.2 r (Tg h h3) (B6b (k:=ctS g s) (s:=(msT s,osT s,ks)) h.n8 h.m q h3) e
theorem Bj0 {g:TCT cGr} {s:TCT cSt} {w:TCT cBw} (h:(skV g s w).2.2.1=0):osT (skV g s w).1=osT s:=by
 have e:=(Ajy h).2
 rw [e] at h ⊢
 unfold skG at h ⊢
 cases h1:w.2.2.2.1==4 with
 | true=>rfl
 | false =>
  rw [h1] at h
  simp only [cond_false] at h ⊢
  cases h2:seF (A4 g) g.2.2.1 0 0 w.1 0 (A4 g).length (Km (msT s) w.1 (twP w),osT s,[]) with
  | inr x =>
   rw [h2] at h
   have h:x=0:=h
   exact absurd h (Zx h2)
  | inl r =>
   rw [h2] at h
   obtain ⟨ms,ks⟩:=r
   unfold skF at h ⊢
   simp only at h ⊢
   cases h3:decide ((ks.length:Int)>0) with
   | false=>rfl
   | true =>
    rw [h3] at h
    cases h4:A6a (skM ms w) w.1 with
    | true=>rw [h4] at h;cases h
    | false=>rfl
end St
end V
end Go.Proofs.YtcfanlgpkefogaaGreat
namespace Go.Proofs.YtcfanlgpkefogaaGreat
open Go.RowKit
namespace V
namespace Tp
open St
def yG:TCT Il:=(5000,90000,190000,())
theorem A52 (d s:Int):G8 (grn d s)=yG:=by
 show (5000,W64 (100000-W64 (2*5000)),W64 (200000-W64 (2*5000)),())=yG
 rw [show W64 (2*5000)=10000 by decide,show W64 (100000-10000)=90000 by decide,show W64 (200000-10000)=190000 by decide];rfl
theorem B8n (d s:Int):A2d (grn d s)=560000:=by
 unfold A2d
 rw [A52]
 show W64 (2*W64 (90000+190000))=560000
 decide
def gx (n:Int):Int:=if n<280000 then 5000+min n 90000 else 95000-min (n-280000) 90000
def gy (n:Int):Int:=if n<280000 then 5000+max (n-90000) 0 else 195000-max (n-370000) 0
theorem atG {n:Int} (h0:0≤n) (h1:n<560000):at0 yG n=(gx n,gy n,()):=by
 unfold at0 atF gx gy
 have hh:O6 yG=280000:=by show W64 (90000+190000)=280000;decide
 rw [hh]
 by_cases h:n<280000
 ·rw [decide_eq_false (show ¬ n≥280000 by omega),if_pos h,if_pos h]
  show (W64 (5000+min n 90000),W64 (5000+max (W64 (n-90000)) 0),())=_
  rw [Bi (n:=n-90000) (by omega) (by omega),Bi (n:=5000+min n 90000) (by omega) (by omega),Bi (n:=5000+max (n-90000) 0) (by omega) (by omega)]
 ·rw [decide_eq_true (show n≥280000 by omega),if_neg h,if_neg h]
  show (W64 (5000+W64 (90000-min (W64 (n-O6 yG)) 90000)),W64 (5000+W64 (190000-max (W64 (W64 (n-O6 yG)-90000)) 0)),())=_
  rw [hh,Bi (n:=n-280000) (by omega) (by omega),Bi (n:=n-280000-90000) (by omega) (by omega),Bi (n:=90000-min (n-280000) 90000) (by omega) (by omega),Bi (n:=190000-max (n-280000-90000) 0) (by omega) (by omega),Bi (n:=5000+(90000-min (n-280000) 90000)) (by omega) (by omega),Bi (n:=5000+(190000-max (n-280000-90000) 0)) (by omega) (by omega)]
  rw [show 5000+(90000-min (n-280000) 90000)=95000-min (n-280000) 90000 by omega,show 5000+(190000-max (n-280000-90000) 0)=195000-max (n-370000) 0 by omega]
def Ln (a b:Int):Prop:=(5000≤a∧a≤95000)∧(5000≤b∧b≤195000)∧(a=5000∨a=95000∨b=5000∨b=195000)
theorem Bj1 {n:Int} (h0:0≤n) (h1:n<560000):Ln (gx n) (gy n):=by
 unfold Ln gx gy
 by_cases h:n<280000
 ·rw [if_pos h,if_pos h];omega
 ·rw [if_neg h,if_neg h];omega
theorem Bj2 {a b:Int} (h:Ln a b):(0≤Kx yG (a,b,())∧Kx yG (a,b,())<560000)∧gx (Kx yG (a,b,()))=a∧gy (Kx yG (a,b,()))=b:=by
 obtain ⟨ha,hb,hc⟩:=h
 have ex:W64 (a-5000)=a-5000:=Bi (by omega) (by omega)
 have ez:W64 (b-5000)=b-5000:=Bi (by omega) (by omega)
 unfold Kx
 show (0≤(bif !St.inR (W64 (a-5000)) 0 90000 then -1 else bif !St.inR (W64 (b-5000)) 0 190000 then -1 else bif W64 (b-5000)==0 then W64 (a-5000) else bif W64 (a-5000)==90000 then W64 (90000+W64 (b-5000)) else bif W64 (b-5000)==190000 then W64 (W64 (W64 (90000+190000)+90000)-W64 (a-5000)) else bif W64 (a-5000)==0 then W64 (W64 (W64 (W64 (2*90000)+190000)+190000)-W64 (b-5000)) else -1:Int)∧(bif !St.inR (W64 (a-5000)) 0 90000 then -1 else bif !St.inR (W64 (b-5000)) 0 190000 then -1 else bif W64 (b-5000)==0 then W64 (a-5000) else bif W64 (a-5000)==90000 then W64 (90000+W64 (b-5000)) else bif W64 (b-5000)==190000 then W64 (W64 (W64 (90000+190000)+90000)-W64 (a-5000)) else bif W64 (a-5000)==0 then W64 (W64 (W64 (W64 (2*90000)+190000)+190000)-W64 (b-5000)) else -1:Int)<560000)∧gx (bif !St.inR (W64 (a-5000)) 0 90000 then -1 else bif !St.inR (W64 (b-5000)) 0 190000 then -1 else bif W64 (b-5000)==0 then W64 (a-5000) else bif W64 (a-5000)==90000 then W64 (90000+W64 (b-5000)) else bif W64 (b-5000)==190000 then W64 (W64 (W64 (90000+190000)+90000)-W64 (a-5000)) else bif W64 (a-5000)==0 then W64 (W64 (W64 (W64 (2*90000)+190000)+190000)-W64 (b-5000)) else -1)=a∧gy (bif !St.inR (W64 (a-5000)) 0 90000 then -1 else bif !St.inR (W64 (b-5000)) 0 190000 then -1 else bif W64 (b-5000)==0 then W64 (a-5000) else bif W64 (a-5000)==90000 then W64 (90000+W64 (b-5000)) else bif W64 (b-5000)==190000 then W64 (W64 (W64 (90000+190000)+90000)-W64 (a-5000)) else bif W64 (a-5000)==0 then W64 (W64 (W64 (W64 (2*90000)+190000)+190000)-W64 (b-5000)) else -1)=b
 rw [ex,ez,F3.2 (show 0≤a-5000∧a-5000≤90000 by omega),F3.2 (show 0≤b-5000∧b-5000≤190000 by omega),show W64 (W64 (90000+190000)+90000)=370000 by decide,show W64 (W64 (W64 (2*90000)+190000)+190000)=560000 by decide,Bi (n:=90000+(b-5000)) (by omega) (by omega),Bi (n:=370000-(a-5000)) (by omega) (by omega),Bi (n:=560000-(b-5000)) (by omega) (by omega)]
 simp only [Bool.not_true,cond_false]
 have fin:∀ n:Int,(0≤n∧n<560000)→(n<280000→5000+min n 90000=a∧5000+max (n-90000) 0=b)→(¬ n<280000→95000-min (n-280000) 90000=a∧195000-max (n-370000) 0=b)→(0≤n∧n<560000)∧gx n=a∧gy n=b:=fun n k k1 k2=>by
  unfold gx gy
  by_cases q:n<280000
  ·rw [if_pos q,if_pos q];exact ⟨k,k1 q⟩
  ·rw [if_neg q,if_neg q];exact ⟨k,k2 q⟩
 by_cases e1:b-5000=0
 ·rw [show (b-5000==0)=true from beq_iff_eq.2 e1]
  exact fin (a-5000) (by omega) (by omega) (by omega)
 ·rw [show (b-5000==0)=false from beq_eq_false_iff_ne.2 e1]
  by_cases e2:a-5000=90000
  ·rw [show (a-5000==90000)=true from beq_iff_eq.2 e2]
   exact fin (90000+(b-5000)) (by omega) (by omega) (by omega)
  ·rw [show (a-5000==90000)=false from beq_eq_false_iff_ne.2 e2]
   by_cases e3:b-5000=190000
   ·rw [show (b-5000==190000)=true from beq_iff_eq.2 e3]
    exact fin (370000-(a-5000)) (by omega) (by omega) (by omega)
   ·rw [show (b-5000==190000)=false from beq_eq_false_iff_ne.2 e3]
    have e4:a-5000=0:=by omega
    rw [show (a-5000==0)=true from beq_iff_eq.2 e4]
    exact fin (560000-(b-5000)) (by omega) (by omega) (by omega)
theorem Bj3 {x y:Int} (ho:¬ ((0≤x∧x≤100000)∧(0≤y∧y≤200000))):Ln (min (max x 5000) 95000) (min (max y 5000) 195000)∧(!(min (max x 5000) 95000==x&&(min (max y 5000) 195000==y&&true)))=true:=by
 refine ⟨by unfold Ln;omega,?_⟩
 by_cases k1:min (max x 5000) 95000=x
 ·have k2:¬ min (max y 5000) 195000=y:=by omega
  rw [beq_eq_false_iff_ne.2 k2,Bool.false_and,Bool.and_false];rfl
 ·rw [beq_eq_false_iff_ne.2 k1,Bool.false_and];rfl
theorem B8o {d s:Int} {p:TCT cPt} (hoff:onB (grn d s) p=false):Ln (Fz (grn d s) p).1 (Fz (grn d s) p).2.1∧spB (grn d s) p=true:=by
 have e:Fz (grn d s) p=(min (max p.1 5000) 95000,min (max p.2.1 5000) 195000,()):=by
  show (min (max p.1 5000) (W64 (100000-5000)),min (max p.2.1 5000) (W64 (200000-5000)),())=_
  rw [show W64 (100000-5000)=95000 by decide,show W64 (200000-5000)=195000 by decide]
 have ho:¬ ((0≤p.1∧p.1≤100000)∧(0≤p.2.1∧p.2.1≤200000)):=fun k=>by
  unfold onB at hoff
  rw [show St.inR p.1 0 (grn d s).2.1=true from F3.2 k.1,show St.inR p.2.1 0 (grn d s).2.2.1=true from F3.2 k.2] at hoff
  cases hoff
 have k:=Bj3 ho
 unfold spB
 rw [e]
 exact k
theorem Ayy {a b:Int} {c:TCT cPt} (ha:0≤a∧a≤200000) (hb:0≤b∧b≤200000) (hc:fpt c.1 c.2.1=true):A2b (a,b,()) 2946 (dcR c)=decide ((a-c.1)*(a-c.1)+(b-c.2.1)*(b-c.2.1)<34715664):=by
 have k:=Iv hc
 have b1:=D7 (a:=a-c.1) (b:=a-c.1) (A:=4394304) (B:=4394304) (by omega) (by omega) (by omega) (by omega)
 have b2:=D7 (a:=b-c.2.1) (b:=b-c.2.1) (A:=4394304) (B:=4394304) (by omega) (by omega) (by omega) (by omega)
 unfold A2b
 show decide (W64 (W64 (W64 (a-c.1)*W64 (a-c.1))+W64 (W64 (b-c.2.1)*W64 (b-c.2.1)))<W64 (W64 (2946+2946)*W64 (2946+2946)))=_
 rw [show W64 (W64 (2946+2946)*W64 (2946+2946))=34715664 by decide,Bi (n:=a-c.1) (by omega) (by omega),Bi (n:=b-c.2.1) (by omega) (by omega),Bi (n:=(a-c.1)*(a-c.1)) (by omega) (by omega),Bi (n:=(b-c.2.1)*(b-c.2.1)) (by omega) (by omega),Bi (n:=(a-c.1)*(a-c.1)+(b-c.2.1)*(b-c.2.1)) (by omega) (by omega)]
theorem iwG {a b:Int} {c:TCT cPt} (ha:0≤a∧a≤200000) (hb:0≤b∧b≤200000) (hc:fpt c.1 c.2.1=true):iwD (a,b,()) (a,b,()) 2946 (dcR c)=A2b (a,b,()) 2946 (dcR c):=by
 rw [Ayy ha hb hc]
 have hp:fpt a b=true:=decide_eq_true (by omega)
 unfold iwD
 show decide ((LsR a b a b c.1 c.2.1 (W64 (2946+2946))).1<0)=_
 rw [show W64 (2946+2946)=5892 by decide]
 have e:(LsR a b a b c.1 c.2.1 5892).1=((a-c.1)*(a-c.1)+(b-c.2.1)*(b-c.2.1)-34715664).sign:=by
  unfold LsR
  rw [hp,hc,show Bs 5892 0 8388608=false by decide]
  show LsV a b a b c.1 c.2.1 5892=_
  unfold LsV
  have ea:alg a b a b c.1 c.2.1=0:=by unfold alg;rw [Int.sub_self,Int.sub_self,Int.zero_mul,Int.zero_mul];rfl
  rw [ea,decide_eq_true (Int.le_refl 0),cond_true]
  have es:sq a b c.1 c.2.1=(a-c.1)*(a-c.1)+(b-c.2.1)*(b-c.2.1):=by unfold sq;grind
  rw [es];rfl
 rw [e]
 refine decide_eq_decide.2 ?_
 rw [Int.sign_neg_iff]
 omega
theorem Ayz {e f:Int} (h:e*e+f*f<34715664) : -5892<e∧e<5892 ∧ -5892<f∧f<5892:=by
 have a:=I2 e
 have b:=I2 f
 have key:∀ x:Int,x*x<34715664 → -5892<x∧x<5892:=fun x hx=>by
  refine ⟨?_,?_⟩
  ·rcases Int.lt_or_le (-5892) x with k | k
   ·exact k
   ·have:=Int.mul_le_mul (show 5892 ≤ -x by omega) (show 5892 ≤ -x by omega) (by decide) (by omega)
    have e : -x * -x=x*x:=by grind
    omega
  ·rcases Int.lt_or_le x 5892 with k | k
   ·exact k
   ·have:=Int.mul_le_mul (show 5892≤x by omega) (show 5892≤x by omega) (by decide) (by omega)
    omega
 have p:=key e (by omega)
 have q:=key f (by omega)
 exact ⟨p.1,p.2,q.1,q.2⟩
def nr (a b:Int) (c:TCT cPt):Bool:=decide ((a-c.1)*(a-c.1)+(b-c.2.1)*(b-c.2.1)<34715664)
theorem Uv {a b:Int} {c:TCT cPt} (h:nr a b c=true) : -5892<a-c.1∧a-c.1<5892 ∧ -5892<b-c.2.1∧b-c.2.1<5892:=Ayz (of_decide_eq_true h)
theorem Az0 (c:TCT cPt):(nr 5000 5000 c).toNat+(nr 95000 5000 c).toNat+(nr 95000 195000 c).toNat+(nr 5000 195000 c).toNat≤1:=by
 cases h1:nr 5000 5000 c with
 | true =>
  have k1:=Uv h1
  cases h2:nr 95000 5000 c with
  | true=>have k:=Uv h2;omega
  | false =>
   cases h3:nr 95000 195000 c with
   | true=>have k:=Uv h3;omega
   | false =>
    cases h4:nr 5000 195000 c with
    | true=>have k:=Uv h4;omega
    | false=>decide
 | false =>
  cases h2:nr 95000 5000 c with
  | true =>
   have k1:=Uv h2
   cases h3:nr 95000 195000 c with
   | true=>have k:=Uv h3;omega
   | false =>
    cases h4:nr 5000 195000 c with
    | true=>have k:=Uv h4;omega
    | false=>decide
  | false =>
   cases h3:nr 95000 195000 c with
   | true =>
    have k1:=Uv h3
    cases h4:nr 5000 195000 c with
    | true=>have k:=Uv h4;omega
    | false=>decide
   | false=>cases nr 5000 195000 c <;> decide
theorem A7s (a b:Bool):(a||b).toNat≤a.toNat+b.toNat:=by cases a <;> cases b <;> decide
theorem Acw:∀ ps:List (TCT cPt),(ps.any (nr 5000 5000)).toNat+(ps.any (nr 95000 5000)).toNat+(ps.any (nr 95000 195000)).toNat+(ps.any (nr 5000 195000)).toNat≤ps.length
 | []=>by decide
 | c::ps=>by
  have a:=Acw ps
  have b:=Az0 c
  simp only [List.any_cons,List.length_cons]
  have o1:=A7s (nr 5000 5000 c) (ps.any (nr 5000 5000))
  have o2:=A7s (nr 95000 5000 c) (ps.any (nr 95000 5000))
  have o3:=A7s (nr 95000 195000 c) (ps.any (nr 95000 195000))
  have o4:=A7s (nr 5000 195000 c) (ps.any (nr 5000 195000))
  omega
theorem Az1 {ps:List (TCT cPt)} (h:ps.length≤3):∃ n:Int,(0≤n∧n<560000)∧ps.any (nr (gx n) (gy n))=false:=by
 have k:=Acw ps
 cases h1:ps.any (nr 5000 5000) with
 | false=>exact ⟨0,by decide,h1⟩
 | true =>
  cases h2:ps.any (nr 95000 5000) with
  | false=>exact ⟨90000,by decide,h2⟩
  | true =>
   cases h3:ps.any (nr 95000 195000) with
   | false=>exact ⟨280000,by decide,h3⟩
   | true =>
    cases h4:ps.any (nr 5000 195000) with
    | false=>exact ⟨370000,by decide,h4⟩
    | true =>
     rw [h1,h2,h3,h4] at k
     have:(4:Nat)≤ps.length:=k
     omega
end Tp
end V
end Go.Proofs.YtcfanlgpkefogaaGreat
namespace Go.Proofs.YtcfanlgpkefogaaGreat
open Go.RowKit
namespace V
namespace Tp
open St
theorem putS_none {c:Cpu} {m:Int}:∀ (n:Nat) (t:Int),putS c m n t=none→∀ k:Nat,k<n→Im c (n1P c m (t+(k:Int)))=false∧Im c (n2P c m (t+(k:Int)))=false
 | 0,_,_,k,hk=>absurd hk (Nat.not_lt_zero k)
 | n+1,t,h,k,hk=>by
  unfold putS at h
  cases h1:Im c (n1P c m t) with
  | true=>rw [h1] at h;cases h
  | false =>
   rw [h1] at h
   cases h2:Im c (n2P c m t) with
   | true=>rw [h2] at h;cases h
   | false =>
    rw [h2] at h
    cases k with
    | zero=>rw [show t+((0:Nat):Int)=t by omega];exact ⟨h1,h2⟩
    | succ k =>
     rw [show t+((k+1:Nat):Int)=t+1+(k:Int) by omega]
     exact putS_none n (t+1) h k (by omega)
theorem putS_some {c:Cpu} {m:Int}:∀ (n:Nat) (t:Int) (p:TCT cPt),putS c m n t=some p→∃ (k:Nat) (i:Int),k<n∧(i=n1P c m (t+(k:Int))∨i=n2P c m (t+(k:Int)))∧p=at0 (lnY c.y) i∧Im c i=true
 | 0,_,_,h=>by cases h
 | n+1,t,p,h=>by
  unfold putS at h
  cases h1:Im c (n1P c m t) with
  | true =>
   rw [h1] at h
   cases h
   exact ⟨0,_,by omega,.inl (by rw [show t+((0:Nat):Int)=t by omega]),rfl,h1⟩
  | false =>
   rw [h1] at h
   cases h2:Im c (n2P c m t) with
   | true =>
    rw [h2] at h
    cases h
    exact ⟨0,_,by omega,.inr (by rw [show t+((0:Nat):Int)=t by omega]),rfl,h2⟩
   | false =>
    rw [h2] at h
    obtain ⟨k,i,a,b,d⟩:=putS_some n (t+1) p h
    exact ⟨k+1,i,by omega,by rw [show t+((k+1:Nat):Int)=t+1+(k:Int) by omega];exact b,d⟩
theorem putS_first {c:Cpu} {m:Int} {n:Nat} {t:Int} (h:Im c (n1P c m t)=true):putS c m (n+1) t=some (at0 (lnY c.y) (n1P c m t)):=by
 unfold putS
 rw [h];rfl
theorem n12 {c:Cpu} {t:Int} (h0:0≤c.st) (h1:c.st<560000) (t0:0≤t) (t1:t≤280000):n1P c 560000 t=(c.st+t) % 560000∧n2P c 560000 t=(c.st-t+560000) % 560000:=by
 unfold n1P n2P
 rw [Bi (n:=c.st+t) (by omega) (by omega),Bi (n:=c.st-t) (by omega) (by omega),Bi (n:=c.st-t+560000) (by omega) (by omega),Int.tmod_eq_emod_of_nonneg (by omega),Int.tmod_eq_emod_of_nonneg (by omega)]
 exact ⟨rfl,rfl⟩
theorem hit {c:Cpu} {n:Int} (h0:0≤c.st) (h1:c.st<560000) (n0:0≤n) (n1:n<560000):∃ k:Nat,k<280001∧(n1P c 560000 (0+(k:Int))=n∨n2P c 560000 (0+(k:Int))=n):=by
 have key:∀ d:Int,0≤d→d<560000→(c.st+d) % 560000=n→∃ k:Nat,k<280001∧(n1P c 560000 (0+(k:Int))=n∨n2P c 560000 (0+(k:Int))=n):=by
  intro d d0 d1 e
  rcases Int.lt_or_le d 280001 with q | q
  ·refine ⟨d.toNat,by omega,.inl ?_⟩
   rw [Int.zero_add,Int.toNat_of_nonneg d0,(n12 h0 h1 d0 (by omega)).1];exact e
  ·refine ⟨(560000-d).toNat,by omega,.inr ?_⟩
   rw [Int.zero_add,Int.toNat_of_nonneg (by omega),(n12 h0 h1 (t:=560000-d) (by omega) (by omega)).2,show c.st-(560000-d)+560000=c.st+d by omega];exact e
 rcases Int.lt_or_le n c.st with q | q
 ·exact key (n-c.st+560000) (by omega) (by omega) (by omega)
 ·exact key (n-c.st) (by omega) (by omega) (by omega)
theorem Alk {a b:Int} (h:Ln a b):(0≤a∧a≤200000)∧(0≤b∧b≤200000)∧fpt a b=true∧(a≤100000):=by
 obtain ⟨h1,h2,_⟩:=h
 exact ⟨by omega,by omega,decide_eq_true (by omega),by omega⟩
theorem Bdt {a b:Int} {ps:List (TCT cPt)} (h:Ln a b) (hps:∀ q ∈ ps,fpt q.1 q.2.1=true):(ps.map dcR).any (A2b (a,b,()) 2946)=ps.any (nr a b):=by
 obtain ⟨h1,h2,_⟩:=Alk h
 induction ps with
 | nil=>rfl
 | cons c ps ih =>
  simp only [List.map_cons,List.any_cons]
  rw [ih (fun q hq=>hps q (List.mem_cons_of_mem _ hq)),Ayy h1 h2 (hps c (List.mem_cons_self ..))];rfl
theorem A7t {p:TCT cPt} {d s:Int} {ps:List (TCT cPt)} {i:Int} (hps:∀ q ∈ ps,fpt q.1 q.2.1=true) (i0:0≤i) (i1:i<560000):Im (putC (grn d s) p 2946 (ps.map dcR)) i=!ps.any (nr (gx i) (gy i)):=by
 unfold Im putC
 rw [A52]
 show (!(ps.map dcR).any (Kw (at0 yG i,2946,())))=_
 rw [atG i0 i1,← Bdt (Bj1 i0 i1) hps];rfl
theorem put_G {d s:Int} {p:TCT cPt} {ps:List (TCT cPt)} (hl:Ck (grn d s)=0) (hoff:onB (grn d s) p=false) (hf:fpt p.1 p.2.1=true) (h3:ps.length≤3) (hps:∀ q ∈ ps,fpt q.1 q.2.1=true) :
  putE (grn d s) p 2946 (ps.map dcR)=0∧∃ n:Int,0≤n∧n<560000∧putV (grn d s) p 2946 (ps.map dcR)=(gx n,gy n,())∧ps.any (nr (gx n) (gy n))=false∧(ps.any (nr (Fz (grn d s) p).1 (Fz (grn d s) p).2.1)=false→(gx n,gy n,())=Fz (grn d s) p):=by
 obtain ⟨hsl,hsb⟩:=B8o hoff
 obtain ⟨⟨s0,s1⟩,s2,s3⟩:=Bj2 hsl
 have hsp:Fz (grn d s) p=((Fz (grn d s) p).1,(Fz (grn d s) p).2.1,()):=rfl
 have hone:Gc (grn d s) p=0:=by
  unfold Gc
  rw [hl,hf];rfl
 have hcb:cbE 2946 (ps.map dcR)=0:=by
  unfold cbE
  have a1:(ps.map dcR).any cbP=false:=by
   rw [List.any_eq_false]
   intro x hx
   obtain ⟨q,hq,rfl⟩:=List.mem_map.1 hx
   unfold cbP
   show ¬ (Gu q.1 q.2.1 != 0||!St.inR 2946 1 16384)=true
   rw [Mz,hps q hq,show St.inR 2946 1 16384=true by decide]
   decide
  rw [show St.inR 2946 1 16384=true by decide,a1,decide_eq_false (show ¬ ((ps.map dcR).length:Int)>12 by rw [List.length_map];omega)]
  rfl
 have hst:(putC (grn d s) p 2946 (ps.map dcR)).st=Kx yG (Fz (grn d s) p):=by
  show Kx (G8 (grn d s)) (Fz (grn d s) p)=_
  rw [A52]
 have t0:0≤(putC (grn d s) p 2946 (ps.map dcR)).st:=by rw [hst,hsp];exact s0
 have t1:(putC (grn d s) p 2946 (ps.map dcR)).st<560000:=by rw [hst,hsp];exact s1
 have fu:fuP 560000 0=280001:=by decide
 have hr:putR (grn d s) p 2946 (ps.map dcR)=putS (putC (grn d s) p 2946 (ps.map dcR)) 560000 280001 0:=by
  unfold putR
  rw [B8n,fu]
 cases hp:putS (putC (grn d s) p 2946 (ps.map dcR)) 560000 280001 0 with
 | none =>
  exfalso
  obtain ⟨n,⟨n0,n1⟩,hn⟩:=Az1 h3
  obtain ⟨k,k1,k2⟩:=hit t0 t1 n0 n1
  have a:=putS_none 280001 0 hp k k1
  have f:Im (putC (grn d s) p 2946 (ps.map dcR)) n=true:=by rw [A7t hps n0 n1,hn];rfl
  rcases k2 with k2 | k2
  ·rw [← k2,a.1] at f;cases f
  ·rw [← k2,a.2] at f;cases f
 | some x =>
  have he:putE (grn d s) p 2946 (ps.map dcR)=0:=by
   unfold putE
   rw [hone,hcb,hsb,hr,hp];rfl
  obtain ⟨k,i,i1,i2,i3,i4⟩:=putS_some 280001 0 x hp
  have e12:=n12 (t:=0+(k:Int)) t0 t1 (by omega) (by omega)
  have ib:0≤i∧i<560000:=by
   rcases i2 with e | e
   ·rw [e,e12.1];omega
   ·rw [e,e12.2];omega
  have hv:putV (grn d s) p 2946 (ps.map dcR)=x:=by
   unfold putV
   rw [he,hr,hp];rfl
  have hx:x=(gx i,gy i,()):=by
   rw [i3]
   have:lnY (putC (grn d s) p 2946 (ps.map dcR)).y=yG:=by
    show ((G8 (grn d s)).1,(G8 (grn d s)).2.1,(G8 (grn d s)).2.2.1,())=yG
    rw [A52]
   rw [this,atG ib.1 ib.2]
  refine ⟨he,i,ib.1,ib.2,hv.trans hx,?_,fun hfree=>?_⟩
  ·rw [A7t hps ib.1 ib.2] at i4
   simpa using i4
  ·have en:n1P (putC (grn d s) p 2946 (ps.map dcR)) 560000 0=Kx yG (Fz (grn d s) p):=by
    rw [(n12 (t:=0) t0 t1 (by decide) (by decide)).1,hst,Int.add_zero,hsp]
    omega
   have ff:Im (putC (grn d s) p 2946 (ps.map dcR)) (n1P (putC (grn d s) p 2946 (ps.map dcR)) 560000 0)=true:=by
    rw [en,hsp,A7t hps s0 s1,s2,s3,hfree];rfl
   have hq:=putS_first (n:=280000) ff
   rw [hp] at hq
   cases hq
   rw [← hx,en]
   have:lnY (putC (grn d s) p 2946 (ps.map dcR)).y=yG:=by
    show ((G8 (grn d s)).1,(G8 (grn d s)).2.1,(G8 (grn d s)).2.2.1,())=yG
    rw [A52]
   rw [this,hsp,atG s0 s1,s2,s3]
theorem All {f:TCT A2→Bool}:∀ (a b:List (TCT A2)) (i:Int),iwF f (a++b) i=iwF f a i++iwF f b (i+(a.length:Int))
 | [],b,i=>by
  show iwF f b i=[]++iwF f b (i+((0:Nat):Int))
  rw [List.nil_append,show i+((0:Nat):Int)=i by omega]
 | x::a,b,i=>by
  have ih:=All (f:=f) a b (i+1)
  have e:i+1+(a.length:Int)=i+((x::a).length:Int):=by rw [List.length_cons];omega
  rw [e] at ih
  show (bif f x then i::iwF f (a++b) (i+1) else iwF f (a++b) (i+1))=(bif f x then i::iwF f a (i+1) else iwF f a (i+1))++iwF f b (i+((x::a).length:Int))
  cases f x with
  | true=>simp only [cond_true];rw [ih,List.cons_append]
  | false=>simp only [cond_false];exact ih
theorem A7u {f:TCT A2→Bool}:∀ (a:List (TCT A2)) (i:Int),∀ k ∈ iwF f a i,i≤k∧k<i+(a.length:Int)
 | [],_,k,hk=>nomatch hk
 | x::a,i,k,hk=>by
  have e:i+((x::a).length:Int)=i+1+(a.length:Int):=by rw [List.length_cons];omega
  rw [e]
  have hk:k ∈ (bif f x then i::iwF f a (i+1) else iwF f a (i+1)):=hk
  cases hx:f x with
  | true =>
   rw [hx,cond_true,List.mem_cons] at hk
   rcases hk with rfl | hk
   ·omega
   ·have:=A7u a (i+1) k hk;omega
  | false =>
   rw [hx,cond_false] at hk
   have:=A7u a (i+1) k hk;omega
theorem Az2 {f:TCT A2→Bool}:∀ (a:List (TCT A2)) (i:Int),a.any f=false→iwF f a i=[]
 | [],_,_=>rfl
 | x::a,i,h=>by
  simp only [List.any_cons,Bool.or_eq_false_iff] at h
  show (bif f x then i::iwF f a (i+1) else iwF f a (i+1))=[]
  rw [h.1,cond_false]
  exact Az2 a (i+1) h.2
theorem Alm {f:TCT A2→Bool}:∀ (a:List (TCT A2)) (i:Int),a.any f=true→iwF f a i≠[]
 | [],_,h=>by cases h
 | x::a,i,h=>by
  show (bif f x then i::iwF f a (i+1) else iwF f a (i+1))≠[]
  cases hx:f x with
  | true=>rw [cond_true];exact List.cons_ne_nil _ _
  | false =>
   simp only [List.any_cons,hx,Bool.false_or] at h
   rw [cond_false]
   exact Alm a (i+1) h
theorem Acx {l:List Int} (h:l≠[]) (hl:l.length≤1000000):Ra l ∈ l∧(0≤W64 ((l.length:Int)-1)∧W64 ((l.length:Int)-1)<(l.length:Int)):=by
 have h1:0<l.length:=by
  cases l with
  | nil=>exact absurd rfl h
  | cons x l=>rw [List.length_cons];omega
 have e:W64 ((l.length:Int)-1)=(l.length:Int)-1:=Bi (by omega) (by omega)
 refine ⟨?_,by rw [e];omega⟩
 unfold Ra
 rw [e]
 exact Ek (by omega) _
theorem Az3 {a b:List Int} (h:b≠[]) (hl:(a++b).length≤1000000):Ra (a++b) ∈ b:=by
 have h1:0<b.length:=by
  cases b with
  | nil=>exact absurd rfl h
  | cons x l=>rw [List.length_cons];omega
 rw [List.length_append] at hl
 unfold Ra
 rw [List.length_append,Bi (n:=((a.length+b.length:Nat):Int)-1) (by omega) (by omega),F7,List.getD_eq_getElem?_getD,show (((a.length+b.length:Nat):Int)-1).toNat=a.length+(b.length-1) by omega,List.getElem?_append_right (by omega),show a.length+(b.length-1)-a.length=b.length-1 by omega,List.getElem?_eq_getElem (show b.length-1<b.length by omega)]
 exact List.getElem_mem _
theorem A7v (d s:Int):(Bz (grn d s)).length=5:=by
 rw [Vb];rfl
theorem Az4 {a b:Int} {ps:List (TCT cPt)} (h:Ln a b) (hps:∀ q ∈ ps,fpt q.1 q.2.1=true):(ps.map dcR).any (iwD (a,b,()) (a,b,()) 2946)=ps.any (nr a b):=by
 obtain ⟨h1,h2,_⟩:=Alk h
 induction ps with
 | nil=>rfl
 | cons c ps ih =>
  simp only [List.map_cons,List.any_cons]
  rw [ih (fun q hq=>hps q (List.mem_cons_of_mem _ hq)),iwG h1 h2 (hps c (List.mem_cons_self ..)),Ayy h1 h2 (hps c (List.mem_cons_self ..))];rfl
end Tp
end V
end Go.Proofs.YtcfanlgpkefogaaGreat
