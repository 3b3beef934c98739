import Derived.Test.YtcfanlgpkefogaaGreatAp
import Derived.Test.YtcfanlgpkefogaaGreatAa
import Derived.Test.YtcfanlgpkefogaaGreatAt
namespace Go.Proofs.YtcfanlgpkefogaaGreat
open Go.RowKit
namespace V
theorem Cuk {u v e f x y S Q X Y G T:Int} (eQ:Q=u*u+v*v) (eX:X=u*y-x*v) (eY:Y=u*f-e*v) (eG:G=u*e+v*f) (eT:T=u*x+v*y) (hQ:0<Q) (hX:X*X≤25*Q) (hS:0≤S) (hc:(e-x)*(e-x)+(f-y)*(f-y)≤S*S) :
  (G-T)*(G-T)+Y*Y≤Q*(S*S)+10*(Q*S)+25*Q:=by
 have h1:Q*((e-x)*(e-x)+(f-y)*(f-y))=(G-T)*(G-T)+(Y-X)*(Y-X):=by
  rw [eQ,eX,eY,eG,eT];grind
 have h2:Q*((e-x)*(e-x)+(f-y)*(f-y))≤Q*(S*S):=Int.mul_le_mul_of_nonneg_left hc (Int.le_of_lt hQ)
 have g0:=Bf6 (G-T)
 have y0:=Bf6 (Y-X)
 have hQS:0≤Q*S:=Int.mul_nonneg (Int.le_of_lt hQ) hS
 have h3:(X*(Y-X))*(X*(Y-X))≤(5*(Q*S))*(5*(Q*S)):=by
  have a:(X*X)*((Y-X)*(Y-X))≤(25*Q)*((Y-X)*(Y-X)):=Int.mul_le_mul_of_nonneg_right hX y0
  have b:(25*Q)*((Y-X)*(Y-X))≤(25*Q)*(Q*(S*S)):=Int.mul_le_mul_of_nonneg_left (by omega) (by omega)
  have c:(X*(Y-X))*(X*(Y-X))=(X*X)*((Y-X)*(Y-X)):=by grind
  have d:(5*(Q*S))*(5*(Q*S))=(25*Q)*(Q*(S*S)):=by grind
  rw [c,d];exact Int.le_trans a b
 have h4:=(Bhr (a:=X*(Y-X)) (b:=5*(Q*S)) (by omega) h3).2
 have h5:Y*Y=(Y-X)*(Y-X)+2*(X*(Y-X))+X*X:=by grind
 omega
theorem Ccj {Q A R:Int} (hQ:0<Q) (h:Q*A<Q*R):A<R:=Int.lt_of_mul_lt_mul_left h (Int.le_of_lt hQ)
theorem Cgu {ax ay bx bY cx cy px py S:Int} (hQ:0<sq ax ay bx bY) (hX:lft ax ay bx bY px py*lft ax ay bx bY px py≤25*sq ax ay bx bY) (hT:0≤alg ax ay bx bY px py) (hT2:alg ax ay bx bY px py≤sq ax ay bx bY) (hS:0≤S) (hc:sq px py cx cy≤S*S):LsV ax ay bx bY cx cy (S+6)<0:=by
 have hc':((cx-ax)-(px-ax))*((cx-ax)-(px-ax))+((cy-ay)-(py-ay))*((cy-ay)-(py-ay))≤S*S:=by
  have:((cx-ax)-(px-ax))*((cx-ax)-(px-ax))+((cy-ay)-(py-ay))*((cy-ay)-(py-ay))=sq px py cx cy:=by unfold sq;grind
  rw [this];exact hc
 have key:=Cuk (u:=bx-ax) (v:=bY-ay) (e:=cx-ax) (f:=cy-ay) (x:=px-ax) (y:=py-ay) (Q:=sq ax ay bx bY) (X:=lft ax ay bx bY px py) (Y:=lft ax ay bx bY cx cy) (G:=alg ax ay bx bY cx cy) (T:=alg ax ay bx bY px py) rfl rfl rfl rfl rfl hQ hX hS hc'
 generalize hQe:sq ax ay bx bY=Q at *
 generalize hGe:alg ax ay bx bY cx cy=G at *
 generalize hYe:lft ax ay bx bY cx cy=Y at *
 generalize alg ax ay bx bY px py=T at *
 have e6:(S+6)*(S+6)=S*S+12*S+36:=by grind
 have e7:Q*((S+6)*(S+6))=Q*(S*S)+12*(Q*S)+36*Q:=by grind
 have hQS:0≤Q*S:=Int.mul_nonneg (Int.le_of_lt hQ) hS
 have g0:=Bf6 (G-T)
 unfold LsV
 rw [hQe,hGe,hYe]
 cases h1:decide (G≤0) with
 | true =>
  have h1':=of_decide_eq_true h1
  have i1:Q*sq ax ay cx cy=G*G+Y*Y:=by rw [← hQe,← hGe,← hYe];unfold sq alg lft;grind
  have i2:G*G≤(G-T)*(G-T):=by
   have:(G-T)*(G-T)=G*G+T*T-2*(G*T):=by grind
   have a:=Bf6 T
   have b:G*T≤0:=Int.mul_nonpos_of_nonpos_of_nonneg h1' hT
   omega
  exact Int.sign_neg_iff.2 (by have:=Ccj (A:=sq ax ay cx cy) (R:=(S+6)*(S+6)) hQ (by omega);omega)
 | false =>
  rw [cond_false]
  cases h2:decide (Q≤G) with
  | true =>
   have h2':=of_decide_eq_true h2
   have i1:Q*sq bx bY cx cy=(G-Q)*(G-Q)+Y*Y:=by rw [← hQe,← hGe,← hYe];unfold sq alg lft;grind
   have i2:(G-Q)*(G-Q)≤(G-T)*(G-T):=by
    have a:0≤(Q-T)*(2*G-Q-T):=Int.mul_nonneg (by omega) (by omega)
    have b:(G-T)*(G-T)-(G-Q)*(G-Q)=(Q-T)*(2*G-Q-T):=by grind
    omega
   exact Int.sign_neg_iff.2 (by have:=Ccj (A:=sq bx bY cx cy) (R:=(S+6)*(S+6)) hQ (by omega);omega)
  | false =>
   rw [cond_false]
   have e8:(S+6)*(S+6)*Q=Q*((S+6)*(S+6)):=Int.mul_comm _ _
   exact Int.sign_neg_iff.2 (by omega)
end V
end Go.Proofs.YtcfanlgpkefogaaGreat
namespace Go.Proofs.YtcfanlgpkefogaaGreat
open Go.RowKit
namespace V
def Btw (m z:Int):Prop:=(0≤z∧z≤m)∨(m≤z∧z≤0)
def crs (x y u v:Int):Int:=u*y-v*x
def dt2 (x y u v:Int):Int:=u*x+v*y
def ab1 (x y:Int):Int:=(x.natAbs:Int)+(y.natAbs:Int)
theorem C0f {x y:Int}:0≤ab1 x y:=by unfold ab1;omega
theorem C0g {e E y:Int} (h1 : -E≤e) (h2:e≤E) : -(E*(y.natAbs:Int))≤e*y∧e*y≤E*(y.natAbs:Int):=by
 rcases Int.le_total 0 y with h | h
 ·rw [Int.natAbs_of_nonneg h]
  have a:=Int.mul_le_mul_of_nonneg_right h2 h
  have b:=Int.mul_le_mul_of_nonneg_right h1 h
  rw [Int.neg_mul] at b
  exact ⟨b,a⟩
 ·rw [Int.ofNat_natAbs_of_nonpos h]
  have a:=Int.mul_le_mul_of_nonneg_right h2 (show 0 ≤ -y by omega)
  have b:=Int.mul_le_mul_of_nonneg_right h1 (show 0 ≤ -y by omega)
  have e1:e * -y = -(e*y):=by grind
  have e2 : -E * -y=E*y:=by grind
  have e3:E * -y = -(E*y):=by grind
  omega
theorem C8p {e f E x y:Int} (h1 : -E≤e∧e≤E) (h2 : -E≤f∧f≤E) : -(E*ab1 x y)≤crs x y e f∧crs x y e f≤E*ab1 x y:=by
 have a:=C0g (y:=y) h1.1 h1.2
 have b:=C0g (y:=x) h2.1 h2.2
 have c:E*ab1 x y=E*(x.natAbs:Int)+E*(y.natAbs:Int):=by unfold ab1;grind
 unfold crs;omega
theorem Clc {e f E x y:Int} (h1 : -E≤e∧e≤E) (h2 : -E≤f∧f≤E) : -(E*ab1 x y)≤dt2 x y e f∧dt2 x y e f≤E*ab1 x y:=by
 have a:=C0g (y:=x) h1.1 h1.2
 have b:=C0g (y:=y) h2.1 h2.2
 have c:E*ab1 x y=E*(x.natAbs:Int)+E*(y.natAbs:Int):=by unfold ab1;grind
 unfold dt2;omega
theorem Cck {a u m c:Int} (hc:0≤c) (h1:Btw (c*a) u) (h2:Btw a m):Btw ((c+1)*a) (u+m):=by
 have e:(c+1)*a=c*a+a:=by grind
 rw [e]
 unfold Btw at *
 rcases Int.le_total 0 a with h | h
 ·have:=Int.mul_nonneg hc h
  omega
 ·have:=Int.mul_nonpos_of_nonneg_of_nonpos hc h
  omega
structure FrM (x y a b t u v:Int):Prop where
 h1:Btw a u
 h2:Btw b v
 h3 : -(ab1 x y*(2*t+1))≤2*crs x y u v∧2*crs x y u v≤ab1 x y*(2*t+1)
structure FrZ (x y a b c u v:Int):Prop where
 h1:Btw (c*a) u
 h2:Btw (c*b) v
 h3 : -(ab1 x y*(81*c))≤2*crs x y u v∧2*crs x y u v≤ab1 x y*(81*c)
theorem C3e {a u d n:Int} (h0:0≤d) (h1:d≤n) (hn:0<n) (h:Btw a u):Btw a ((u*d).tdiv n):=by
 rcases Int.le_total 0 u with k | k
 ·have:=Cce (w:=u) k h0 h1 hn
  unfold Btw at *;omega
 ·have:=Cce (w := -u) (by omega) h0 h1 hn
  rw [Int.neg_mul,Int.neg_tdiv] at this
  unfold Btw at *;omega
theorem Cld {z n:Int} (hn:0<n) : -n≤n*z.tdiv n-z∧n*z.tdiv n-z≤n:=by
 have a:=Int.mul_tdiv_add_tmod z n
 have b:=Int.tmod_lt_of_pos z hn
 have c : -n<z.tmod n:=by
  have:=Int.tmod_lt_of_pos (-z) hn
  rw [Int.neg_tmod] at this
  omega
 omega
theorem Cul {x y a b t u v d:Int} (ht:0≤t) (h:FrM x y a b t u v) (hd:0≤d) (hs:(Bhf u v d).2.1=0):FrM x y a b (t+1) (Bhf u v d).1.1 (Bhf u v d).1.2.1:=by
 have hL:=C0f (x:=x) (y:=y)
 have eL:ab1 x y*(2*(t+1)+1)=ab1 x y*(2*t+1)+2*ab1 x y:=by grind
 have hL2:0≤ab1 x y*(2*t+1):=Int.mul_nonneg hL (by omega)
 unfold Bhf at hs ⊢
 cases h1:Bb3 u v with
 | false=>rw [h1] at hs;cases hs
 | true =>
  rw [h1] at hs
  simp only [Bool.not_true,cond_false] at hs ⊢
  cases h2:Bb8 d 0 33554432 with
  | true=>rw [h2] at hs;cases hs
  | false =>
   simp only [cond_false]
   cases h3:decide (slN u v≤8*d) with
   | true =>
    have q1:=h.h1
    have q2:=h.h2
    refine ⟨?_,?_,?_⟩
    ·show Btw a 0
     unfold Btw at *;omega
    ·show Btw b 0
     unfold Btw at *;omega
    ·show _≤2*crs x y 0 0∧2*crs x y 0 0≤_
     have:crs x y 0 0=0:=by unfold crs;grind
     rw [this];omega
   | false =>
    have h4:=of_decide_eq_false h3
    generalize slN u v=N at *
    have k1:=C3e (d:=N-8*d) (n:=N) (by omega) (by omega) (by omega) h.h1
    have k2:=C3e (d:=N-8*d) (n:=N) (by omega) (by omega) (by omega) h.h2
    refine ⟨k1,k2,?_⟩
    show _≤2*crs x y ((u*(N-8*d)).tdiv N) ((v*(N-8*d)).tdiv N)∧2*crs x y ((u*(N-8*d)).tdiv N) ((v*(N-8*d)).tdiv N)≤_
    have e1:=Cld (z:=u*(N-8*d)) (n:=N) (by omega)
    have e2:=Cld (z:=v*(N-8*d)) (n:=N) (by omega)
    generalize (u*(N-8*d)).tdiv N=u' at *
    generalize (v*(N-8*d)).tdiv N=v' at *
    have c1:=C8p (x:=x) (y:=y) e1 e2
    have c2:N*crs x y u' v'=crs x y (N*u'-u*(N-8*d)) (N*v'-v*(N-8*d))+(N-8*d)*crs x y u v:=by unfold crs;grind
    have g:=h.h3
    generalize crs x y u v=G at *
    generalize crs x y u' v'=G' at *
    generalize crs x y (N*u'-u*(N-8*d)) (N*v'-v*(N-8*d))=C at *
    generalize ab1 x y*(2*t+1)=W at *
    generalize ab1 x y=L at *
    have m1:(N-8*d)*(2*G)≤(N-8*d)*W:=Int.mul_le_mul_of_nonneg_left g.2 (by omega)
    have m2:(N-8*d) * -W≤(N-8*d)*(2*G):=Int.mul_le_mul_of_nonneg_left g.1 (by omega)
    have m3:(N-8*d)*W≤N*W:=Int.mul_le_mul_of_nonneg_right (by omega) hL2
    have m4:(N-8*d) * -W = -((N-8*d)*W):=Int.mul_neg _ _
    have m5:(N-8*d)*(2*G)=2*((N-8*d)*G):=by grind
    have m6:N*(2*G')≤N*(W+2*L):=by
     have:N*(2*G')=2*(N*G'):=by grind
     have:N*(W+2*L)=N*W+2*(N*L):=by grind
     omega
    have m7:N * -(W+2*L)≤N*(2*G'):=by
     have:N*(2*G')=2*(N*G'):=by grind
     have:N * -(W+2*L) = -(N*W)-2*(N*L):=by grind
     omega
    have m8:=Int.le_of_mul_le_mul_left m6 (show 0<N by omega)
    have m9:=Int.le_of_mul_le_mul_left m7 (show 0<N by omega)
    omega
theorem Cum {x y a b t c u v p q:Int} (hc:0≤c) (ht:t≤40) (h:FrZ x y a b c u v) (k:FrM x y a b t p q):FrZ x y a b (c+1) (u+p) (v+q):=by
 refine ⟨Cck hc h.h1 k.h1,Cck hc h.h2 k.h2,?_⟩
 have e:crs x y (u+p) (v+q)=crs x y u v+crs x y p q:=by unfold crs;grind
 have f:ab1 x y*(81*(c+1))=ab1 x y*(81*c)+ab1 x y*81:=by grind
 have g:ab1 x y*(2*t+1)≤ab1 x y*81:=Int.mul_le_mul_of_nonneg_left (by omega) C0f
 have a:=h.h3
 have b:=k.h3
 omega
end V
end Go.Proofs.YtcfanlgpkefogaaGreat
namespace Go.Proofs.YtcfanlgpkefogaaGreat
open Go.RowKit
namespace V
theorem Cqg {z d:Int} (hd:1≤d) : -d≤2*(d*DW z d-z)∧2*(d*DW z d-z)≤d:=by
 have ⟨a,b,c⟩:=C1p z d hd
 have e:d*DW z d=DW z d*d:=Int.mul_comm _ _
 omega
theorem Bk8 {z d:Int} (hd:1≤d):(0≤z→0≤DW z d)∧(z≤0→DW z d≤0):=by
 have ⟨a,b⟩:=Cqg (z:=z) hd
 refine ⟨fun h=>?_,fun h=>?_⟩
 ·rcases Int.lt_or_le (DW z d) 0 with k | k
  ·have:d*DW z d≤d * -1:=Int.mul_le_mul_of_nonneg_left (by omega) (by omega)
   omega
  ·exact k
 ·rcases Int.lt_or_le 0 (DW z d) with k | k
  ·have:d*1≤d*DW z d:=Int.mul_le_mul_of_nonneg_left (by omega) (by omega)
   omega
  ·exact k
theorem D6p {x y:Int}:ab1 x y*ab1 x y≤2*(x*x+y*y)∧x*x+y*y≤ab1 x y*ab1 x y:=by
 have e1:(x.natAbs:Int)*x.natAbs=x*x:=Int.natAbs_mul_self' x
 have e2:(y.natAbs:Int)*y.natAbs=y*y:=Int.natAbs_mul_self' y
 have hx:0≤(x.natAbs:Int):=Int.natCast_nonneg _
 have hy:0≤(y.natAbs:Int):=Int.natCast_nonneg _
 unfold ab1
 generalize (x.natAbs:Int)=a at *
 generalize (y.natAbs:Int)=b at *
 have c:(a+b)*(a+b)=a*a+b*b+2*(a*b):=by grind
 have d:=Bf6 (a-b)
 have f:(a-b)*(a-b)=a*a+b*b-2*(a*b):=by grind
 have g:=Int.mul_nonneg hx hy
 omega
theorem Cez {x m z:Int} (hm:(0≤x→0≤m)∧(x≤0→m≤0)) (h:Btw m z):0≤z*x∧z*x≤m*x:=by
 unfold Btw at h
 rcases Int.le_total 0 x with k | k
 ·have:=hm.1 k
  exact ⟨Int.mul_nonneg (by omega) k,Int.mul_le_mul_of_nonneg_right (by omega) k⟩
 ·have:=hm.2 k
  exact ⟨Int.mul_nonneg_of_nonpos_of_nonpos (by omega) k,Int.mul_le_mul_of_nonpos_right (by omega) k⟩
theorem Cf0 {x l d m z r D:Int} (hd:1≤d) (hl:0≤l) (hm:(0≤x→0≤m)∧(x≤0→m≤0)) (h:Btw m z) (hr : -14400≤r∧r≤14400) (e:28800*D+r=z):0≤DW (64*l*x) d*D:=by
 unfold Btw at h
 have s:=Bk8 (z:=64*l*x) hd
 rcases Int.le_total 0 x with k | k
 ·have a:=s.1 (Int.mul_nonneg (by omega) k)
  have:=hm.1 k
  exact Int.mul_nonneg a (by omega)
 ·have a:=s.2 (Int.mul_nonpos_of_nonneg_of_nonpos (by omega) k)
  have:=hm.2 k
  exact Int.mul_nonneg_of_nonpos_of_nonpos a (by omega)
theorem frame {x y L B1 B2 D1 D2:Int} (hQ:0<x*x+y*y) (hL:0≤L) (hL2:L*L≤2*(x*x+y*y)) (cB : -L≤2*crs x y B1 B2∧2*crs x y B1 B2≤L) (cD : -(2*L)≤crs x y D1 D2∧crs x y D1 D2≤2*L) (p0:0≤dt2 x y D1 D2) (p1:dt2 x y D1 D2+2*L≤dt2 x y B1 B2) :
  (B1*D2-B2*D1)*(B1*D2-B2*D1)≤25*(B1*B1+B2*B2)∧B1*D1+B2*D2≤B1*B1+B2*B2:=by
 have e1:(x*x+y*y)*(B1*D2-B2*D1)=crs x y B1 B2*dt2 x y D1 D2-dt2 x y B1 B2*crs x y D1 D2:=by unfold crs dt2;grind
 have e2:(x*x+y*y)*(B1*B1+B2*B2-(B1*D1+B2*D2))=dt2 x y B1 B2*(dt2 x y B1 B2-dt2 x y D1 D2)+crs x y B1 B2*(crs x y B1 B2-crs x y D1 D2):=by unfold crs dt2;grind
 have e3:(x*x+y*y)*(B1*B1+B2*B2)=dt2 x y B1 B2*dt2 x y B1 B2+crs x y B1 B2*crs x y B1 B2:=by unfold crs dt2;grind
 generalize x*x+y*y=Q at *
 generalize crs x y B1 B2=cb at *
 generalize crs x y D1 D2=cd at *
 generalize dt2 x y B1 B2=pb at *
 generalize dt2 x y D1 D2=pd at *
 generalize B1*D2-B2*D1=X at *
 generalize B1*D1+B2*D2=Y at *
 generalize B1*B1+B2*B2=Z at *
 refine ⟨?_,?_⟩
 ·have a1:2*(cb*pd)≤L*pb ∧ -(L*pb)≤2*(cb*pd):=by
   have a:(2*cb)*pd≤L*pd:=Int.mul_le_mul_of_nonneg_right cB.2 p0
   have b : -L*pd≤(2*cb)*pd:=Int.mul_le_mul_of_nonneg_right cB.1 p0
   have c:L*pd≤L*pb:=Int.mul_le_mul_of_nonneg_left (by omega) hL
   have d:(2*cb)*pd=2*(cb*pd):=by grind
   have e : -L*pd = -(L*pd):=Int.neg_mul _ _
   omega
  have a2:pb*cd≤2*(L*pb) ∧ -(2*(L*pb))≤pb*cd:=by
   have a:pb*cd≤pb*(2*L):=Int.mul_le_mul_of_nonneg_left cD.2 (by omega)
   have b:pb * -(2*L)≤pb*cd:=Int.mul_le_mul_of_nonneg_left cD.1 (by omega)
   have c:pb*(2*L)=2*(L*pb):=by grind
   have d:pb * -(2*L) = -(2*(L*pb)):=by grind
   omega
  have a3 : -(5*(L*pb))≤2*(Q*X)∧2*(Q*X)≤5*(L*pb):=by omega
  have a4:0≤L*pb:=Int.mul_nonneg hL (by omega)
  have a5:(2*(Q*X))*(2*(Q*X))≤(5*(L*pb))*(5*(L*pb)):=by
   have a:0≤(5*(L*pb)-2*(Q*X))*(5*(L*pb)+2*(Q*X)):=Int.mul_nonneg (by omega) (by omega)
   have b:(5*(L*pb)-2*(Q*X))*(5*(L*pb)+2*(Q*X))=(5*(L*pb))*(5*(L*pb))-(2*(Q*X))*(2*(Q*X)):=by grind
   omega
  have a6:(5*(L*pb))*(5*(L*pb))=25*((L*L)*(pb*pb)):=by grind
  have a7:(L*L)*(pb*pb)≤(2*Q)*(pb*pb):=Int.mul_le_mul_of_nonneg_right hL2 (Bf6 pb)
  have a8:(2*Q)*(pb*pb)≤(2*Q)*(Q*Z):=Int.mul_le_mul_of_nonneg_left (by have:=Bf6 cb;omega) (by omega)
  have a9:(2*(Q*X))*(2*(Q*X))=(Q*Q)*(4*(X*X)):=by grind
  have a10:(2*Q)*(Q*Z)=(Q*Q)*(2*Z):=by grind
  have a11:(Q*Q)*(4*(X*X))≤(Q*Q)*(50*Z):=by
   have:(Q*Q)*(50*Z)=25*((Q*Q)*(2*Z)):=by grind
   omega
  have:=Int.le_of_mul_le_mul_left a11 (Int.mul_pos hQ hQ)
  have h0:0≤Q*Z:=by rw [e3];exact Int.add_nonneg (Bf6 pb) (Bf6 cb)
  have h1:0≤Z:=by
   rcases Int.lt_or_le Z 0 with k | k
   ·have:=Int.mul_neg_of_pos_of_neg hQ k
    omega
   ·exact k
  omega
 ·have b1:(2*L)*(2*L)≤pb*(pb-pd):=Int.mul_le_mul (by omega) (by omega) (by omega) (by omega)
  have b2 : -(5*(L*L))≤2*cb*(2*(cb-cd)):=by
   have a : -(5*(L*L))≤2*cb*(2*(cb-cd)):=by
    have h1:0≤(L+2*cb)*(5*L+2*(cb-cd)):=Int.mul_nonneg (by omega) (by omega)
    have h2:0≤(L-2*cb)*(5*L-2*(cb-cd)):=Int.mul_nonneg (by omega) (by omega)
    have h3:(L+2*cb)*(5*L+2*(cb-cd))+(L-2*cb)*(5*L-2*(cb-cd))=10*(L*L)+2*(2*cb*(2*(cb-cd))):=by grind
    omega
   exact a
  have b3:2*cb*(2*(cb-cd))=4*(cb*(cb-cd)):=by grind
  have b4:(2*L)*(2*L)=4*(L*L):=by grind
  have b5:=Bf6 L
  have b6:0≤Q*(Z-Y):=by omega
  rcases Int.lt_or_le (Z-Y) 0 with k | k
  ·have:=Int.mul_neg_of_pos_of_neg hQ k
   omega
  ·omega
end V
end Go.Proofs.YtcfanlgpkefogaaGreat
namespace Go.Proofs.YtcfanlgpkefogaaGreat
open Go.RowKit
namespace V
theorem Cyi {n P:Int} (hn:0≤n):28800*40+16*(n*P)+460800*n≤28800*(40+n*((P+2) / 1800+17)):=by
 have a:P+28800≤1800*((P+2) / 1800+17):=by omega
 have b:n*(P+28800)≤n*(1800*((P+2) / 1800+17)):=Int.mul_le_mul_of_nonneg_left a hn
 generalize (P+2) / 1800+17=q at *
 have c:n*(P+28800)=n*P+28800*n:=by grind
 have d:n*(1800*q)=1800*(n*q):=by grind
 generalize n*q=w at *
 omega
theorem Dbw {d L Q:Int} (_:0≤d) (_:0≤L) (hQ:0≤Q) (h1:d*d≤4096*Q) (h2:L*L≤2*Q):d*L≤91*Q:=by
 have a:(d*d)*(L*L)≤(4096*Q)*(2*Q):=Int.mul_le_mul h1 h2 (Bf6 L) (by omega)
 have b:(d*L)*(d*L)=(d*d)*(L*L):=by grind
 have c:(4096*Q)*(2*Q)=8192*(Q*Q):=by grind
 have e:(91*Q)*(91*Q)=8281*(Q*Q):=by grind
 have f:=Bf6 Q
 exact (Bhr (by omega) (by omega)).2
theorem Cqh {x y d z:Int} (hd:1≤d):2*z*(x*x+y*y)-d*ab1 x y≤2*(d*dt2 x y (DW (z*x) d) (DW (z*y) d))∧2*(d*dt2 x y (DW (z*x) d) (DW (z*y) d))≤2*z*(x*x+y*y)+d*ab1 x y:=by
 have e1:=Cqg (z:=z*x) hd
 have e2:=Cqg (z:=z*y) hd
 generalize DW (z*x) d=a at *
 generalize DW (z*y) d=b at *
 have c:=Clc (x:=x) (y:=y) e1 e2
 have f:2*(d*dt2 x y a b)=dt2 x y (2*(d*a-z*x)) (2*(d*b-z*y))+2*z*(x*x+y*y):=by unfold dt2;grind
 omega
theorem Cqi {x y d z:Int} (hd:1≤d) : -ab1 x y≤2*crs x y (DW (z*x) d) (DW (z*y) d)∧2*crs x y (DW (z*x) d) (DW (z*y) d)≤ab1 x y:=by
 have e1:=Cqg (z:=z*x) hd
 have e2:=Cqg (z:=z*y) hd
 generalize DW (z*x) d=a at *
 generalize DW (z*y) d=b at *
 have c:=C8p (x:=x) (y:=y) e1 e2
 have f:d*(2*crs x y a b)=crs x y (2*(d*a-z*x)) (2*(d*b-z*y)):=by unfold crs;grind
 rw [← f] at c
 have g:d * -ab1 x y≤d*(2*crs x y a b):=by rw [Int.mul_neg];exact c.1
 exact ⟨Int.le_of_mul_le_mul_left g (by omega),Int.le_of_mul_le_mul_left c.2 (by omega)⟩
theorem Cqj {x y d z:Int} (hd:1≤d):FrM x y (DW (z*x) d) (DW (z*y) d) 0 (DW (z*x) d) (DW (z*y) d):=by
 have h:=Cqi (x:=x) (y:=y) (z:=z) hd
 refine ⟨?_,?_,by omega⟩
 ·unfold Btw;omega
 ·unfold Btw;omega
theorem Cyj {x y a b:Int}:FrZ x y a b 0 0 0:=by
 refine ⟨?_,?_,?_⟩
 ·unfold Btw;omega
 ·unfold Btw;omega
 ·have:crs x y 0 0=0:=by unfold crs;grind
  rw [this]
  omega
theorem Cyk {x y P n c d fx fy px py rx ry cx cy S:Int} (hQ:0<x*x+y*y) (hd:1≤d) (hd2:d*d≤4096*(x*x+y*y)) (hP:0≤P) (hn:0≤n∧n≤40) (hc0:0≤c) (hc:c≤16*n)
  (h:FrZ x y (DW (64*P*x) d) (DW (64*P*y) d) c (28800*(px-fx)+rx) (28800*(py-fy)+ry)) (hrx : -14400≤rx∧rx≤14400) (hry : -14400≤ry∧ry≤14400) (hS:0≤S) (hs:sq px py cx cy≤S*S) :
  LsV fx fy (fx+DW (64*(40+n*((P+2) / 1800+17))*x) d) (fy+DW (64*(40+n*((P+2) / 1800+17))*y) d) cx cy (S+6)<0:=by
 have hl:=Cyi (n:=n) (P:=P) hn.1
 have hl0:0≤40+n*((P+2) / 1800+17):=by
  have:=Int.mul_nonneg hn.1 (show 0≤(P+2) / 1800+17 by omega)
  omega
 generalize 40+n*((P+2) / 1800+17)=l at *
 have hLn:=C0f (x:=x) (y:=y)
 have hL:=D6p (x:=x) (y:=y)
 have hdL:=Dbw (show 0≤d by omega) hLn (Int.le_of_lt hQ) hd2 hL.1
 have bC:=Cqi (x:=x) (y:=y) (z:=64*l) hd
 have bD:=(Cqh (x:=x) (y:=y) (z:=64*l) hd).1
 have mD:=(Cqh (x:=x) (y:=y) (z:=64*P) hd).2
 have sx:(0≤x→0≤c*DW (64*P*x) d)∧(x≤0→c*DW (64*P*x) d≤0):=⟨fun k=>Int.mul_nonneg hc0 ((Bk8 hd).1 (Int.mul_nonneg (by omega) k)),fun k=>Int.mul_nonpos_of_nonneg_of_nonpos hc0 ((Bk8 hd).2 (Int.mul_nonpos_of_nonneg_of_nonpos (by omega) k))⟩
 have sy:(0≤y→0≤c*DW (64*P*y) d)∧(y≤0→c*DW (64*P*y) d≤0):=⟨fun k=>Int.mul_nonneg hc0 ((Bk8 hd).1 (Int.mul_nonneg (by omega) k)),fun k=>Int.mul_nonpos_of_nonneg_of_nonpos hc0 ((Bk8 hd).2 (Int.mul_nonpos_of_nonneg_of_nonpos (by omega) k))⟩
 have q1:=Cf0 (l:=l) hd hl0 sx h.h1 hrx rfl
 have q2:=Cf0 (l:=l) hd hl0 sy h.h2 hry rfl
 have z1:=Cez sx h.h1
 have z2:=Cez sy h.h2
 have hx3:=h.h3
 have rC:=C8p (x:=x) (y:=y) hrx hry
 have rD:=Clc (x:=x) (y:=y) hrx hry
 have eC:crs x y (28800*(px-fx)+rx) (28800*(py-fy)+ry)=28800*crs x y (px-fx) (py-fy)+crs x y rx ry:=by unfold crs;grind
 have eD:(28800*(px-fx)+rx)*x+(28800*(py-fy)+ry)*y=28800*dt2 x y (px-fx) (py-fy)+dt2 x y rx ry:=by unfold dt2;grind
 have eM:c*DW (64*P*x) d*x+c*DW (64*P*y) d*y=c*dt2 x y (DW (64*P*x) d) (DW (64*P*y) d):=by unfold dt2;grind
 have mP:0≤dt2 x y (DW (64*P*x) d) (DW (64*P*y) d):=by
  unfold dt2
  refine Int.add_nonneg ?_ ?_
  ·rcases Int.le_total 0 x with k | k
   ·exact Int.mul_nonneg ((Bk8 hd).1 (Int.mul_nonneg (by omega) k)) k
   ·exact Int.mul_nonneg_of_nonpos_of_nonpos ((Bk8 hd).2 (Int.mul_nonpos_of_nonneg_of_nonpos (by omega) k)) k
  ·rcases Int.le_total 0 y with k | k
   ·exact Int.mul_nonneg ((Bk8 hd).1 (Int.mul_nonneg (by omega) k)) k
   ·exact Int.mul_nonneg_of_nonpos_of_nonpos ((Bk8 hd).2 (Int.mul_nonpos_of_nonneg_of_nonpos (by omega) k)) k
 rw [eC] at hx3
 have p0:0≤dt2 x y (px-fx) (py-fy):=by
  have a:0≤(px-fx)*x:=by
   have h1:=h.h1
   unfold Btw at h1
   rcases Int.le_total 0 x with k | k
   ·have:=sx.1 k;exact Int.mul_nonneg (by omega) k
   ·have:=sx.2 k;exact Int.mul_nonneg_of_nonpos_of_nonpos (by omega) k
  have b:0≤(py-fy)*y:=by
   have h1:=h.h2
   unfold Btw at h1
   rcases Int.le_total 0 y with k | k
   ·have:=sy.1 k;exact Int.mul_nonneg (by omega) k
   ·have:=sy.2 k;exact Int.mul_nonneg_of_nonpos_of_nonpos (by omega) k
  unfold dt2;omega
 have cD : -(2*ab1 x y)≤crs x y (px-fx) (py-fy)∧crs x y (px-fx) (py-fy)≤2*ab1 x y:=by
  have:ab1 x y*(81*c)≤ab1 x y*51840:=Int.mul_le_mul_of_nonneg_left (by omega) hLn
  omega
 have p1:dt2 x y (px-fx) (py-fy)+2*ab1 x y≤dt2 x y (DW (64*l*x) d) (DW (64*l*y) d):=by
  have u1:c*dt2 x y (DW (64*P*x) d) (DW (64*P*y) d)≤16*n*dt2 x y (DW (64*P*x) d) (DW (64*P*y) d):=Int.mul_le_mul_of_nonneg_right hc mP
  have u2:28800*dt2 x y (px-fx) (py-fy)≤16*n*dt2 x y (DW (64*P*x) d) (DW (64*P*y) d)+14400*ab1 x y:=by omega
  generalize dt2 x y (DW (64*P*x) d) (DW (64*P*y) d)=pm at *
  generalize dt2 x y (DW (64*l*x) d) (DW (64*l*y) d)=pb at *
  generalize dt2 x y (px-fx) (py-fy)=pd at *
  generalize ab1 x y=L at *
  generalize x*x+y*y=Q at *
  have v1:2*d*(28800*pd)≤2*d*(16*n*pm+14400*L):=Int.mul_le_mul_of_nonneg_left u2 (by omega)
  have v2:16*n*(2*(d*pm))≤16*n*(2*(64*P)*Q+d*L):=Int.mul_le_mul_of_nonneg_left mD (by omega)
  have v3:16*n*(d*L)≤16*n*(91*Q):=Int.mul_le_mul_of_nonneg_left hdL (by omega)
  have v4:(28800*40+16*(n*P)+460800*n)*(128*Q)≤28800*l*(128*Q):=Int.mul_le_mul_of_nonneg_right hl (by omega)
  have w1:2*d*(28800*pd)=57600*(d*pd):=by grind
  have w2:2*d*(16*n*pm+14400*L)=16*n*(2*(d*pm))+28800*(d*L):=by grind
  have w3:16*n*(2*(64*P)*Q+d*L)=2048*(n*P*Q)+16*n*(d*L):=by grind
  have w4:16*n*(91*Q)=1456*(n*Q):=by grind
  have w5:(28800*40+16*(n*P)+460800*n)*(128*Q)=147456000*Q+2048*(n*P*Q)+58982400*(n*Q):=by grind
  have w6:28800*l*(128*Q)=3686400*(l*Q):=by grind
  have w7:2*(64*l)*Q=128*(l*Q):=by grind
  have nQ:0≤n*Q:=Int.mul_nonneg hn.1 (by omega)
  have key:d*(pd+2*L)≤d*pb:=by
   have:d*(pd+2*L)=d*pd+2*(d*L):=by grind
   omega
  exact Int.le_of_mul_le_mul_left key (by omega)
 obtain ⟨g1,g2⟩:=frame hQ hLn hL.1 bC cD p0 p1
 generalize DW (64*l*x) d=B1 at *
 generalize DW (64*l*y) d=B2 at *
 have eQ:sq fx fy (fx+B1) (fy+B2)=B1*B1+B2*B2:=by unfold sq;grind
 have eX:lft fx fy (fx+B1) (fy+B2) px py=B1*(py-fy)-B2*(px-fx)∨lft fx fy (fx+B1) (fy+B2) px py = -(B1*(py-fy)-B2*(px-fx)):=by unfold lft;grind
 have eA:alg fx fy (fx+B1) (fy+B2) px py=B1*(px-fx)+B2*(py-fy):=by unfold alg;grind
 have hL1:0<ab1 x y:=by
  rcases Int.lt_or_le 0 (ab1 x y) with k | k
  ·exact k
  ·have:ab1 x y=0:=by omega
   have h2:=hL.2
   rw [this] at h2
   omega
 refine Cgu ?_ ?_ ?_ ?_ hS hs
 ·rw [eQ]
  have h0:=Bf6 B1
  have h1:=Bf6 B2
  rcases Int.lt_or_le 0 (B1*B1+B2*B2) with k | k
  ·exact k
  ·exfalso
   have e1:B1=0:=by
    have:B1*B1=0:=by omega
    rcases Int.mul_eq_zero.1 this with k | k <;> exact k
   have e2:B2=0:=by
    have:B2*B2=0:=by omega
    rcases Int.mul_eq_zero.1 this with k | k <;> exact k
   subst e1;subst e2
   have:dt2 x y 0 0=0:=by unfold dt2;grind
   omega
 ·rw [eQ]
  rcases eX with e | e
  ·rw [e];exact g1
  ·rw [e,Int.neg_mul_neg];exact g1
 ·rw [eA];omega
 ·rw [eA,eQ];exact g2
end V
end Go.Proofs.YtcfanlgpkefogaaGreat
