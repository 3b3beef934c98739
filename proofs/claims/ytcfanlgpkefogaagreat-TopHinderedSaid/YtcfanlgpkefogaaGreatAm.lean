import Derived.Test.YtcfanlgpkefogaaGreatAl
namespace Go.Proofs.YtcfanlgpkefogaaGreat
open Go.RowKit
namespace V
theorem Boo (a d:Int):(a.tdiv d*d)*(a.tdiv d*d)≤a*a:=by
 have h:(a.tdiv d*d).natAbs≤a.natAbs:=by
  rw [Int.natAbs_mul,Int.natAbs_tdiv]
  exact Nat.div_mul_le_self _ _
 rw [← Int.natAbs_mul_self' (a.tdiv d*d),← Int.natAbs_mul_self' a]
 exact_mod_cast Nat.mul_le_mul h h
theorem Bf6 (a:Int):0≤a*a:=by rw [← Int.natAbs_mul_self' a];exact Int.natCast_nonneg _
theorem Bhr {a b:Int} (hb:0≤b) (h:a*a≤b*b) : -b≤a∧a≤b:=by
 have h1:a.natAbs*a.natAbs≤b.natAbs*b.natAbs:=by
  have:=h;rw [← Int.natAbs_mul_self' a,← Int.natAbs_mul_self' b] at this;exact_mod_cast this
 have h2:a.natAbs≤b.natAbs:=by
  rcases Nat.lt_or_ge b.natAbs a.natAbs with k | k
  ·exact absurd (Nat.mul_lt_mul'' k k) (by omega)
  ·exact k
 omega
theorem Bsz {a B:Int} (h1 : -B≤a) (h2:a≤B):a*a≤B*B:=by
 rw [← Int.natAbs_mul_self' a,← Int.natAbs_mul_self' B]
 exact_mod_cast Nat.mul_le_mul (show a.natAbs≤B.natAbs by omega) (show a.natAbs≤B.natAbs by omega)
theorem Dd4 {nx ny ux uy A C q:Int} (hq:0<q) (eq:q=nx*nx+ny*ny) (hA:(A*q)*(A*q)≤(ux*nx+uy*ny)*(ux*nx+uy*ny)) (hC:(C*q)*(C*q)≤(uy*nx-ux*ny)*(uy*nx-ux*ny)) :
  q*(A*A+C*C)≤ux*ux+uy*uy:=by
 have e:(ux*nx+uy*ny)*(ux*nx+uy*ny)+(uy*nx-ux*ny)*(uy*nx-ux*ny)=(ux*ux+uy*uy)*q:=by grind
 have h:q*(A*A+C*C)*q≤(ux*ux+uy*uy)*q:=by grind
 exact Int.le_of_mul_le_mul_right h hq
theorem D3q {nx ny ux uy A C q re dr U:Int} (hq:0<q) (eq:q=nx*nx+ny*ny) (h:q*(A*A+C*C)≤ux*ux+uy*uy) (r1:0≤re) (r2:re≤950) (d1:0≤dr) (d2:dr≤300)
  (u1 : -U≤ux) (u2:ux≤U) (u3 : -U≤uy) (u4:uy≤U) :
  ((1000+re)*nx*A-dr*ny*C)*((1000+re)*nx*A-dr*ny*C)≤(2758*U)*(2758*U)∧((1000+re)*ny*A+dr*nx*C)*((1000+re)*ny*A+dr*nx*C)≤(2758*U)*(2758*U):=by
 have e:((1000+re)*nx*A-dr*ny*C)*((1000+re)*nx*A-dr*ny*C)+((1000+re)*ny*A+dr*nx*C)*((1000+re)*ny*A+dr*nx*C)=(1000+re)*(1000+re)*(q*(A*A))+dr*dr*(q*(C*C)):=by subst eq;grind
 have a1:=Bsz (a:=1000+re) (B:=1950) (by omega) (by omega)
 have a2:=Bsz (a:=dr) (B:=1950) (by omega) (by omega)
 have b1:0≤q*(A*A):=Int.mul_nonneg (by omega) (Bf6 A)
 have b2:0≤q*(C*C):=Int.mul_nonneg (by omega) (Bf6 C)
 have c1:(1000+re)*(1000+re)*(q*(A*A))≤1950*1950*(q*(A*A)):=Int.mul_le_mul_of_nonneg_right a1 b1
 have c2:dr*dr*(q*(C*C))≤1950*1950*(q*(C*C)):=Int.mul_le_mul_of_nonneg_right a2 b2
 have h':q*(A*A)+q*(C*C)≤ux*ux+uy*uy:=by rw [← Int.mul_add];exact h
 have g1:=Bsz u1 u2
 have g2:=Bsz u3 u4
 have g3:(2758*U)*(2758*U)=7606564*(U*U):=by grind
 have g4:=Bf6 U
 have s1:=Bf6 ((1000+re)*nx*A-dr*ny*C)
 have s2:=Bf6 ((1000+re)*ny*A+dr*nx*C)
 omega
def Bxj (N d x:Int):Prop := -d<N-d*x∧N-d*x<d
theorem Bmg (N d:Int) (h:0<d):Bxj N d (N.tdiv d):=by
 have e:=Int.mul_tdiv_add_tmod N d
 have m:(N.tmod d).natAbs<d.natAbs:=by
  rw [Int.natAbs_tmod]
  exact Nat.mod_lt _ (by omega)
 unfold Bxj
 generalize d*N.tdiv d=z at *
 generalize N.tmod d=r at *
 omega
theorem td2 (x:Int):(x=2*x.tdiv 2∨x=2*x.tdiv 2+1∨x=2*x.tdiv 2-1)∧(x.tdiv 2).natAbs=x.natAbs / 2:=by
 have e:=Int.mul_tdiv_add_tmod x 2
 have f:(x.tdiv 2).natAbs=x.natAbs / 2:=Int.natAbs_tdiv x 2
 have m:(x.tmod 2).natAbs<2:=by
  rw [Int.natAbs_tmod]
  exact Nat.mod_lt _ (by omega)
 generalize x.tdiv 2=z at *
 generalize x.tmod 2=r at *
 omega
theorem By7 {N d x:Int} (hd:0<d) (h:Bxj N d x):Bxj N (2*d) (x.tdiv 2):=by
 obtain ⟨h1,h2⟩:=h
 have e:=(td2 x).1
 unfold Bxj
 generalize x.tdiv 2=z at *
 have e1:2*d*z=d*(2*z):=by grind
 rw [e1]
 rcases e with e | e | e
 ·rw [← e];omega
 ·have:d*x=d*(2*z)+d:=by subst e;grind
  omega
 ·have:d*x=d*(2*z)-d:=by subst e;grind
  omega
structure KEnd (N1 N2 be ux uy x y:Int):Prop where
 x1 : -46271562≤x
 x2:x≤46271562
 y1 : -46271562≤y
 y2:y≤46271562
 e:be*(x*x+y*y)≤2*(ux*x+uy*y)
 p:∃ d,0<d∧Bxj N1 d x∧Bxj N2 d y
theorem D3r {be ux uy x y:Int} (b1:1≤be) (b2:be≤1000) (u1 : -16777216000≤ux) (u2:ux≤16777216000) (u3 : -16777216000≤uy) (u4:uy≤16777216000)
  (x1 : -46271562≤x) (x2:x≤46271562) (y1 : -46271562≤y) (y2:y≤46271562):hvS be ux uy x y=decide (be*(x*x+y*y)>2*(ux*x+uy*y)):=by
 have ⟨a1,a2⟩:=Bb5 x1 x2 x1 x2
 have ⟨a3,a4⟩:=Bb5 y1 y2 y1 y2
 have ⟨c1,c2⟩:=Bb5 (A:=1000) (B:=4282114900551688) (a:=be) (b:=x*x+y*y) (by omega) b2 (by omega) (by omega)
 have ⟨d1,d2⟩:=Bb5 u1 u2 x1 x2
 have ⟨d3,d4⟩:=Bb5 u3 u4 y1 y2
 unfold hvS
 rw [show W64 (x*x)=_ from Fp (by omega) (by omega),show W64 (y*y)=_ from Fp (by omega) (by omega),show W64 (x*x+y*y)=_ from Fp (by omega) (by omega),
  show W64 (be*(x*x+y*y))=_ from Fp (by omega) (by omega),show W64 (ux*x)=_ from Fp (by omega) (by omega),show W64 (uy*y)=_ from Fp (by omega) (by omega),
  show W64 (ux*x+uy*y)=_ from Fp (by omega) (by omega),show W64 (2*(ux*x+uy*y))=_ from Fp (by omega) (by omega)]
theorem Ccd {x:Int} (x1 : -46271562≤x) (x2:x≤46271562):C6d x=x.tdiv 2:=by
 have:=(td2 x).2
 exact Fp (by omega) (by omega)
theorem Cl4 {N1 N2 be ux uy:Int} (b1:1≤be) (b2:be≤1000) (u1 : -16777216000≤ux) (u2:ux≤16777216000) (u3 : -16777216000≤uy) (u4:uy≤16777216000) :
  ∀ (n:Nat) (x y d:Int),x.natAbs<2 ^ n→y.natAbs<2 ^ n → -46271562≤x→x≤46271562 → -46271562≤y→y≤46271562→0<d→Bxj N1 d x→Bxj N2 d y→KEnd N1 N2 be ux uy (hv be ux uy n x y).1 (hv be ux uy n x y).2
 | 0,x,y,d,hx,hy,x1,x2,y1,y2,hd,p1,p2=>by
  have e1:x=0:=by have:(2:Nat) ^ 0=1:=rfl;omega
  have e2:y=0:=by have:(2:Nat) ^ 0=1:=rfl;omega
  subst e1 e2
  exact ⟨x1,x2,y1,y2,by simp [hv],d,hd,p1,p2⟩
 | n+1,x,y,d,hx,hy,x1,x2,y1,y2,hd,p1,p2=>by
  unfold hv
  rw [D3r b1 b2 u1 u2 u3 u4 x1 x2 y1 y2]
  by_cases hc:be*(x*x+y*y)>2*(ux*x+uy*y)
  ·rw [decide_eq_true hc,cond_true,Ccd x1 x2,Ccd y1 y2]
   have hp:(2:Nat) ^ (n+1)=2 ^ n*2:=Nat.pow_succ ..
   have:=(td2 x).2
   have:=(td2 y).2
   exact Cl4 b1 b2 u1 u2 u3 u4 n _ _ (2*d) (by omega) (by omega) (by omega) (by omega) (by omega) (by omega) (by omega) (By7 hd p1) (By7 hd p2)
  ·rw [decide_eq_false hc,cond_false]
   exact ⟨x1,x2,y1,y2,by simpa using hc,d,hd,p1,p2⟩
def pN1 (nx ny ux uy re dr:Int):Int:=(1000+re)*nx*pA nx ny ux uy-dr*ny*pC nx ny ux uy
def pN2 (nx ny ux uy re dr:Int):Int:=(1000+re)*ny*pA nx ny ux uy+dr*nx*pC nx ny ux uy
theorem Btl {N be x:Int} (hb:1≤be) (h1 : -(2758*(16777216*be))≤N) (h2:N≤2758*(16777216*be)) (p:Bxj N (1000*be) x) : -46271562≤x∧x≤46271562:=by
 obtain ⟨p1,p2⟩:=p
 have e:1000*be*x=be*(1000*x):=by grind
 have k1:be*(1000*x)<be*46271562728:=by omega
 have k2:be*(-46271562728)<be*(1000*x):=by omega
 have l1:=Int.lt_of_mul_lt_mul_left k1 (by omega)
 have l2:=Int.lt_of_mul_lt_mul_left k2 (by omega)
 omega
structure UFit (ux uy be:Int):Prop where
 x1 : -(16777216*be)≤ux
 x2:ux≤16777216*be
 y1 : -(16777216*be)≤uy
 y2:uy≤16777216*be
structure KB (nx ny ux uy re dr be:Int):Prop where
 num:KNum nx ny ux uy re dr be
 q:0<pQ nx ny
 r1:0≤re
 r2:re≤950
 d1:0≤dr
 d2:dr≤300
 b1:1≤be
 b2:be≤1000
 u:UFit ux uy be
theorem KFit.kb {nx ny ux uy re dr be:Int} (h:KFit nx ny ux uy re dr be) (u:UFit ux uy be):KB nx ny ux uy re dr be :=
 ⟨Dd3 h,by have:=h.q;omega,h.r1,h.r2,h.d1,h.d2,h.b1,h.b2,u⟩
theorem D8o {nx ny ux uy re dr be:Int} (h:KB nx ny ux uy re dr be):(-46271562≤pX nx ny ux uy re dr be∧pX nx ny ux uy re dr be≤46271562)∧(-46271562≤pY nx ny ux uy re dr be∧pY nx ny ux uy re dr be≤46271562):=by
 have hA:(pA nx ny ux uy*pQ nx ny)*(pA nx ny ux uy*pQ nx ny)≤(ux*nx+uy*ny)*(ux*nx+uy*ny):=Boo _ _
 have hC:(pC nx ny ux uy*pQ nx ny)*(pC nx ny ux uy*pQ nx ny)≤(uy*nx-ux*ny)*(uy*nx-ux*ny):=Boo _ _
 have en:=Dd4 h.q rfl hA hC
 have b1:=h.b1
 have ⟨n1,n2⟩:=D3q (q:=pQ nx ny) h.q rfl en h.r1 h.r2 h.d1 h.d2 h.u.x1 h.u.x2 h.u.y1 h.u.y2
 have ⟨a1,a2⟩:=Bhr (a:=pN1 nx ny ux uy re dr) (by omega) n1
 have ⟨a3,a4⟩:=Bhr (a:=pN2 nx ny ux uy re dr) (by omega) n2
 exact ⟨Btl b1 a1 a2 (Bmg _ _ (by omega)),Btl b1 a3 a4 (Bmg _ _ (by omega))⟩
theorem D1f {nx ny ux uy re dr be:Int} (h:KB nx ny ux uy re dr be):KEnd (pN1 nx ny ux uy re dr) (pN2 nx ny ux uy re dr) be ux uy (kK nx ny ux uy re dr be).1 (kK nx ny ux uy re dr be).2:=by
 obtain ⟨⟨x1,x2⟩,y1,y2⟩:=D8o h
 have b1:=h.b1;have b2:=h.b2
 have u1:=h.u.x1;have u2:=h.u.x2;have u3:=h.u.y1;have u4:=h.u.y2
 unfold kK
 rw [h.num.x,h.num.y]
 have e:(2:Nat) ^ 64=18446744073709551616:=by decide
 exact Cl4 h.b1 h.b2 (by omega) (by omega) (by omega) (by omega) 64 _ _ (1000*be) (by omega) (by omega) x1 x2 y1 y2 (by omega) (Bmg _ _ (by omega)) (Bmg _ _ (by omega))
end V
end Go.Proofs.YtcfanlgpkefogaaGreat
