import Init
namespace Go.Proofs.YtlangijnealfjaaGreat
def Bd (x lo hi:Int):Bool:=decide (x<lo)||decide (hi<x)
def DW (n d:Int):Int:=(2*n+d) / (2*d)
def DR (n d:Int):Int:=n-DW n d*d
theorem U9 (n d w r:Int) (hd:1≤d) (h:n=w*d+r) (h1 : -d≤2*r) (h2:2*r<d):DW n d=w∧DR n d=r:=by
 have e:DW n d=w:=by
  unfold DW
  have h3:2*n+d=(2*r+d)+w*(2*d):=by rw [h];grind
  rw [h3,Int.add_mul_ediv_right _ _ (by omega),Int.ediv_eq_zero_of_lt (by omega) (by omega)];omega
 refine ⟨e,?_⟩
 unfold DR;rw [e];omega
theorem Ahk (n d:Int) (hd:1≤d) : -d<n.tmod d∧n.tmod d<d:=by
 have h2:=Int.tmod_lt_of_pos n (show 0<d by omega)
 have h1:=Int.lt_tmod_of_pos n (show 0<d by omega)
 exact ⟨by omega,h2⟩
theorem Beu (n d B:Int) (hd:1≤d) (h1 : -B≤n) (h2:n≤B) : -B≤n.tdiv d∧n.tdiv d≤B:=by
 rcases Int.le_total 0 n with h | h
 ·rw [Int.tdiv_eq_ediv_of_nonneg h]
  have a:=Int.ediv_nonneg h (show 0≤d by omega)
  have b:=Int.ediv_le_self d h
  omega
 ·have e:n.tdiv d = -((-n) / d):=by
   rw [← Int.tdiv_eq_ediv_of_nonneg (by omega),Int.neg_tdiv,Int.neg_neg]
  rw [e]
  have a:=Int.ediv_nonneg (show 0 ≤ -n by omega) (show 0≤d by omega)
  have b:=Int.ediv_le_self d (show 0 ≤ -n by omega)
  omega
theorem Bev (n d:Int) (hd:1≤d) (h:d≤2*n.tmod d):n.tdiv d+1=DW n d∧n.tmod d-d=DR n d:=by
 have b:=Ahk n d hd
 have e:=Int.mul_tdiv_add_tmod n d
 have u:=U9 n d (n.tdiv d+1) (n.tmod d-d) hd (by grind) (by omega) (by omega)
 exact ⟨u.1.symm,u.2.symm⟩
theorem Bew (n d:Int) (hd:1≤d) (h:2*n.tmod d < -d):n.tdiv d-1=DW n d∧n.tmod d+d=DR n d:=by
 have b:=Ahk n d hd
 have e:=Int.mul_tdiv_add_tmod n d
 have u:=U9 n d (n.tdiv d-1) (n.tmod d+d) hd (by grind) (by omega) (by omega)
 exact ⟨u.1.symm,u.2.symm⟩
theorem B9i (n d:Int) (hd:1≤d) (h1:2*n.tmod d<d) (h2 : -d≤2*n.tmod d):n.tdiv d=DW n d∧n.tmod d=DR n d:=by
 have b:=Ahk n d hd
 have e:=Int.mul_tdiv_add_tmod n d
 have u:=U9 n d (n.tdiv d) (n.tmod d) hd (by grind) (by omega) (by omega)
 exact ⟨u.1.symm,u.2.symm⟩
theorem Ahl (n d B:Int) (hd:1≤d) (hB:0≤B) (h1 : -B≤n) (h2:n≤B) : -B≤DW n d∧DW n d≤B:=by
 unfold DW
 have k:0<2*d:=by omega
 have hBd:B*1≤B*d:=Int.mul_le_mul_of_nonneg_left hd hB
 have e1:B*(2*d)=2*(B*d):=by grind
 have e2 : -B*(2*d) = -(2*(B*d)):=by grind
 refine ⟨(Int.le_ediv_iff_mul_le k).2 (by omega),Int.le_of_lt_add_one ((Int.ediv_lt_iff_lt_mul k).2 ?_)⟩
 have e3:(B+1)*(2*d)=2*(B*d)+2*d:=by grind
 omega
def Ld (n d:Int):Bool:=decide (-1152921504606846976≤n∧n≤1152921504606846976∧1≤d∧d≤1152921504606846976)
def DvW (n d:Int):Int:=if Ld n d then DW n d else 0
def DvR (n d:Int):Int:=if Ld n d then DR n d else 0
def DvE (n d:Int):Int:=if Ld n d then 0 else 3
theorem Yr (n d:Int):Ld n d=!(Bd n (-1152921504606846976) 1152921504606846976||Bd d 1 1152921504606846976):=by
 unfold Ld Bd
 rw [Bool.eq_iff_iff];simp;omega
theorem B11 (n d:Int) (h:Bd n (-1152921504606846976) 1152921504606846976=true):DvW n d=0∧DvR n d=0∧DvE n d=3:=by
 have e:Ld n d=false:=by rw [Yr,h];rfl
 unfold DvW DvR DvE;rw [e];exact ⟨rfl,rfl,rfl⟩
theorem B12 (n d:Int) (h:Bd d 1 1152921504606846976=true):DvW n d=0∧DvR n d=0∧DvE n d=3:=by
 have e:Ld n d=false:=by rw [Yr,h];simp
 unfold DvW DvR DvE;rw [e];exact ⟨rfl,rfl,rfl⟩
theorem Asp (n d:Int) (h1 : -1152921504606846976≤n) (h2:n≤1152921504606846976) (h3:1≤d) (h4:d≤1152921504606846976):DvW n d=DW n d∧DvR n d=DR n d∧DvE n d=0:=by
 have e:Ld n d=true:=by unfold Ld;exact decide_eq_true ⟨h1,h2,h3,h4⟩
 unfold DvW DvR DvE;rw [e];exact ⟨rfl,rfl,rfl⟩
theorem F4 {x lo hi:Int} (h:Bd x lo hi=false):lo≤x∧x≤hi:=by
 unfold Bd at h;simp at h;exact ⟨h.1,h.2⟩
end Go.Proofs.YtlangijnealfjaaGreat
namespace Go.Proofs.YtlangijnealfjaaGreat
def bl (n:Nat):Nat:=if n=0 then 0 else Nat.log2 n+1
theorem Asq (n:Nat):n<2 ^ bl n:=by
 unfold bl;split
 ·rename_i h;subst h;decide
 ·exact Nat.lt_log2_self
theorem Asr (n:Nat) (h:n≠0):2 ^ (bl n-1)≤n:=by
 unfold bl;rw [if_neg h];simpa using Nat.log2_self_le h
theorem Akh (n b:Nat) (h1:n<2 ^ b) (h2:b=0∨2 ^ (b-1)≤n):bl n=b:=by
 have a:=Asq n
 rcases h2 with h2 | h2
 ·subst h2
  have:n=0:=by simpa using h1
  subst this;rfl
 ·have hn:n≠0:=by
   intro e;subst e
   have:=Nat.two_pow_pos (b-1);omega
  have c:=Asr n hn
  have k1:b-1<bl n:=(Nat.pow_lt_pow_iff_right (a:=2) (by decide)).1 (Nat.lt_of_le_of_lt h2 a)
  have k2:bl n-1<b:=(Nat.pow_lt_pow_iff_right (a:=2) (by decide)).1 (Nat.lt_of_le_of_lt c h1)
  have hb:b≠0:=by
   intro e;subst e
   have:n=0:=by simpa using h1
   exact hn this
  have hbl:bl n≠0:=by unfold bl;rw [if_neg hn];omega
  omega
theorem Adk (n k:Nat) (h:2 ^ k≤n):bl n=bl (n / 2 ^ k)+k:=by
 have hp:=Nat.two_pow_pos k
 have hq:n / 2 ^ k≠0:=by
  have:1≤n / 2 ^ k:=(Nat.le_div_iff_mul_le hp).2 (by omega)
  omega
 have a:=Asq (n / 2 ^ k)
 have c:=Asr (n / 2 ^ k) hq
 have hb:bl (n / 2 ^ k)≠0:=by unfold bl;rw [if_neg hq];omega
 refine Akh n _ ?_ (.inr ?_)
 ·rw [Nat.pow_add]
  exact (Nat.div_lt_iff_lt_mul hp).1 a
 ·have e:bl (n / 2 ^ k)+k-1=(bl (n / 2 ^ k)-1)+k:=by omega
  rw [e,Nat.pow_add]
  exact (Nat.le_div_iff_mul_le hp).1 c
theorem Ys (n b:Nat) (h:n<2 ^ b):bl n≤b:=by
 by_cases hn:n=0
 ·subst hn;exact Nat.zero_le _
 ·have c:=Asr n hn
  have k2:bl n-1<b:=(Nat.pow_lt_pow_iff_right (a:=2) (by decide)).1 (Nat.lt_of_le_of_lt c h)
  omega
def isq:Nat→Nat
 | 0=>0
 | n+1=>if (isq n+1)*(isq n+1)≤n+1 then isq n+1 else isq n
theorem A8u:∀ n,isq n*isq n≤n∧n<(isq n+1)*(isq n+1)
 | 0=>by decide
 | n+1=>by
  obtain ⟨h1,h2⟩:=A8u n
  simp only [isq]
  split
  ·rename_i h
   refine ⟨h,?_⟩
   have:(isq n+1+1)*(isq n+1+1)=(isq n+1)*(isq n+1)+2*(isq n+1)+1:=by grind
   omega
  ·exact ⟨by omega,by omega⟩
def rt (n:Int):Int:=(isq n.toNat:Int)
theorem Ip (n:Int) (h:0≤n):0≤rt n∧rt n*rt n≤n∧n<(rt n+1)*(rt n+1):=by
 obtain ⟨h1,h2⟩:=A8u n.toNat
 unfold rt
 refine ⟨by omega,?_,?_⟩
 ·have:((isq n.toNat*isq n.toNat:Nat):Int)≤(n.toNat:Int):=by exact_mod_cast h1
  rw [Int.natCast_mul] at this;omega
 ·have:(n.toNat:Int)<(((isq n.toNat+1)*(isq n.toNat+1):Nat):Int):=by exact_mod_cast h2
  rw [Int.natCast_mul] at this
  simp only [Int.natCast_add,Int.cast_ofNat_Int] at this
  omega
theorem Ahm {a b:Int} (ha:0≤a) (h:a<b):a*a<b*b:=by
 have h1:a*a≤a*b:=Int.mul_le_mul_of_nonneg_left (by omega) ha
 have h2:a*b<b*b:=Int.mul_lt_mul_of_pos_right h (by omega)
 omega
theorem Aki (n r:Int) (h0:0≤r) (h1:r*r≤n) (h2:n<(r+1)*(r+1)):rt n=r:=by
 have hn:0≤n:=by have:=Int.mul_nonneg h0 h0;omega
 obtain ⟨a,b,c⟩:=Ip n hn
 rcases Int.lt_trichotomy (rt n) r with h | h | h
 ·have:(rt n+1)*(rt n+1)≤r*r:=by
   rcases Int.lt_or_eq_of_le (show rt n+1≤r by omega) with k | k
   ·have:=Ahm (by omega) k;omega
   ·rw [k];exact Int.le_refl _
  omega
 ·exact h
 ·have:(r+1)*(r+1)≤rt n*rt n:=by
   rcases Int.lt_or_eq_of_le (show r+1≤rt n by omega) with k | k
   ·have:=Ahm (by omega) k;omega
   ·rw [k];exact Int.le_refl _
  omega
theorem B5c (n m:Int) (h0:0≤n) (hm:0≤m) (h:n≤m*m):rt n≤m:=by
 obtain ⟨a,b,c⟩:=Ip n h0
 rcases Int.lt_or_le m (rt n) with k | k
 ·have:=Ahm hm k;omega
 ·exact k
theorem Akj (n x:Int) (hn:0≤n) (hx:1≤x):rt n≤(x+n / x) / 2:=by
 obtain ⟨a,b,c⟩:=Ip n hn
 have h1:2*rt n-x≤n / x:=by
  rw [Int.le_ediv_iff_mul_le (by omega)]
  have h2:0≤(rt n-x)*(rt n-x):=by
   rcases Int.le_total 0 (rt n-x) with k | k
   ·exact Int.mul_nonneg k k
   ·have:=Int.mul_nonneg (show 0 ≤ -(rt n-x) by omega) (show 0 ≤ -(rt n-x) by omega)
    rw [Int.neg_mul_neg] at this;exact this
  have h3:(2*rt n-x)*x=rt n*rt n-(rt n-x)*(rt n-x):=by grind
  omega
 omega
theorem Akk (n x:Int) (hn:0≤n) (hx:rt n<x):(x+n / x) / 2<x:=by
 obtain ⟨a,b,c⟩:=Ip n hn
 have h1:n / x<x:=by
  rw [Int.ediv_lt_iff_lt_mul (by omega)]
  have:(rt n+1)*(rt n+1)≤x*x:=by
   rcases Int.lt_or_eq_of_le (show rt n+1≤x by omega) with k | k
   ·have:=Ahm (by omega) k;omega
   ·rw [k];exact Int.le_refl _
  omega
 omega
theorem Adl (n x:Int) (hn:0≤n) (_hx:1≤x) (hr:rt n≤x) (h:x≤(x+n / x) / 2):x=rt n:=by
 rcases Int.lt_or_eq_of_le hr with k | k
 ·have:=Akk n x hn k;omega
 ·exact k.symm
theorem A58 (n:Int) (hn:0≤n):n≤(2:Int) ^ ((bl n.toNat+1) / 2)*(2:Int) ^ ((bl n.toNat+1) / 2):=by
 have h1:=Asq n.toNat
 have h2:2 ^ bl n.toNat≤2 ^ ((bl n.toNat+1) / 2+(bl n.toNat+1) / 2):=Nat.pow_le_pow_right (by decide) (by omega)
 rw [← Int.pow_add]
 have h3:n.toNat<2 ^ ((bl n.toNat+1) / 2+(bl n.toNat+1) / 2):=Nat.lt_of_lt_of_le h1 h2
 have h4:((n.toNat:Nat):Int)<((2 ^ ((bl n.toNat+1) / 2+(bl n.toNat+1) / 2):Nat):Int):=by exact_mod_cast h3
 rw [Int.natCast_pow] at h4
 simp only [Int.cast_ofNat_Int] at h4
 omega
end Go.Proofs.YtlangijnealfjaaGreat
namespace Go.Proofs.YtlangijnealfjaaGreat
theorem D6 {a b A B:Int} (h1 : -A≤a) (h2:a≤A) (h3 : -B≤b) (h4:b≤B) : -(A*B)≤a*b∧a*b≤A*B:=by
 have hA:0≤A:=by omega
 have hB:0≤B:=by omega
 have p1:0≤(A-a)*(B-b):=Int.mul_nonneg (by omega) (by omega)
 have p2:0≤(A+a)*(B+b):=Int.mul_nonneg (by omega) (by omega)
 have p3:0≤(A-a)*(B+b):=Int.mul_nonneg (by omega) (by omega)
 have p4:0≤(A+a)*(B-b):=Int.mul_nonneg (by omega) (by omega)
 have e1:(A-a)*(B-b)+(A+a)*(B+b)=2*(A*B)+2*(a*b):=by grind
 have e2:(A-a)*(B+b)+(A+a)*(B-b)=2*(A*B)-2*(a*b):=by grind
 omega
def hit (x y m:Int):Bool:=(!Bd x (-m) m&&!Bd y (-m) m)&&decide (x*x+y*y≤m*m)
end Go.Proofs.YtlangijnealfjaaGreat
namespace Go.Proofs.YtlangijnealfjaaGreat
def sq (ax ay bx bY:Int):Int:=(bx-ax)*(bx-ax)+(bY-ay)*(bY-ay)
theorem Jn (x:Int):0≤x*x:=by
 rcases Int.le_total 0 x with h | h
 ·exact Int.mul_nonneg h h
 ·exact Int.mul_nonneg_of_nonpos_of_nonpos h h
theorem Vk {x:Int} (h:x≠0):1≤x*x:=by
 rcases Int.lt_or_gt_of_ne h with k | k
 ·have:=Int.mul_pos_of_neg_of_neg k k;omega
 ·have:=Int.mul_pos k k;omega
theorem B9j {px py qx qy:Int} (h:¬ (px=qx∧py=qy)):1≤sq px py qx qy:=by
 have b3:=Jn (qx-px)
 have b4:=Jn (qy-py)
 unfold sq
 by_cases hx:px=qx
 ·have hy:py≠qy:=fun h'=>h ⟨hx,h'⟩
  have:=Vk (x:=qy-py) (by omega)
  omega
 ·have:=Vk (x:=qx-px) (by omega)
  omega
theorem Gz {a b:Int} (h:0≤a) (k:a≤b):a*a≤b*b:=Int.mul_le_mul k k h (by omega)
end Go.Proofs.YtlangijnealfjaaGreat
namespace Go.Proofs.YtlangijnealfjaaGreat
theorem B9k (a b:Int) (ha:0≤a) (hb:0≤b) (ha2:a<18446744073709551616) (hb2:b<18446744073709551616) :
  let x1:=a / 4294967296
  let x0:=a % 4294967296
  let y1:=b / 4294967296
  let y0:=b % 4294967296
  let t:=x1*y0+x0*y0 / 4294967296
  let s:=t % 4294967296+x0*y1
  x1*y1+t / 4294967296+s / 4294967296=a*b / 18446744073709551616 ∧
  (0≤x1*y1∧0≤x0*y0∧0≤x1*y0∧0≤x0*y1∧x1*y1≤18446744065119617025∧x0*y0≤18446744065119617025∧x1*y0≤18446744065119617025∧x0*y1≤18446744065119617025)∧(0≤a*b / 18446744073709551616∧a*b / 18446744073709551616<18446744073709551616):=by
 intro x1 x0 y1 y0 t s
 have e1:a=4294967296*x1+x0:=(Int.mul_ediv_add_emod a 4294967296).symm
 have e2:b=4294967296*y1+y0:=(Int.mul_ediv_add_emod b 4294967296).symm
 have r1:0≤x0∧x0≤4294967295:=by show 0≤a % 4294967296∧a % 4294967296≤4294967295;omega
 have r2:0≤y0∧y0≤4294967295:=by show 0≤b % 4294967296∧b % 4294967296≤4294967295;omega
 have r3:0≤x1∧x1≤4294967295:=by show 0≤a / 4294967296∧a / 4294967296≤4294967295;omega
 have r4:0≤y1∧y1≤4294967295:=by show 0≤b / 4294967296∧b / 4294967296≤4294967295;omega
 clear_value x1 x0 y1 y0
 have p1:=Int.mul_nonneg r3.1 r4.1
 have p2:=Int.mul_nonneg r1.1 r2.1
 have p3:=Int.mul_nonneg r3.1 r2.1
 have p4:=Int.mul_nonneg r1.1 r4.1
 have q1:=D6 (a:=x1) (b:=y1) (A:=4294967295) (B:=4294967295) (by omega) (by omega) (by omega) (by omega)
 have q2:=D6 (a:=x0) (b:=y0) (A:=4294967295) (B:=4294967295) (by omega) (by omega) (by omega) (by omega)
 have q3:=D6 (a:=x1) (b:=y0) (A:=4294967295) (B:=4294967295) (by omega) (by omega) (by omega) (by omega)
 have q4:=D6 (a:=x0) (b:=y1) (A:=4294967295) (B:=4294967295) (by omega) (by omega) (by omega) (by omega)
 have hab:a*b=18446744073709551616*(x1*y1)+4294967296*(x1*y0)+4294967296*(x0*y1)+x0*y0:=by rw [e1,e2];grind
 refine ⟨?_,⟨p1,p2,p3,p4,by omega,by omega,by omega,by omega⟩,?_⟩
 ·show x1*y1+(x1*y0+x0*y0 / 4294967296) / 4294967296+((x1*y0+x0*y0 / 4294967296) % 4294967296+x0*y1) / 4294967296=a*b / 18446744073709551616
  rw [hab]
  generalize x1*y1=A
  generalize x0*y0=B
  generalize x1*y0=C
  generalize x0*y1=D
  omega
 ·omega
theorem S8 {a b:Int} (h:a<b):(a-b).sign = -1:=Int.sign_eq_neg_one_of_neg (by omega)
theorem S9 {a b:Int} (h:b<a):(a-b).sign=1:=Int.sign_eq_one_of_pos (by omega)
theorem Se {a b:Int} (h:a=b):(a-b).sign=0:=by rw [h,Int.sub_self];rfl
end Go.Proofs.YtlangijnealfjaaGreat
