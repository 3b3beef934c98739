import Derived.Test.YtlangijnealfjaaGreatBA
namespace Go.Proofs.YtlangijnealfjaaGreat
open Go.RowKit
namespace V
theorem is_cmpU:FnIs Tryz.prog (186,Tryz.f186):=⟨Tryz.func186,by kernel_rfl,by kernel_rfl⟩
theorem is_nanU:FnIs Tryz.prog (229,Tryz.f229):=⟨Tryz.func229,by kernel_rfl,by kernel_rfl⟩
theorem is_cmpI6:FnIs Tryz.prog (53,Tryz.f53):=⟨Tryz.func53,by kernel_rfl,by kernel_rfl⟩
theorem is_nanI6:FnIs Tryz.prog (111,Tryz.f111):=⟨Tryz.func111,by kernel_rfl,by kernel_rfl⟩
theorem is_Or6:FnIs Tryz.prog (185,Tryz.f185):=⟨Tryz.func185,by kernel_rfl,by kernel_rfl⟩
theorem is_Mul64:FnIs Tryz.prog (184,Tryz.f184):=⟨Tryz.func184,by kernel_rfl,by kernel_rfl⟩
theorem is_times:FnIs Tryz.prog (114,Tryz.f114):=⟨Tryz.func114,by kernel_rfl,by kernel_rfl⟩
theorem is_compare:FnIs Tryz.prog (115,Tryz.f115):=⟨Tryz.func115,by kernel_rfl,by kernel_rfl⟩
theorem is_left:FnIs Tryz.prog (113,Tryz.f113):=⟨Tryz.func113,by kernel_rfl,by kernel_rfl⟩
theorem is_lies:FnIs Tryz.prog (56,Tryz.f56):=⟨Tryz.func56,by kernel_rfl,by kernel_rfl⟩
theorem is_Lies:FnIs Tryz.prog (50,Tryz.f50):=⟨Tryz.func50,by kernel_rfl,by kernel_rfl⟩
theorem is_Cuts:FnIs Tryz.prog (17,Tryz.f17):=⟨Tryz.func17,by kernel_rfl,by kernel_rfl⟩
abbrev cU6:TC:=.i .u64
abbrev TI1:=Tree (TCTs [cI])
def A90 (a b:Int):TI1 :=
 bif a != a then bif b != b then .leaf (0,()) else .leaf (-1,()) else bif b != b then .leaf (1,()) else
 bif decide (a<b) then .leaf (-1,()) else bif decide (a>b) then .leaf (1,()) else .leaf (0,())
theorem A1v (a b:Int):(A90 a b).sat (fun v=>v=((a-b).sign,())):=by
 unfold A90
 refine B0 (fun h=>by simp at h) (fun _=>B0 (fun h=>by simp at h) (fun _=>B0 (fun h=>?_) (fun h=>B0 (fun k=>?_) (fun k=>?_))))
 ·refine A8 ?_;rw [Lh (of_decide_eq_true h)]
 ·refine A8 ?_;rw [Li (of_decide_eq_true k)]
 ·have h':=of_decide_eq_false h
  have k':=of_decide_eq_false k
  refine A8 ?_;rw [Lj (show a=b by omega)]
abbrev As4:PureT:=Bh [cU6,cU6] [cI] (fun _=>true) (fun x=>((x.1-x.2.1).sign,()))
theorem As5:A6 Tryz.prog 186 As4:=Bj (An Am puOk_nil (A0 is_cmpU (A0 is_nanU A2))) 3 (fun x=>A90 x.1 x.2.1) (fun x=>by kernel_rfl) fun _ _ _=>A1v _ _
abbrev Aeq:PureT:=Bh [cI,cI] [cI] (fun _=>true) (fun x=>((x.1-x.2.1).sign,()))
theorem As6:A6 Tryz.prog 53 Aeq:=Bj (An Am puOk_nil (A0 is_cmpI6 (A0 is_nanI6 A2))) 3 (fun x=>A90 x.1 x.2.1) (fun x=>by kernel_rfl) fun _ _ _=>A1v _ _
theorem Dv {n:Int} (h1:0≤n) (h2:n≤18446744073709551615):IntKind.u64.wrap n=n:=by
 unfold IntKind.wrap;simp [IntKind.bits,IntKind.signed];omega
def Wj (n:Int):Int:=IntKind.u64.wrap ((BitVec.ofInt IntKind.u64.bits n &&& BitVec.ofInt IntKind.u64.bits 4294967295).toNat:Int)
theorem Z8 {n:Int} (h1:0≤n) (h2:n≤18446744073709551615):Wj n=n % 4294967296:=by
 obtain ⟨m,rfl⟩:=Int.eq_ofNat_of_zero_le h1
 unfold Wj
 have e1:(BitVec.ofInt IntKind.u64.bits (m:Int)).toNat=m:=by
  show (BitVec.ofInt 64 (m:Int)).toNat=m
  rw [BitVec.toNat_ofInt];omega
 have e2:(BitVec.ofInt IntKind.u64.bits 4294967295).toNat=2 ^ 32-1:=by decide
 rw [BitVec.toNat_and,e1,e2,Nat.and_two_pow_sub_one_eq_mod]
 rw [Dv (by omega) (by omega)]
 omega
def Sq (n:Int):Int:=n.fdiv (2 ^ min (Int.toNat 32) IntKind.u64.bits)
theorem Nf (n:Int):Sq n=n / 4294967296:=by
 unfold Sq
 rw [Int.fdiv_eq_ediv_of_nonneg _ (by decide)]
 rfl
abbrev TU2:=Tree (TCTs [cU6,cU6])
def Aer (a b:Int):TU2 :=
 .leaf (IntKind.u64.wrap (IntKind.u64.wrap (IntKind.u64.wrap (Sq a*Sq b)+Sq (IntKind.u64.wrap (IntKind.u64.wrap (Sq a*Wj b)+Sq (IntKind.u64.wrap (Wj a*Wj b)))))+Sq (IntKind.u64.wrap (Wj (IntKind.u64.wrap (IntKind.u64.wrap (Sq a*Wj b)+Sq (IntKind.u64.wrap (Wj a*Wj b))))+IntKind.u64.wrap (Wj a*Sq b)))),IntKind.u64.wrap (a*b),())
theorem Aes {a b:Int} (a1:0≤a∧a≤18446744073709551615) (b1:0≤b∧b≤18446744073709551615):(Aer a b).sat (fun y=>y=(a*b / 18446744073709551616,IntKind.u64.wrap (a*b),())):=by
 unfold Aer
 obtain ⟨m1,⟨p1,p2,p3,p4,p5,p6,p7,p8⟩,p9,p10⟩:=Ate a b a1.1 b1.1 (by omega) (by omega)
 rw [Z8 a1.1 a1.2,Z8 b1.1 b1.2,Nf a,Nf b,Dv (n:=a / 4294967296*(b % 4294967296)) (by omega) (by omega),Dv (n:=a % 4294967296*(b % 4294967296)) (by omega) (by omega),Dv (n:=a % 4294967296*(b / 4294967296)) (by omega) (by omega),Dv (n:=a / 4294967296*(b / 4294967296)) (by omega) (by omega)]
 rw [Nf (a % 4294967296*(b % 4294967296))]
 generalize a / 4294967296*(b % 4294967296)=C at *
 generalize a % 4294967296*(b % 4294967296)=B at *
 generalize a % 4294967296*(b / 4294967296)=D at *
 generalize a / 4294967296*(b / 4294967296)=A at *
 rw [Dv (n:=C+B / 4294967296) (by omega) (by omega),Z8 (n:=C+B / 4294967296) (by omega) (by omega),Nf (C+B / 4294967296),Dv (n:=(C+B / 4294967296) % 4294967296+D) (by omega) (by omega),Nf]
 rw [Dv (n:=A+(C+B / 4294967296) / 4294967296) (by omega) (by omega),Dv (n:=A+(C+B / 4294967296) / 4294967296+((C+B / 4294967296) % 4294967296+D) / 4294967296) (by omega) (by omega),m1]
 exact A8 rfl
abbrev Alu:PureT:=Bh [cU6,cU6] [cU6,cU6] (fun _=>true) (fun x=>(x.1*x.2.1 / 18446744073709551616,IntKind.u64.wrap (x.1*x.2.1),()))
theorem Alv:A6 Tryz.prog 184 Alu:=Bj (An Am puOk_nil (A0 is_Mul64 A2)) 3 (fun x=>Aer x.1 x.2.1) (fun x=>by kernel_rfl) fun _ _ hw=>Aes hw.1 hw.2.1
abbrev cPr:TC:=.st [cU6,cU6]
abbrev TPr:=Tree (TCTs [cPr])
def Aet (a b:Int):TPr:=.leaf ((IntKind.u64.wrap a*IntKind.u64.wrap b / 18446744073709551616,IntKind.u64.wrap (IntKind.u64.wrap a*IntKind.u64.wrap b),()),())
def nn2 (a b:Int):Bool:=decide (0≤a∧0≤b)
theorem Aeu {a b:Int} (k1:inK .i64 a) (k2:inK .i64 b) (hok:nn2 a b=true):(Aet a b).sat (fun y=>y=((a*b / 18446744073709551616,a*b % 18446744073709551616,()),())):=by
 unfold Aet
 obtain ⟨h0,h1⟩:=of_decide_eq_true hok
 have a1 : -9223372036854775808≤a∧a≤9223372036854775807:=k1
 have b1 : -9223372036854775808≤b∧b≤9223372036854775807:=k2
 rw [Dv (n:=a) (by omega) (by omega),Dv (n:=b) (by omega) (by omega)]
 have:IntKind.u64.wrap (a*b)=a*b % 18446744073709551616:=by unfold IntKind.wrap;simp [IntKind.bits,IntKind.signed]
 rw [this]
 exact A8 rfl
abbrev Z9:PureT:=Bh [cI,cI] [cPr] (fun x=>nn2 x.1 x.2.1) (fun x=>((x.1*x.2.1 / 18446744073709551616,x.1*x.2.1 % 18446744073709551616,()),()))
theorem A91:A6 Tryz.prog 114 Z9:=Bj (An Am (puOk_cons is_Mul64.plain Alv puOk_nil) (A0 is_times A2)) 3 (fun x=>Aet x.1 x.2.1) (fun x=>by kernel_rfl) fun _ hok hw=>Aeu hw.1 hw.2.1 hok
def wdV (a b c d:Int):Int:=((18446744073709551616*a+b)-(18446744073709551616*c+d)).sign
def Aev (a b c d:Int):TI1:=bif a==c&&(b==d&&true) then .leaf (0,()) else bif (a-c).sign != 0 then .leaf ((a-c).sign,()) else bif (b-d).sign != 0 then .leaf ((b-d).sign,()) else .leaf (0,())
theorem Aew {a b c d:Int} (a1:0≤a∧a≤18446744073709551615) (b1:0≤b∧b≤18446744073709551615) (c1:0≤c∧c≤18446744073709551615) (d1:0≤d∧d≤18446744073709551615):(Aev a b c d).sat (fun y=>y=(wdV a b c d,())):=by
 unfold Aev wdV
 refine B0 (fun h=>?_) (fun h=>?_)
 ·rw [Bool.and_true,Bool.and_eq_true] at h
  have e1:a=c:=by simpa using h.1
  have e2:b=d:=by simpa using h.2
  refine A8 ?_
  rw [Lj (show 18446744073709551616*a+b=18446744073709551616*c+d by omega)]
 ·rcases Int.lt_trichotomy a c with x | x | x
  ·rw [Lh x,Lh (show 18446744073709551616*a+b<18446744073709551616*c+d by omega)]
   exact A8 rfl
  ·rw [Lj x]
   rcases Int.lt_trichotomy b d with y | y | y
   ·rw [Lh y,Lh (show 18446744073709551616*a+b<18446744073709551616*c+d by omega)]
    exact A8 rfl
   ·rw [Lj y,Lj (show 18446744073709551616*a+b=18446744073709551616*c+d by omega)]
    exact A8 rfl
   ·rw [Li y,Li (show 18446744073709551616*c+d<18446744073709551616*a+b by omega)]
    exact A8 rfl
  ·rw [Li x,Li (show 18446744073709551616*c+d<18446744073709551616*a+b by omega)]
   exact A8 rfl
abbrev P4:PureT:=Bh [cPr,cPr] [cI] (fun _=>true) (fun x=>(wdV x.1.1 x.1.2.1 x.2.1.1 x.2.1.2.1,()))
theorem X5:A6 Tryz.prog 115 P4:=Bj (An Am (puOk_cons is_cmpU.plain As5 puOk_nil) (A0 is_compare (A0 is_Or6 A2))) 3 (fun x=>Aev x.1.1 x.1.2.1 x.2.1.1 x.2.1.2.1) (fun x=>by kernel_rfl) fun _ _ hw=>Aew hw.1.1 hw.1.2.1 hw.2.1.1 hw.2.1.2.1
def lft (ax ay bx bY px py:Int):Int:=(bx-ax)*(py-ay)-(px-ax)*(bY-ay)
def alg (ax ay bx bY px py:Int):Int:=(bx-ax)*(px-ax)+(bY-ay)*(py-ay)
def LsV (ax ay bx bY px py r:Int):Int :=
 bif decide (alg ax ay bx bY px py≤0) then (sq ax ay px py-r*r).sign else
 bif decide (sq ax ay bx bY≤alg ax ay bx bY px py) then (sq bx bY px py-r*r).sign else
 (lft ax ay bx bY px py*lft ax ay bx bY px py-r*r*sq ax ay bx bY).sign
theorem Zh {x y u v:Int} (h1 : -8388608≤x∧x≤8388608) (h2 : -8388608≤y∧y≤8388608) (h3 : -8388608≤u∧u≤8388608) (h4 : -8388608≤v∧v≤8388608) :
  (-70368744177664≤x*y∧x*y≤70368744177664)∧(-70368744177664≤u*v∧u*v≤70368744177664):=by
 have b1:=De (a:=x) (b:=y) (A:=8388608) (B:=8388608) (by omega) (by omega) (by omega) (by omega)
 have b2:=De (a:=u) (b:=v) (A:=8388608) (B:=8388608) (by omega) (by omega) (by omega) (by omega)
 omega
def Ac4 (ax ay bx bY px py:Int):Bool:=fpt ax ay&&(fpt bx bY&&fpt px py)
def Aex (ax ay bx bY px py:Int):TI1:=.leaf (IntKind.i64.wrap (IntKind.i64.wrap (IntKind.i64.wrap (bx-ax)*IntKind.i64.wrap (py-ay))-IntKind.i64.wrap (IntKind.i64.wrap (px-ax)*IntKind.i64.wrap (bY-ay))),())
theorem Aey {ax ay bx bY px py:Int} (hok:Ac4 ax ay bx bY px py=true):(Aex ax ay bx bY px py).sat (fun y=>y=(lft ax ay bx bY px py,())):=by
 unfold Aex
 simp only [Ac4,Bool.and_eq_true] at hok
 have c1:=G8 hok.1
 have c2:=G8 hok.2.1
 have c3:=G8 hok.2.2
 have b:=Zh (x:=bx-ax) (y:=py-ay) (u:=px-ax) (v:=bY-ay) (by omega) (by omega) (by omega) (by omega)
 rw [Ai (n:=bx-ax) (by omega) (by omega),Ai (n:=py-ay) (by omega) (by omega),Ai (n:=px-ax) (by omega) (by omega),Ai (n:=bY-ay) (by omega) (by omega),Ai (n:=(bx-ax)*(py-ay)) (by omega) (by omega),Ai (n:=(px-ax)*(bY-ay)) (by omega) (by omega),Ai (n:=(bx-ax)*(py-ay)-(px-ax)*(bY-ay)) (by omega) (by omega)]
 exact A8 rfl
abbrev A64:PureT:=Bh [cPt,cPt,cPt] [cI] (fun x=>Ac4 x.1.1 x.1.2.1 x.2.1.1 x.2.1.2.1 x.2.2.1.1 x.2.2.1.2.1) (fun x=>(lft x.1.1 x.1.2.1 x.2.1.1 x.2.1.2.1 x.2.2.1.1 x.2.2.1.2.1,()))
theorem Aez:A6 Tryz.prog 113 A64:=Bj (An Am puOk_nil (A0 is_left A2)) 2 (fun x=>Aex x.1.1 x.1.2.1 x.2.1.1 x.2.1.2.1 x.2.2.1.1 x.2.2.1.2.1) (fun x=>by kernel_rfl) fun _ hok _=>Aey hok
def plLies:List (Nat×PureT):=[(113,A64),(54,Tu),(114,Z9),(115,P4),(53,Aeq),(108,If)]
theorem puLies:Cd Tryz.prog plLies:=puOk_cons is_left.plain Aez (puOk_cons is_square.plain Y3 (puOk_cons is_times.plain A91 (puOk_cons is_compare.plain X5 (puOk_cons is_cmpI6.plain As6 (puOk_cons is_outside.plain Tm puOk_nil)))))
theorem Af0 (ax ay bx bY px py:Int):sq bx bY px py=sq ax ay px py+sq ax ay bx bY-2*alg ax ay bx bY px py:=by unfold sq alg;grind
theorem Alw (n:Int):max n (-n)*max n (-n)=n*n:=by
 rcases Int.le_total 0 n with h | h
 ·rw [show max n (-n)=n by omega]
 ·rw [show max n (-n) = -n by omega,Int.neg_mul_neg]
def Zu (ax ay bx bY px py r:Int):Bool:=fpt ax ay&&(fpt bx bY&&(fpt px py&&!Bd r 0 8388608))
def alW (ax ay bx bY px py:Int):Int:=IntKind.i64.wrap (IntKind.i64.wrap (IntKind.i64.wrap (bx-ax)*IntKind.i64.wrap (px-ax))+IntKind.i64.wrap (IntKind.i64.wrap (bY-ay)*IntKind.i64.wrap (py-ay)))
def mW (ax ay bx bY px py:Int):Int:=max (lft ax ay bx bY px py) (IntKind.i64.wrap (0-lft ax ay bx bY px py))
def A65 (ax ay bx bY px py r:Int):TI1 :=
 bif fpt ax ay&&fpt bx bY then
  bif decide (alW ax ay bx bY px py≤0) then bif fpt ax ay&&fpt px py then bif fpt bx bY&&fpt px py then .leaf ((min (sq ax ay px py) (sq bx bY px py)-IntKind.i64.wrap (r*r)).sign,()) else .fail else .fail
  else bif decide (alW ax ay bx bY px py≥sq ax ay bx bY) then bif fpt ax ay&&fpt px py then bif fpt bx bY&&fpt px py then .leaf ((min (sq ax ay px py) (sq bx bY px py)-IntKind.i64.wrap (r*r)).sign,()) else .fail else .fail
  else bif Ac4 ax ay bx bY px py then bif nn2 (mW ax ay bx bY px py) (mW ax ay bx bY px py) then bif nn2 (IntKind.i64.wrap (r*r)) (sq ax ay bx bY) then
   .leaf (wdV (mW ax ay bx bY px py*mW ax ay bx bY px py / 18446744073709551616) (mW ax ay bx bY px py*mW ax ay bx bY px py % 18446744073709551616) (IntKind.i64.wrap (r*r)*sq ax ay bx bY / 18446744073709551616) (IntKind.i64.wrap (r*r)*sq ax ay bx bY % 18446744073709551616),())
  else .fail else .fail else .fail
 else .fail
theorem Ac5 {ax ay bx bY px py r:Int} (hok:Zu ax ay bx bY px py r=true):(A65 ax ay bx bY px py r).sat (fun y=>y=(LsV ax ay bx bY px py r,())):=by
 simp only [Zu,Bool.and_eq_true,Bool.not_eq_true'] at hok
 obtain ⟨k1,k2,k3,k4⟩:=hok
 have c1:=G8 k1
 have c2:=G8 k2
 have c3:=G8 k3
 have c4:=Y2 k4
 unfold A65 alW mW nn2 wdV Ac4
 have b:=Zh (x:=bx-ax) (y:=px-ax) (u:=bY-ay) (v:=py-ay) (by omega) (by omega) (by omega) (by omega)
 have bl:=Zh (x:=bx-ax) (y:=py-ay) (u:=px-ax) (v:=bY-ay) (by omega) (by omega) (by omega) (by omega)
 have hl:lft ax ay bx bY px py=(bx-ax)*(py-ay)-(px-ax)*(bY-ay):=rfl
 have ha:alg ax ay bx bY px py=(bx-ax)*(px-ax)+(bY-ay)*(py-ay):=rfl
 have br:=De (a:=r) (b:=r) (A:=8388608) (B:=8388608) (by omega) (by omega) (by omega) (by omega)
 have rn:=Gn r
 have sb:=Aih k1 k2
 have hs:=Af0 ax ay bx bY px py
 rw [Ai (n:=bx-ax) (by omega) (by omega),Ai (n:=px-ax) (by omega) (by omega),Ai (n:=bY-ay) (by omega) (by omega),Ai (n:=py-ay) (by omega) (by omega),Ai (n:=(bx-ax)*(px-ax)) (by omega) (by omega),Ai (n:=(bY-ay)*(py-ay)) (by omega) (by omega),
  Ai (n:=(bx-ax)*(px-ax)+(bY-ay)*(py-ay)) (by omega) (by omega),← ha,Ai (n:=r*r) (by omega) (by omega),Ai (n:=0-lft ax ay bx bY px py) (by omega) (by omega),Int.zero_sub,Alw,Int.mul_ediv_add_emod,Int.mul_ediv_add_emod,k1,k2,k3]
 unfold LsV
 refine B0 (fun _=>B0 (fun q=>?_) (fun q=>B0 (fun q2=>?_) (fun q2=>B0 (fun _=>B0 (fun _=>B0 (fun _=>?_) (fun q3=>?_)) (fun q3=>?_)) (fun q3=>by simp at q3)))) (fun q=>by simp at q)
 ·have q':=of_decide_eq_true q
  rw [q,show min (sq ax ay px py) (sq bx bY px py)=sq ax ay px py by omega]
  exact A8 rfl
 ·have q2':=of_decide_eq_true q2
  rw [q,decide_eq_true (show sq ax ay bx bY≤alg ax ay bx bY px py from q2'),show min (sq ax ay px py) (sq bx bY px py)=sq bx bY px py by omega]
  exact A8 rfl
 ·have q2':=of_decide_eq_false q2
  rw [q,decide_eq_false (show ¬ sq ax ay bx bY≤alg ax ay bx bY px py from q2')]
  exact A8 rfl
 ·have:=of_decide_eq_false q3;omega
 ·have:=of_decide_eq_false q3;omega
abbrev A66:PureT:=Bh [cPt,cPt,cPt,cI] [cI] (fun x=>Zu x.1.1 x.1.2.1 x.2.1.1 x.2.1.2.1 x.2.2.1.1 x.2.2.1.2.1 x.2.2.2.1) (fun x=>(LsV x.1.1 x.1.2.1 x.2.1.1 x.2.1.2.1 x.2.2.1.1 x.2.2.1.2.1 x.2.2.2.1,()))
theorem Af1:A6 Tryz.prog 56 A66:=Bj (An Am puLies (A0 is_lies A2)) 3 (fun x=>A65 x.1.1 x.1.2.1 x.2.1.1 x.2.1.2.1 x.2.2.1.1 x.2.2.1.2.1 x.2.2.2.1) (fun x=>by kernel_rfl) fun _ hok _=>Ac5 hok
def plSeg:List (Nat×PureT):=(56,A66)::plLies
theorem puSeg:Cd Tryz.prog plSeg:=puOk_cons is_lies.plain Af1 puLies
def LsR (ax ay bx bY px py r:Int):Int×Int:=bif fpt ax ay&&(fpt bx bY&&fpt px py) then bif Bd r 0 8388608 then (0,3) else (LsV ax ay bx bY px py r,0) else (0,2)
abbrev TI2:=Tree (TCTs [cI,cI])
def A67 {α:Type} (x y:Int) (a b:Tree α):Tree α:=bif Ts x y then a else bif Tt x y then a else b
def A68 (ax ay bx bY px py r:Int):TI2:=A67 ax ay (.leaf (0,2,())) (A67 bx bY (.leaf (0,2,())) (A67 px py (.leaf (0,2,())) (
 bif Bd r 0 8388608 then .leaf (0,3,()) else bif Zu ax ay bx bY px py r then .leaf (LsV ax ay bx bY px py r,0,()) else .fail)))
theorem Ac6 {ax ay bx bY px py r:Int} (a1:inK .i64 ax) (a2:inK .i64 ay) (a3:inK .i64 bx) (a4:inK .i64 bY) (a5:inK .i64 px) (a6:inK .i64 py):(A68 ax ay bx bY px py r).sat (fun y=>y=((LsR ax ay bx bY px py r).1,(LsR ax ay bx bY px py r).2,())):=by
 unfold A68 A67
 refine Fw a1 a2 (fun k=>?_) (fun k1=>Fw a3 a4 (fun k=>?_) (fun k2=>Fw a5 a6 (fun k=>?_) (fun k3=>B0 (fun k=>?_) (fun k4=>?_))))
 ·refine A8 ?_
  unfold LsR;rw [k];rfl
 ·refine A8 ?_
  unfold LsR;rw [k1,k];rfl
 ·refine A8 ?_
  unfold LsR;rw [k1,k2,k];rfl
 ·refine A8 ?_
  unfold LsR;rw [k1,k2,k3,k];rfl
 ·have:Zu ax ay bx bY px py r=true:=by unfold Zu;rw [k1,k2,k3,k4];rfl
  rw [this]
  refine A8 ?_
  unfold LsR;rw [k1,k2,k3,k4];rfl
abbrev Af2:PureT:=Bh [cPt,cPt,cPt,cI] [cI,cI] (fun _=>true) (fun x=>((LsR x.1.1 x.1.2.1 x.2.1.1 x.2.1.2.1 x.2.2.1.1 x.2.2.1.2.1 x.2.2.2.1).1,(LsR x.1.1 x.1.2.1 x.2.1.1 x.2.1.2.1 x.2.2.1.1 x.2.2.1.2.1 x.2.2.2.1).2,()))
theorem As7:A6 Tryz.prog 50 Af2:=Bj (An Am puSeg (A0 is_Lies (A0 is_fits A2))) 3 (fun x=>A68 x.1.1 x.1.2.1 x.2.1.1 x.2.1.2.1 x.2.2.1.1 x.2.2.1.2.1 x.2.2.2.1) (fun x=>by kernel_rfl) fun _ _ hw=>Ac6 hw.1.1 hw.1.2.1 hw.2.1.1 hw.2.1.2.1 hw.2.2.1.1 hw.2.2.1.2.1
end V
end Go.Proofs.YtlangijnealfjaaGreat
namespace Go.Proofs.YtlangijnealfjaaGreat
open Go.RowKit
namespace V
theorem is_Concat:FnIs Tryz.prog (51,Tryz.f51):=⟨Tryz.func51,by kernel_rfl,by kernel_rfl⟩
theorem is_Grow:FnIs Tryz.prog (109,Tryz.f109):=⟨Tryz.func109,by kernel_rfl,by kernel_rfl⟩
abbrev Zv:Type:=List (TCT A1)
def ccA (a:Zv):Int:=W64 (0+(a.length:Int))
def ccS (a b:Zv):Int:=W64 (ccA a+(b.length:Int))
def ccZ (n:Int):Zv:=List.take (Int.toNat 0) (List.replicate (Int.toNat n) (A5 A1))
abbrev Alx:=Tree (TCTs [.sl A1])
def ccK (z a b:Zv):Alx:=bif Dy z a 24 then bif Dy (z++a) b 24 then .leaf (z++a++b,()) else .fail else .fail
def Aly (a b:Zv):Alx :=
 bif decide (ccA a<0) then .fail else bif decide (ccS a b<0) then .fail else bif decide (ccS a b<0) then .fail else
 bif decide (W64 (ccS a b-W64 (0-0))>0) then
  bif decide (1≤W64 (ccS a b-W64 (0-0))∧W64 (ccS a b-W64 (0-0))≤65536∧W64 (ccS a b-W64 (0-0))*24≤281474976710656) then
   ccK (ccZ (W64 (ccS a b-W64 (0-0)))) a b
  else .fail
 else ccK [] a b
theorem Af3 {z a b:Zv} (hz:z=[]) (h:a.length+b.length≤60000):(ccK z a b).sat (fun y=>y=(a++b,())):=by
 subst hz
 unfold ccK
 rw [F2,F2,decide_eq_true (by simp only [List.length_nil];omega),decide_eq_true (by simp only [List.nil_append];omega)]
 exact A8 rfl
theorem Alz {a b:Zv} (h:a.length+b.length≤60000):(Aly a b).sat (fun y=>y=(a++b,())):=by
 unfold Aly
 have e1:ccA a=(a.length:Int):=by unfold ccA;rw [B6 (by omega) (by omega)];omega
 have e2:ccS a b=(a.length:Int)+b.length:=by unfold ccS;rw [e1,B6 (by omega) (by omega)]
 have e3:W64 (ccS a b-W64 (0-0))=(a.length:Int)+b.length:=by
  rw [show W64 (0-0)=0 from rfl,e2,B6 (by omega) (by omega)];omega
 rw [e1,e2] at *
 rw [e3,decide_eq_false (show ¬ ((a.length:Int)<0) by omega),decide_eq_false (show ¬ ((a.length:Int)+b.length<0) by omega)]
 simp only [cond_false]
 cases h0:decide ((a.length:Int)+b.length>0) with
 | true =>
  have:=of_decide_eq_true h0
  rw [cond_true,decide_eq_true (by omega),cond_true]
  exact Af3 rfl h
 | false=>exact Af3 rfl h
def cc2 (l:List (List (TCT A1))):Bool:=match l with
 | [a,b]=>decide (a.length+b.length≤60000)
 | _=>false
def ccV (l:List (List (TCT A1))):Zv:=match l with
 | [a,b]=>a++b
 | _=>[]
theorem Af4 {l:List (List (TCT A1))} (h:cc2 l=true):∃ a b,l=[a,b]∧a.length+b.length≤60000:=by
 match l,h with
 | [a,b],h=>exact ⟨a,b,rfl,of_decide_eq_true h⟩
abbrev A1w:PureT:=Bh [.sl (.sl A1)] [.sl A1] (fun x=>cc2 x.1) (fun x=>(ccV x.1,()))
noncomputable def Af5:Ctx:=Aej 3 Tryz.prog [] [(51,Tryz.f51),(109,Tryz.f109)]
theorem Am0:CtxOk Af5:=M3 Am puOk_nil (A0 is_Concat (A0 is_Grow A2))
noncomputable def A92 (x:TCTs [.sl (.sl A1)]):Alx:=Ck Af5 10 (.fn 51) (Cs [.sl (.sl A1)] x) Bs 0 (Fq Af5.P [.sl A1])
theorem Ac7 (x:TCTs [.sl (.sl A1)]):Ck Af5 10 (.fn 51) (Cs [.sl (.sl A1)] x) Bs 0 (Fq Af5.P [.sl A1])=A92 x:=by kernel_rfl
theorem Am1 (a b:Zv):A92 ([a,b],())=Aly a b:=by kernel_rfl
def Af6 (l:List (List (TCT A1))):Alx:=match l with
 | [a,b]=>Aly a b
 | _=>.fail
theorem Af7 (x:TCTs [.sl (.sl A1)]) (h:cc2 x.1=true):A92 x=Af6 x.1:=by
 obtain ⟨l,⟨⟩⟩:=x
 obtain ⟨a,b,e,_⟩:=Af4 h
 have e:l=[a,b]:=e
 subst e
 exact Am1 a b
theorem Af8:A6 Tryz.prog 51 A1w:=Axz Am0 10 A92 (fun x=>Af6 x.1) Ac7 Af7 fun x h _=>by
 obtain ⟨a,b,e,hn⟩:=Af4 h
 show (Af6 x.1).sat (fun y=>y=(ccV x.1,()))
 rw [e]
 exact Alz hn
end V
end Go.Proofs.YtlangijnealfjaaGreat
