import Derived.Test.YtlangijnealfjaaGreatBA
namespace Go.Proofs.YtlangijnealfjaaGreat
open Go.RowKit
namespace V
theorem is_cmpU:FnIs Tryz.prog (186,Tryz.f186):=⟨Tryz.func186,by kernel_rfl,by kernel_rfl⟩
theorem is_nanU:FnIs Tryz.prog (229,Tryz.f229):=⟨Tryz.func229,by kernel_rfl,by kernel_rfl⟩
theorem is_cmpI6:FnIs Tryz.prog (53,Tryz.f53):=⟨Tryz.func53,by kernel_rfl,by kernel_rfl⟩
theorem is_nanI6:FnIs Tryz.prog (111,Tryz.f111):=⟨Tryz.func111,by kernel_rfl,by kernel_rfl⟩
theorem is_Or6:FnIs Tryz.prog (185,Tryz.f185):=⟨Tryz.func185,by kernel_rfl,by kernel_rfl⟩
theorem is_Mul64:FnIs Tryz.prog (184,Tryz.f184):=⟨Tryz.func184,by kernel_rfl,by kernel_rfl⟩
theorem is_times:FnIs Tryz.prog (114,Tryz.f114):=⟨Tryz.func114,by kernel_rfl,by kernel_rfl⟩
theorem is_compare:FnIs Tryz.prog (115,Tryz.f115):=⟨Tryz.func115,by kernel_rfl,by kernel_rfl⟩
theorem is_left:FnIs Tryz.prog (113,Tryz.f113):=⟨Tryz.func113,by kernel_rfl,by kernel_rfl⟩
theorem is_lies:FnIs Tryz.prog (56,Tryz.f56):=⟨Tryz.func56,by kernel_rfl,by kernel_rfl⟩
theorem is_Lies:FnIs Tryz.prog (50,Tryz.f50):=⟨Tryz.func50,by kernel_rfl,by kernel_rfl⟩
theorem is_Cuts:FnIs Tryz.prog (17,Tryz.f17):=⟨Tryz.func17,by kernel_rfl,by kernel_rfl⟩
abbrev cU6:TC:=.i .u64
abbrev TI1:=Tree (TCTs [cI])
def A66 (a b:Int):TI1 :=
 bif a != a then bif b != b then .leaf (0,()) else .leaf (-1,()) else bif b != b then .leaf (1,()) else
 bif decide (a<b) then .leaf (-1,()) else bif decide (a>b) then .leaf (1,()) else .leaf (0,())
theorem Z8 (a b:Int):(A66 a b).sat (fun v=>v=((a-b).sign,())):=by
 unfold A66
 refine Ax (fun h=>by simp at h) (fun _=>Ax (fun h=>by simp at h) (fun _=>Ax (fun h=>?_) (fun h=>Ax (fun k=>?_) (fun k=>?_))))
 ·refine A6 ?_;rw [Kp (of_decide_eq_true h)]
 ·refine A6 ?_;rw [Kq (of_decide_eq_true k)]
 ·have h':=of_decide_eq_false h
  have k':=of_decide_eq_false k
  refine A6 ?_;rw [Kr (show a=b by omega)]
abbrev An2:PureT:=B9 [cU6,cU6] [cI] (fun _=>true) (fun x=>((x.1-x.2.1).sign,()))
theorem An3:A5 Tryz.prog 186 An2:=Bb (Aj Ak puOk_nil (A0 is_cmpU (A0 is_nanU A2))) 3 (fun x=>A66 x.1 x.2.1) (fun x=>by kernel_rfl) fun _ _ _=>Z8 _ _
abbrev Abc:PureT:=B9 [cI,cI] [cI] (fun _=>true) (fun x=>((x.1-x.2.1).sign,()))
theorem An4:A5 Tryz.prog 53 Abc:=Bb (Aj Ak puOk_nil (A0 is_cmpI6 (A0 is_nanI6 A2))) 3 (fun x=>A66 x.1 x.2.1) (fun x=>by kernel_rfl) fun _ _ _=>Z8 _ _
theorem Dh {n:Int} (h1:0≤n) (h2:n≤18446744073709551615):IntKind.u64.wrap n=n:=by
 unfold IntKind.wrap;simp [IntKind.bits,IntKind.signed];omega
def Uu (n:Int):Int:=IntKind.u64.wrap ((BitVec.ofInt IntKind.u64.bits n &&& BitVec.ofInt IntKind.u64.bits 4294967295).toNat:Int)
theorem X3 {n:Int} (h1:0≤n) (h2:n≤18446744073709551615):Uu n=n % 4294967296:=by
 obtain ⟨m,rfl⟩:=Int.eq_ofNat_of_zero_le h1
 unfold Uu
 have e1:(BitVec.ofInt IntKind.u64.bits (m:Int)).toNat=m:=by
  show (BitVec.ofInt 64 (m:Int)).toNat=m
  rw [BitVec.toNat_ofInt];omega
 have e2:(BitVec.ofInt IntKind.u64.bits 4294967295).toNat=2 ^ 32-1:=by decide
 rw [BitVec.toNat_and,e1,e2,Nat.and_two_pow_sub_one_eq_mod]
 rw [Dh (by omega) (by omega)]
 omega
def Qx (n:Int):Int:=n.fdiv (2 ^ min (Int.toNat 32) IntKind.u64.bits)
theorem Mi (n:Int):Qx n=n / 4294967296:=by
 unfold Qx
 rw [Int.fdiv_eq_ediv_of_nonneg _ (by decide)]
 rfl
abbrev TU2:=Tree (TCTs [cU6,cU6])
def Abd (a b:Int):TU2 :=
 .leaf (IntKind.u64.wrap (IntKind.u64.wrap (IntKind.u64.wrap (Qx a*Qx b)+Qx (IntKind.u64.wrap (IntKind.u64.wrap (Qx a*Uu b)+Qx (IntKind.u64.wrap (Uu a*Uu b)))))+Qx (IntKind.u64.wrap (Uu (IntKind.u64.wrap (IntKind.u64.wrap (Qx a*Uu b)+Qx (IntKind.u64.wrap (Uu a*Uu b))))+IntKind.u64.wrap (Uu a*Qx b)))),IntKind.u64.wrap (a*b),())
theorem Abe {a b:Int} (a1:0≤a∧a≤18446744073709551615) (b1:0≤b∧b≤18446744073709551615):(Abd a b).sat (fun y=>y=(a*b / 18446744073709551616,IntKind.u64.wrap (a*b),())):=by
 unfold Abd
 obtain ⟨m1,⟨p1,p2,p3,p4,p5,p6,p7,p8⟩,p9,p10⟩:=Aob a b a1.1 b1.1 (by omega) (by omega)
 rw [X3 a1.1 a1.2,X3 b1.1 b1.2,Mi a,Mi b,Dh (n:=a / 4294967296*(b % 4294967296)) (by omega) (by omega),Dh (n:=a % 4294967296*(b % 4294967296)) (by omega) (by omega),Dh (n:=a % 4294967296*(b / 4294967296)) (by omega) (by omega),Dh (n:=a / 4294967296*(b / 4294967296)) (by omega) (by omega)]
 rw [Mi (a % 4294967296*(b % 4294967296))]
 generalize a / 4294967296*(b % 4294967296)=C at *
 generalize a % 4294967296*(b % 4294967296)=B at *
 generalize a % 4294967296*(b / 4294967296)=D at *
 generalize a / 4294967296*(b / 4294967296)=A at *
 rw [Dh (n:=C+B / 4294967296) (by omega) (by omega),X3 (n:=C+B / 4294967296) (by omega) (by omega),Mi (C+B / 4294967296),Dh (n:=(C+B / 4294967296) % 4294967296+D) (by omega) (by omega),Mi]
 rw [Dh (n:=A+(C+B / 4294967296) / 4294967296) (by omega) (by omega),Dh (n:=A+(C+B / 4294967296) / 4294967296+((C+B / 4294967296) % 4294967296+D) / 4294967296) (by omega) (by omega),m1]
 exact A6 rfl
abbrev Ahm:PureT:=B9 [cU6,cU6] [cU6,cU6] (fun _=>true) (fun x=>(x.1*x.2.1 / 18446744073709551616,IntKind.u64.wrap (x.1*x.2.1),()))
theorem Ahn:A5 Tryz.prog 184 Ahm:=Bb (Aj Ak puOk_nil (A0 is_Mul64 A2)) 3 (fun x=>Abd x.1 x.2.1) (fun x=>by kernel_rfl) fun _ _ hw=>Abe hw.1 hw.2.1
abbrev cPr:TC:=.st [cU6,cU6]
abbrev TPr:=Tree (TCTs [cPr])
def Abf (a b:Int):TPr:=.leaf ((IntKind.u64.wrap a*IntKind.u64.wrap b / 18446744073709551616,IntKind.u64.wrap (IntKind.u64.wrap a*IntKind.u64.wrap b),()),())
def nn2 (a b:Int):Bool:=decide (0≤a∧0≤b)
theorem Abg {a b:Int} (k1:inK .i64 a) (k2:inK .i64 b) (hok:nn2 a b=true):(Abf a b).sat (fun y=>y=((a*b / 18446744073709551616,a*b % 18446744073709551616,()),())):=by
 unfold Abf
 obtain ⟨h0,h1⟩:=of_decide_eq_true hok
 have a1 : -9223372036854775808≤a∧a≤9223372036854775807:=k1
 have b1 : -9223372036854775808≤b∧b≤9223372036854775807:=k2
 rw [Dh (n:=a) (by omega) (by omega),Dh (n:=b) (by omega) (by omega)]
 have:IntKind.u64.wrap (a*b)=a*b % 18446744073709551616:=by unfold IntKind.wrap;simp [IntKind.bits,IntKind.signed]
 rw [this]
 exact A6 rfl
abbrev X4:PureT:=B9 [cI,cI] [cPr] (fun x=>nn2 x.1 x.2.1) (fun x=>((x.1*x.2.1 / 18446744073709551616,x.1*x.2.1 % 18446744073709551616,()),()))
theorem A67:A5 Tryz.prog 114 X4:=Bb (Aj Ak (puOk_cons is_Mul64.plain Ahn puOk_nil) (A0 is_times A2)) 3 (fun x=>Abf x.1 x.2.1) (fun x=>by kernel_rfl) fun _ hok hw=>Abg hw.1 hw.2.1 hok
def wdV (a b c d:Int):Int:=((18446744073709551616*a+b)-(18446744073709551616*c+d)).sign
def Abh (a b c d:Int):TI1:=bif a==c&&(b==d&&true) then .leaf (0,()) else bif (a-c).sign != 0 then .leaf ((a-c).sign,()) else bif (b-d).sign != 0 then .leaf ((b-d).sign,()) else .leaf (0,())
theorem Abi {a b c d:Int} (a1:0≤a∧a≤18446744073709551615) (b1:0≤b∧b≤18446744073709551615) (c1:0≤c∧c≤18446744073709551615) (d1:0≤d∧d≤18446744073709551615):(Abh a b c d).sat (fun y=>y=(wdV a b c d,())):=by
 unfold Abh wdV
 refine Ax (fun h=>?_) (fun h=>?_)
 ·rw [Bool.and_true,Bool.and_eq_true] at h
  have e1:a=c:=by simpa using h.1
  have e2:b=d:=by simpa using h.2
  refine A6 ?_
  rw [Kr (show 18446744073709551616*a+b=18446744073709551616*c+d by omega)]
 ·rcases Int.lt_trichotomy a c with x | x | x
  ·rw [Kp x,Kp (show 18446744073709551616*a+b<18446744073709551616*c+d by omega)]
   exact A6 rfl
  ·rw [Kr x]
   rcases Int.lt_trichotomy b d with y | y | y
   ·rw [Kp y,Kp (show 18446744073709551616*a+b<18446744073709551616*c+d by omega)]
    exact A6 rfl
   ·rw [Kr y,Kr (show 18446744073709551616*a+b=18446744073709551616*c+d by omega)]
    exact A6 rfl
   ·rw [Kq y,Kq (show 18446744073709551616*c+d<18446744073709551616*a+b by omega)]
    exact A6 rfl
  ·rw [Kq x,Kq (show 18446744073709551616*c+d<18446744073709551616*a+b by omega)]
   exact A6 rfl
abbrev Ny:PureT:=B9 [cPr,cPr] [cI] (fun _=>true) (fun x=>(wdV x.1.1 x.1.2.1 x.2.1.1 x.2.1.2.1,()))
theorem Vf:A5 Tryz.prog 115 Ny:=Bb (Aj Ak (puOk_cons is_cmpU.plain An3 puOk_nil) (A0 is_compare (A0 is_Or6 A2))) 3 (fun x=>Abh x.1.1 x.1.2.1 x.2.1.1 x.2.1.2.1) (fun x=>by kernel_rfl) fun _ _ hw=>Abi hw.1.1 hw.1.2.1 hw.2.1.1 hw.2.1.2.1
def lft (ax ay bx bY px py:Int):Int:=(bx-ax)*(py-ay)-(px-ax)*(bY-ay)
def alg (ax ay bx bY px py:Int):Int:=(bx-ax)*(px-ax)+(bY-ay)*(py-ay)
def LsV (ax ay bx bY px py r:Int):Int :=
 bif decide (alg ax ay bx bY px py≤0) then (sq ax ay px py-r*r).sign else
 bif decide (sq ax ay bx bY≤alg ax ay bx bY px py) then (sq bx bY px py-r*r).sign else
 (lft ax ay bx bY px py*lft ax ay bx bY px py-r*r*sq ax ay bx bY).sign
theorem X5 {x y u v:Int} (h1 : -8388608≤x∧x≤8388608) (h2 : -8388608≤y∧y≤8388608) (h3 : -8388608≤u∧u≤8388608) (h4 : -8388608≤v∧v≤8388608) :
  (-70368744177664≤x*y∧x*y≤70368744177664)∧(-70368744177664≤u*v∧u*v≤70368744177664):=by
 have b1:=D4 (a:=x) (b:=y) (A:=8388608) (B:=8388608) (by omega) (by omega) (by omega) (by omega)
 have b2:=D4 (a:=u) (b:=v) (A:=8388608) (B:=8388608) (by omega) (by omega) (by omega) (by omega)
 omega
def A8y (ax ay bx bY px py:Int):Bool:=fpt ax ay&&(fpt bx bY&&fpt px py)
def Abj (ax ay bx bY px py:Int):TI1:=.leaf (IntKind.i64.wrap (IntKind.i64.wrap (IntKind.i64.wrap (bx-ax)*IntKind.i64.wrap (py-ay))-IntKind.i64.wrap (IntKind.i64.wrap (px-ax)*IntKind.i64.wrap (bY-ay))),())
theorem Abk {ax ay bx bY px py:Int} (hok:A8y ax ay bx bY px py=true):(Abj ax ay bx bY px py).sat (fun y=>y=(lft ax ay bx bY px py,())):=by
 unfold Abj
 simp only [A8y,Bool.and_eq_true] at hok
 have c1:=Fw hok.1
 have c2:=Fw hok.2.1
 have c3:=Fw hok.2.2
 have b:=X5 (x:=bx-ax) (y:=py-ay) (u:=px-ax) (v:=bY-ay) (by omega) (by omega) (by omega) (by omega)
 rw [A8 (n:=bx-ax) (by omega) (by omega),A8 (n:=py-ay) (by omega) (by omega),A8 (n:=px-ax) (by omega) (by omega),A8 (n:=bY-ay) (by omega) (by omega),A8 (n:=(bx-ax)*(py-ay)) (by omega) (by omega),A8 (n:=(px-ax)*(bY-ay)) (by omega) (by omega),A8 (n:=(bx-ax)*(py-ay)-(px-ax)*(bY-ay)) (by omega) (by omega)]
 exact A6 rfl
abbrev A3j:PureT:=B9 [cPt,cPt,cPt] [cI] (fun x=>A8y x.1.1 x.1.2.1 x.2.1.1 x.2.1.2.1 x.2.2.1.1 x.2.2.1.2.1) (fun x=>(lft x.1.1 x.1.2.1 x.2.1.1 x.2.1.2.1 x.2.2.1.1 x.2.2.1.2.1,()))
theorem Abl:A5 Tryz.prog 113 A3j:=Bb (Aj Ak puOk_nil (A0 is_left A2)) 2 (fun x=>Abj x.1.1 x.1.2.1 x.2.1.1 x.2.1.2.1 x.2.2.1.1 x.2.2.1.2.1) (fun x=>by kernel_rfl) fun _ hok _=>Abk hok
def plLies:List (Nat×PureT):=[(113,A3j),(54,S0),(114,X4),(115,Ny),(53,Abc),(108,I0)]
theorem puLies:Ca Tryz.prog plLies:=puOk_cons is_left.plain Abl (puOk_cons is_square.plain Vz (puOk_cons is_times.plain A67 (puOk_cons is_compare.plain Vf (puOk_cons is_cmpI6.plain An4 (puOk_cons is_outside.plain Rt puOk_nil)))))
theorem An5 (ax ay bx bY px py:Int):sq bx bY px py=sq ax ay px py+sq ax ay bx bY-2*alg ax ay bx bY px py:=by unfold sq alg;grind
theorem Aho (n:Int):max n (-n)*max n (-n)=n*n:=by
 rcases Int.le_total 0 n with h | h
 ·rw [show max n (-n)=n by omega]
 ·rw [show max n (-n) = -n by omega,Int.neg_mul_neg]
def X6 (ax ay bx bY px py r:Int):Bool:=fpt ax ay&&(fpt bx bY&&(fpt px py&&!B7 r 0 8388608))
def alW (ax ay bx bY px py:Int):Int:=IntKind.i64.wrap (IntKind.i64.wrap (IntKind.i64.wrap (bx-ax)*IntKind.i64.wrap (px-ax))+IntKind.i64.wrap (IntKind.i64.wrap (bY-ay)*IntKind.i64.wrap (py-ay)))
def mW (ax ay bx bY px py:Int):Int:=max (lft ax ay bx bY px py) (IntKind.i64.wrap (0-lft ax ay bx bY px py))
def A3k (ax ay bx bY px py r:Int):TI1 :=
 bif fpt ax ay&&fpt bx bY then
  bif decide (alW ax ay bx bY px py≤0) then bif fpt ax ay&&fpt px py then bif fpt bx bY&&fpt px py then .leaf ((min (sq ax ay px py) (sq bx bY px py)-IntKind.i64.wrap (r*r)).sign,()) else .fail else .fail
  else bif decide (alW ax ay bx bY px py≥sq ax ay bx bY) then bif fpt ax ay&&fpt px py then bif fpt bx bY&&fpt px py then .leaf ((min (sq ax ay px py) (sq bx bY px py)-IntKind.i64.wrap (r*r)).sign,()) else .fail else .fail
  else bif A8y ax ay bx bY px py then bif nn2 (mW ax ay bx bY px py) (mW ax ay bx bY px py) then bif nn2 (IntKind.i64.wrap (r*r)) (sq ax ay bx bY) then
   .leaf (wdV (mW ax ay bx bY px py*mW ax ay bx bY px py / 18446744073709551616) (mW ax ay bx bY px py*mW ax ay bx bY px py % 18446744073709551616) (IntKind.i64.wrap (r*r)*sq ax ay bx bY / 18446744073709551616) (IntKind.i64.wrap (r*r)*sq ax ay bx bY % 18446744073709551616),())
  else .fail else .fail else .fail
 else .fail
theorem A8z {ax ay bx bY px py r:Int} (hok:X6 ax ay bx bY px py r=true):(A3k ax ay bx bY px py r).sat (fun y=>y=(LsV ax ay bx bY px py r,())):=by
 simp only [X6,Bool.and_eq_true,Bool.not_eq_true'] at hok
 obtain ⟨k1,k2,k3,k4⟩:=hok
 have c1:=Fw k1
 have c2:=Fw k2
 have c3:=Fw k3
 have c4:=Vy k4
 unfold A3k alW mW nn2 wdV A8y
 have b:=X5 (x:=bx-ax) (y:=px-ax) (u:=bY-ay) (v:=py-ay) (by omega) (by omega) (by omega) (by omega)
 have bl:=X5 (x:=bx-ax) (y:=py-ay) (u:=px-ax) (v:=bY-ay) (by omega) (by omega) (by omega) (by omega)
 have hl:lft ax ay bx bY px py=(bx-ax)*(py-ay)-(px-ax)*(bY-ay):=rfl
 have ha:alg ax ay bx bY px py=(bx-ax)*(px-ax)+(bY-ay)*(py-ay):=rfl
 have br:=D4 (a:=r) (b:=r) (A:=8388608) (B:=8388608) (by omega) (by omega) (by omega) (by omega)
 have rn:=Io r
 have sb:=Af7 k1 k2
 have hs:=An5 ax ay bx bY px py
 rw [A8 (n:=bx-ax) (by omega) (by omega),A8 (n:=px-ax) (by omega) (by omega),A8 (n:=bY-ay) (by omega) (by omega),A8 (n:=py-ay) (by omega) (by omega),A8 (n:=(bx-ax)*(px-ax)) (by omega) (by omega),A8 (n:=(bY-ay)*(py-ay)) (by omega) (by omega),
  A8 (n:=(bx-ax)*(px-ax)+(bY-ay)*(py-ay)) (by omega) (by omega),← ha,A8 (n:=r*r) (by omega) (by omega),A8 (n:=0-lft ax ay bx bY px py) (by omega) (by omega),Int.zero_sub,Aho,Int.mul_ediv_add_emod,Int.mul_ediv_add_emod,k1,k2,k3]
 unfold LsV
 refine Ax (fun _=>Ax (fun q=>?_) (fun q=>Ax (fun q2=>?_) (fun q2=>Ax (fun _=>Ax (fun _=>Ax (fun _=>?_) (fun q3=>?_)) (fun q3=>?_)) (fun q3=>by simp at q3)))) (fun q=>by simp at q)
 ·have q':=of_decide_eq_true q
  rw [q,show min (sq ax ay px py) (sq bx bY px py)=sq ax ay px py by omega]
  exact A6 rfl
 ·have q2':=of_decide_eq_true q2
  rw [q,decide_eq_true (show sq ax ay bx bY≤alg ax ay bx bY px py from q2'),show min (sq ax ay px py) (sq bx bY px py)=sq bx bY px py by omega]
  exact A6 rfl
 ·have q2':=of_decide_eq_false q2
  rw [q,decide_eq_false (show ¬ sq ax ay bx bY≤alg ax ay bx bY px py from q2')]
  exact A6 rfl
 ·have:=of_decide_eq_false q3;omega
 ·have:=of_decide_eq_false q3;omega
abbrev A3l:PureT:=B9 [cPt,cPt,cPt,cI] [cI] (fun x=>X6 x.1.1 x.1.2.1 x.2.1.1 x.2.1.2.1 x.2.2.1.1 x.2.2.1.2.1 x.2.2.2.1) (fun x=>(LsV x.1.1 x.1.2.1 x.2.1.1 x.2.1.2.1 x.2.2.1.1 x.2.2.1.2.1 x.2.2.2.1,()))
theorem Abm:A5 Tryz.prog 56 A3l:=Bb (Aj Ak puLies (A0 is_lies A2)) 3 (fun x=>A3k x.1.1 x.1.2.1 x.2.1.1 x.2.1.2.1 x.2.2.1.1 x.2.2.1.2.1 x.2.2.2.1) (fun x=>by kernel_rfl) fun _ hok _=>A8z hok
def plSeg:List (Nat×PureT):=(56,A3l)::plLies
theorem puSeg:Ca Tryz.prog plSeg:=puOk_cons is_lies.plain Abm puLies
def LsR (ax ay bx bY px py r:Int):Int×Int:=bif fpt ax ay&&(fpt bx bY&&fpt px py) then bif B7 r 0 8388608 then (0,3) else (LsV ax ay bx bY px py r,0) else (0,2)
abbrev TI2:=Tree (TCTs [cI,cI])
def A3m {α:Type} (x y:Int) (a b:Tree α):Tree α:=bif Ry x y then a else bif Rz x y then a else b
def A3n (ax ay bx bY px py r:Int):TI2:=A3m ax ay (.leaf (0,2,())) (A3m bx bY (.leaf (0,2,())) (A3m px py (.leaf (0,2,())) (
 bif B7 r 0 8388608 then .leaf (0,3,()) else bif X6 ax ay bx bY px py r then .leaf (LsV ax ay bx bY px py r,0,()) else .fail)))
theorem A90 {ax ay bx bY px py r:Int} (a1:inK .i64 ax) (a2:inK .i64 ay) (a3:inK .i64 bx) (a4:inK .i64 bY) (a5:inK .i64 px) (a6:inK .i64 py):(A3n ax ay bx bY px py r).sat (fun y=>y=((LsR ax ay bx bY px py r).1,(LsR ax ay bx bY px py r).2,())):=by
 unfold A3n A3m
 refine Fa a1 a2 (fun k=>?_) (fun k1=>Fa a3 a4 (fun k=>?_) (fun k2=>Fa a5 a6 (fun k=>?_) (fun k3=>Ax (fun k=>?_) (fun k4=>?_))))
 ·refine A6 ?_
  unfold LsR;rw [k];rfl
 ·refine A6 ?_
  unfold LsR;rw [k1,k];rfl
 ·refine A6 ?_
  unfold LsR;rw [k1,k2,k];rfl
 ·refine A6 ?_
  unfold LsR;rw [k1,k2,k3,k];rfl
 ·have:X6 ax ay bx bY px py r=true:=by unfold X6;rw [k1,k2,k3,k4];rfl
  rw [this]
  refine A6 ?_
  unfold LsR;rw [k1,k2,k3,k4];rfl
abbrev Abn:PureT:=B9 [cPt,cPt,cPt,cI] [cI,cI] (fun _=>true) (fun x=>((LsR x.1.1 x.1.2.1 x.2.1.1 x.2.1.2.1 x.2.2.1.1 x.2.2.1.2.1 x.2.2.2.1).1,(LsR x.1.1 x.1.2.1 x.2.1.1 x.2.1.2.1 x.2.2.1.1 x.2.2.1.2.1 x.2.2.2.1).2,()))
theorem An6:A5 Tryz.prog 50 Abn:=Bb (Aj Ak puSeg (A0 is_Lies (A0 is_fits A2))) 3 (fun x=>A3n x.1.1 x.1.2.1 x.2.1.1 x.2.1.2.1 x.2.2.1.1 x.2.2.1.2.1 x.2.2.2.1) (fun x=>by kernel_rfl) fun _ _ hw=>A90 hw.1.1 hw.1.2.1 hw.2.1.1 hw.2.1.2.1 hw.2.2.1.1 hw.2.2.1.2.1
end V
end Go.Proofs.YtlangijnealfjaaGreat
namespace Go.Proofs.YtlangijnealfjaaGreat
open Go.RowKit
namespace V
theorem is_Concat:FnIs Tryz.prog (51,Tryz.f51):=⟨Tryz.func51,by kernel_rfl,by kernel_rfl⟩
theorem is_Grow:FnIs Tryz.prog (109,Tryz.f109):=⟨Tryz.func109,by kernel_rfl,by kernel_rfl⟩
abbrev X7:Type:=List (TCT A1)
def ccA (a:X7):Int:=W64 (0+(a.length:Int))
def ccS (a b:X7):Int:=W64 (ccA a+(b.length:Int))
def ccZ (n:Int):X7:=List.take (Int.toNat 0) (List.replicate (Int.toNat n) (Ap A1))
abbrev Ahp:=Tree (TCTs [.sl A1])
def ccK (z a b:X7):Ahp:=bif Dv z a 24 then bif Dv (z++a) b 24 then .leaf (z++a++b,()) else .fail else .fail
def Ahq (a b:X7):Ahp :=
 bif decide (ccA a<0) then .fail else bif decide (ccS a b<0) then .fail else bif decide (ccS a b<0) then .fail else
 bif decide (W64 (ccS a b-W64 (0-0))>0) then
  bif decide (1≤W64 (ccS a b-W64 (0-0))∧W64 (ccS a b-W64 (0-0))≤65536∧W64 (ccS a b-W64 (0-0))*24≤281474976710656) then
   ccK (ccZ (W64 (ccS a b-W64 (0-0)))) a b
  else .fail
 else ccK [] a b
theorem Abo {z a b:X7} (hz:z=[]) (h:a.length+b.length≤60000):(ccK z a b).sat (fun y=>y=(a++b,())):=by
 subst hz
 unfold ccK
 rw [Ep,Ep,decide_eq_true (by simp only [List.length_nil];omega),decide_eq_true (by simp only [List.nil_append];omega)]
 exact A6 rfl
theorem Ahr {a b:X7} (h:a.length+b.length≤60000):(Ahq a b).sat (fun y=>y=(a++b,())):=by
 unfold Ahq
 have e1:ccA a=(a.length:Int):=by unfold ccA;rw [C6 (by omega) (by omega)];omega
 have e2:ccS a b=(a.length:Int)+b.length:=by unfold ccS;rw [e1,C6 (by omega) (by omega)]
 have e3:W64 (ccS a b-W64 (0-0))=(a.length:Int)+b.length:=by
  rw [show W64 (0-0)=0 from rfl,e2,C6 (by omega) (by omega)];omega
 rw [e1,e2] at *
 rw [e3,decide_eq_false (show ¬ ((a.length:Int)<0) by omega),decide_eq_false (show ¬ ((a.length:Int)+b.length<0) by omega)]
 simp only [cond_false]
 cases h0:decide ((a.length:Int)+b.length>0) with
 | true =>
  have:=of_decide_eq_true h0
  rw [cond_true,decide_eq_true (by omega),cond_true]
  exact Abo rfl h
 | false=>exact Abo rfl h
def cc2 (l:List (List (TCT A1))):Bool:=match l with
 | [a,b]=>decide (a.length+b.length≤60000)
 | _=>false
def ccV (l:List (List (TCT A1))):X7:=match l with
 | [a,b]=>a++b
 | _=>[]
theorem Abp {l:List (List (TCT A1))} (h:cc2 l=true):∃ a b,l=[a,b]∧a.length+b.length≤60000:=by
 match l,h with
 | [a,b],h=>exact ⟨a,b,rfl,of_decide_eq_true h⟩
abbrev Z9:PureT:=B9 [.sl (.sl A1)] [.sl A1] (fun x=>cc2 x.1) (fun x=>(ccV x.1,()))
noncomputable def Abq:Ctx:=Ahi 3 Tryz.prog [] [(51,Tryz.f51),(109,Tryz.f109)]
theorem Ahs:CtxOk Abq:=Qv Ak puOk_nil (A0 is_Concat (A0 is_Grow A2))
noncomputable def A68 (x:TCTs [.sl (.sl A1)]):Ahp:=D7 Abq 10 (.fn 51) (D5 [.sl (.sl A1)] x) Bz 0 (Ge Abq.P [.sl A1])
theorem A91 (x:TCTs [.sl (.sl A1)]):D7 Abq 10 (.fn 51) (D5 [.sl (.sl A1)] x) Bz 0 (Ge Abq.P [.sl A1])=A68 x:=by kernel_rfl
theorem Aht (a b:X7):A68 ([a,b],())=Ahq a b:=by kernel_rfl
def Abr (l:List (List (TCT A1))):Ahp:=match l with
 | [a,b]=>Ahq a b
 | _=>.fail
theorem Abs (x:TCTs [.sl (.sl A1)]) (h:cc2 x.1=true):A68 x=Abr x.1:=by
 obtain ⟨l,⟨⟩⟩:=x
 obtain ⟨a,b,e,_⟩:=Abp h
 have e:l=[a,b]:=e
 subst e
 exact Aht a b
theorem Abt:A5 Tryz.prog 51 Z9:=Asp Ahs 10 A68 (fun x=>Abr x.1) A91 Abs fun x h _=>by
 obtain ⟨a,b,e,hn⟩:=Abp h
 show (Abr x.1).sat (fun y=>y=(ccV x.1,()))
 rw [e]
 exact Ahr hn
end V
end Go.Proofs.YtlangijnealfjaaGreat
