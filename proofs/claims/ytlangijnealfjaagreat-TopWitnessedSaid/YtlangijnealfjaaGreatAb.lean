import Derived.Test.YtlangijnealfjaaGreatBA
namespace Go.Proofs.YtlangijnealfjaaGreat
open Go.RowKit
namespace V
theorem is_cmpU:FnIs Tryz.prog (186,Tryz.f186):=⟨Tryz.func186,by kernel_rfl,by kernel_rfl⟩
theorem is_nanU:FnIs Tryz.prog (229,Tryz.f229):=⟨Tryz.func229,by kernel_rfl,by kernel_rfl⟩
theorem is_cmpI6:FnIs Tryz.prog (53,Tryz.f53):=⟨Tryz.func53,by kernel_rfl,by kernel_rfl⟩
theorem is_nanI6:FnIs Tryz.prog (111,Tryz.f111):=⟨Tryz.func111,by kernel_rfl,by kernel_rfl⟩
theorem is_Or6:FnIs Tryz.prog (185,Tryz.f185):=⟨Tryz.func185,by kernel_rfl,by kernel_rfl⟩
theorem is_Mul64:FnIs Tryz.prog (184,Tryz.f184):=⟨Tryz.func184,by kernel_rfl,by kernel_rfl⟩
theorem is_times:FnIs Tryz.prog (114,Tryz.f114):=⟨Tryz.func114,by kernel_rfl,by kernel_rfl⟩
theorem is_compare:FnIs Tryz.prog (115,Tryz.f115):=⟨Tryz.func115,by kernel_rfl,by kernel_rfl⟩
theorem is_left:FnIs Tryz.prog (113,Tryz.f113):=⟨Tryz.func113,by kernel_rfl,by kernel_rfl⟩
theorem is_lies:FnIs Tryz.prog (56,Tryz.f56):=⟨Tryz.func56,by kernel_rfl,by kernel_rfl⟩
theorem is_Lies:FnIs Tryz.prog (50,Tryz.f50):=⟨Tryz.func50,by kernel_rfl,by kernel_rfl⟩
abbrev cU6:TC:=.i .u64
abbrev TI1:=Tree (TCTs [cI])
def Afd (a b:Int):TI1 :=
 bif a != a then bif b != b then .leaf (0,()) else .leaf (-1,()) else bif b != b then .leaf (1,()) else
 bif decide (a<b) then .leaf (-1,()) else bif decide (a>b) then .leaf (1,()) else .leaf (0,())
theorem A6h (a b:Int):(Afd a b).sat (fun v=>v=((a-b).sign,())):=by
 unfold Afd
 refine Bb (fun h=>by simp at h) (fun _=>Bb (fun h=>by simp at h) (fun _=>Bb (fun h=>?_) (fun h=>Bb (fun k=>?_) (fun k=>?_))))
 ·refine An ?_;rw [S8 (of_decide_eq_true h)]
 ·refine An ?_;rw [S9 (of_decide_eq_true k)]
 ·have h':=of_decide_eq_false h
  have k':=of_decide_eq_false k
  refine An ?_;rw [Se (show a=b by omega)]
abbrev B67:PureT:=Bj [cU6,cU6] [cI] (fun _=>true) (fun x=>((x.1-x.2.1).sign,()))
theorem B68:A6 Tryz.prog 186 B67:=Bl (Ap Ak puOk_nil (fns_cons is_cmpU (fns_cons is_nanU A0))) 3 (fun x=>Afd x.1 x.2.1) (fun x=>by kernel_rfl) fun _ _ _=>A6h _ _
abbrev Amh:PureT:=Bj [cI,cI] [cI] (fun _=>true) (fun x=>((x.1-x.2.1).sign,()))
theorem B69:A6 Tryz.prog 53 Amh:=Bl (Ap Ak puOk_nil (fns_cons is_cmpI6 (fns_cons is_nanI6 A0))) 3 (fun x=>Afd x.1 x.2.1) (fun x=>by kernel_rfl) fun _ _ _=>A6h _ _
theorem Fy {n:Int} (h1:0≤n) (h2:n≤18446744073709551615):IntKind.u64.wrap n=n:=by
 unfold IntKind.wrap;simp [IntKind.bits,IntKind.signed];omega
def A1k (n:Int):Int:=IntKind.u64.wrap ((BitVec.ofInt IntKind.u64.bits n &&& BitVec.ofInt IntKind.u64.bits 4294967295).toNat:Int)
theorem A45 {n:Int} (h1:0≤n) (h2:n≤18446744073709551615):A1k n=n % 4294967296:=by
 obtain ⟨m,rfl⟩:=Int.eq_ofNat_of_zero_le h1
 unfold A1k
 have e1:(BitVec.ofInt IntKind.u64.bits (m:Int)).toNat=m:=by
  show (BitVec.ofInt 64 (m:Int)).toNat=m
  rw [BitVec.toNat_ofInt];omega
 have e2:(BitVec.ofInt IntKind.u64.bits 4294967295).toNat=2 ^ 32-1:=by decide
 rw [BitVec.toNat_and,e1,e2,Nat.and_two_pow_sub_one_eq_mod]
 rw [Fy (by omega) (by omega)]
 omega
def Xe (n:Int):Int:=n.fdiv (2 ^ min (Int.toNat 32) IntKind.u64.bits)
theorem Rj (n:Int):Xe n=n / 4294967296:=by
 unfold Xe
 rw [Int.fdiv_eq_ediv_of_nonneg _ (by decide)]
 rfl
abbrev TU2:=Tree (TCTs [cU6,cU6])
def Ami (a b:Int):TU2 :=
 .leaf (IntKind.u64.wrap (IntKind.u64.wrap (IntKind.u64.wrap (Xe a*Xe b)+Xe (IntKind.u64.wrap (IntKind.u64.wrap (Xe a*A1k b)+Xe (IntKind.u64.wrap (A1k a*A1k b)))))+Xe (IntKind.u64.wrap (A1k (IntKind.u64.wrap (IntKind.u64.wrap (Xe a*A1k b)+Xe (IntKind.u64.wrap (A1k a*A1k b))))+IntKind.u64.wrap (A1k a*Xe b)))),IntKind.u64.wrap (a*b),())
theorem Amj {a b:Int} (a1:0≤a∧a≤18446744073709551615) (b1:0≤b∧b≤18446744073709551615):(Ami a b).sat (fun y=>y=(a*b / 18446744073709551616,IntKind.u64.wrap (a*b),())):=by
 unfold Ami
 obtain ⟨m1,⟨p1,p2,p3,p4,p5,p6,p7,p8⟩,p9,p10⟩:=B9k a b a1.1 b1.1 (by omega) (by omega)
 rw [A45 a1.1 a1.2,A45 b1.1 b1.2,Rj a,Rj b,Fy (n:=a / 4294967296*(b % 4294967296)) (by omega) (by omega),Fy (n:=a % 4294967296*(b % 4294967296)) (by omega) (by omega),Fy (n:=a % 4294967296*(b / 4294967296)) (by omega) (by omega),Fy (n:=a / 4294967296*(b / 4294967296)) (by omega) (by omega)]
 rw [Rj (a % 4294967296*(b % 4294967296))]
 generalize a / 4294967296*(b % 4294967296)=C at *
 generalize a % 4294967296*(b % 4294967296)=B at *
 generalize a % 4294967296*(b / 4294967296)=D at *
 generalize a / 4294967296*(b / 4294967296)=A at *
 rw [Fy (n:=C+B / 4294967296) (by omega) (by omega),A45 (n:=C+B / 4294967296) (by omega) (by omega),Rj (C+B / 4294967296),Fy (n:=(C+B / 4294967296) % 4294967296+D) (by omega) (by omega),Rj]
 rw [Fy (n:=A+(C+B / 4294967296) / 4294967296) (by omega) (by omega),Fy (n:=A+(C+B / 4294967296) / 4294967296+((C+B / 4294967296) % 4294967296+D) / 4294967296) (by omega) (by omega),m1]
 exact An rfl
abbrev Awh:PureT:=Bj [cU6,cU6] [cU6,cU6] (fun _=>true) (fun x=>(x.1*x.2.1 / 18446744073709551616,IntKind.u64.wrap (x.1*x.2.1),()))
theorem Awi:A6 Tryz.prog 184 Awh:=Bl (Ap Ak puOk_nil (fns_cons is_Mul64 A0)) 3 (fun x=>Ami x.1 x.2.1) (fun x=>by kernel_rfl) fun _ _ hw=>Amj hw.1 hw.2.1
abbrev cPr:TC:=.st [cU6,cU6]
abbrev TPr:=Tree (TCTs [cPr])
def Amk (a b:Int):TPr:=.leaf ((IntKind.u64.wrap a*IntKind.u64.wrap b / 18446744073709551616,IntKind.u64.wrap (IntKind.u64.wrap a*IntKind.u64.wrap b),()),())
def nn2 (a b:Int):Bool:=decide (0≤a∧0≤b)
theorem Aml {a b:Int} (k1:inK .i64 a) (k2:inK .i64 b) (hok:nn2 a b=true):(Amk a b).sat (fun y=>y=((a*b / 18446744073709551616,a*b % 18446744073709551616,()),())):=by
 unfold Amk
 obtain ⟨h0,h1⟩:=of_decide_eq_true hok
 have a1 : -9223372036854775808≤a∧a≤9223372036854775807:=k1
 have b1 : -9223372036854775808≤b∧b≤9223372036854775807:=k2
 rw [Fy (n:=a) (by omega) (by omega),Fy (n:=b) (by omega) (by omega)]
 have:IntKind.u64.wrap (a*b)=a*b % 18446744073709551616:=by unfold IntKind.wrap;simp [IntKind.bits,IntKind.signed]
 rw [this]
 exact An rfl
abbrev Afe:PureT:=Bj [cI,cI] [cPr] (fun x=>nn2 x.1 x.2.1) (fun x=>((x.1*x.2.1 / 18446744073709551616,x.1*x.2.1 % 18446744073709551616,()),()))
theorem Awj:A6 Tryz.prog 114 Afe:=Bl (Ap Ak (puOk_cons is_Mul64.plain Awi puOk_nil) (fns_cons is_times A0)) 3 (fun x=>Amk x.1 x.2.1) (fun x=>by kernel_rfl) fun _ hok hw=>Aml hw.1 hw.2.1 hok
def wdV (a b c d:Int):Int:=((18446744073709551616*a+b)-(18446744073709551616*c+d)).sign
def Amm (a b c d:Int):TI1:=bif a==c&&(b==d&&true) then .leaf (0,()) else bif (a-c).sign != 0 then .leaf ((a-c).sign,()) else bif (b-d).sign != 0 then .leaf ((b-d).sign,()) else .leaf (0,())
theorem Amn {a b c d:Int} (a1:0≤a∧a≤18446744073709551615) (b1:0≤b∧b≤18446744073709551615) (c1:0≤c∧c≤18446744073709551615) (d1:0≤d∧d≤18446744073709551615):(Amm a b c d).sat (fun y=>y=(wdV a b c d,())):=by
 unfold Amm wdV
 refine Bb (fun h=>?_) (fun h=>?_)
 ·rw [Bool.and_true,Bool.and_eq_true] at h
  have e1:a=c:=by simpa using h.1
  have e2:b=d:=by simpa using h.2
  refine An ?_
  rw [Se (show 18446744073709551616*a+b=18446744073709551616*c+d by omega)]
 ·rcases Int.lt_trichotomy a c with x | x | x
  ·rw [S8 x,S8 (show 18446744073709551616*a+b<18446744073709551616*c+d by omega)]
   exact An rfl
  ·rw [Se x]
   rcases Int.lt_trichotomy b d with y | y | y
   ·rw [S8 y,S8 (show 18446744073709551616*a+b<18446744073709551616*c+d by omega)]
    exact An rfl
   ·rw [Se y,Se (show 18446744073709551616*a+b=18446744073709551616*c+d by omega)]
    exact An rfl
   ·rw [S9 y,S9 (show 18446744073709551616*c+d<18446744073709551616*a+b by omega)]
    exact An rfl
  ·rw [S9 x,S9 (show 18446744073709551616*c+d<18446744073709551616*a+b by omega)]
   exact An rfl
abbrev A28:PureT:=Bj [cPr,cPr] [cI] (fun _=>true) (fun x=>(wdV x.1.1 x.1.2.1 x.2.1.1 x.2.1.2.1,()))
theorem Ajc:A6 Tryz.prog 115 A28:=Bl (Ap Ak (puOk_cons is_cmpU.plain B68 puOk_nil) (fns_cons is_compare (fns_cons is_Or6 A0))) 3 (fun x=>Amm x.1.1 x.1.2.1 x.2.1.1 x.2.1.2.1) (fun x=>by kernel_rfl) fun _ _ hw=>Amn hw.1.1 hw.1.2.1 hw.2.1.1 hw.2.1.2.1
def lft (ax ay bx bY px py:Int):Int:=(bx-ax)*(py-ay)-(px-ax)*(bY-ay)
def alg (ax ay bx bY px py:Int):Int:=(bx-ax)*(px-ax)+(bY-ay)*(py-ay)
def LsV (ax ay bx bY px py r:Int):Int :=
 bif decide (alg ax ay bx bY px py≤0) then (sq ax ay px py-r*r).sign else
 bif decide (sq ax ay bx bY≤alg ax ay bx bY px py) then (sq bx bY px py-r*r).sign else
 (lft ax ay bx bY px py*lft ax ay bx bY px py-r*r*sq ax ay bx bY).sign
theorem Abm {x y u v:Int} (h1 : -8388608≤x∧x≤8388608) (h2 : -8388608≤y∧y≤8388608) (h3 : -8388608≤u∧u≤8388608) (h4 : -8388608≤v∧v≤8388608) :
  (-70368744177664≤x*y∧x*y≤70368744177664)∧(-70368744177664≤u*v∧u*v≤70368744177664):=by
 have b1:=D6 (a:=x) (b:=y) (A:=8388608) (B:=8388608) (by omega) (by omega) (by omega) (by omega)
 have b2:=D6 (a:=u) (b:=v) (A:=8388608) (B:=8388608) (by omega) (by omega) (by omega) (by omega)
 omega
def Amo (ax ay bx bY px py:Int):Bool:=fpt ax ay&&(fpt bx bY&&fpt px py)
def Amp (ax ay bx bY px py:Int):TI1:=.leaf (IntKind.i64.wrap (IntKind.i64.wrap (IntKind.i64.wrap (bx-ax)*IntKind.i64.wrap (py-ay))-IntKind.i64.wrap (IntKind.i64.wrap (px-ax)*IntKind.i64.wrap (bY-ay))),())
theorem Amq {ax ay bx bY px py:Int} (hok:Amo ax ay bx bY px py=true):(Amp ax ay bx bY px py).sat (fun y=>y=(lft ax ay bx bY px py,())):=by
 unfold Amp
 simp only [Amo,Bool.and_eq_true] at hok
 have c1:=J8 hok.1
 have c2:=J8 hok.2.1
 have c3:=J8 hok.2.2
 have b:=Abm (x:=bx-ax) (y:=py-ay) (u:=px-ax) (v:=bY-ay) (by omega) (by omega) (by omega) (by omega)
 rw [A7 (n:=bx-ax) (by omega) (by omega),A7 (n:=py-ay) (by omega) (by omega),A7 (n:=px-ax) (by omega) (by omega),A7 (n:=bY-ay) (by omega) (by omega),A7 (n:=(bx-ax)*(py-ay)) (by omega) (by omega),A7 (n:=(px-ax)*(bY-ay)) (by omega) (by omega),A7 (n:=(bx-ax)*(py-ay)-(px-ax)*(bY-ay)) (by omega) (by omega)]
 exact An rfl
abbrev Amr:PureT:=Bj [cPt,cPt,cPt] [cI] (fun x=>Amo x.1.1 x.1.2.1 x.2.1.1 x.2.1.2.1 x.2.2.1.1 x.2.2.1.2.1) (fun x=>(lft x.1.1 x.1.2.1 x.2.1.1 x.2.1.2.1 x.2.2.1.1 x.2.2.1.2.1,()))
theorem B6a:A6 Tryz.prog 113 Amr:=Bl (Ap Ak puOk_nil (fns_cons is_left A0)) 2 (fun x=>Amp x.1.1 x.1.2.1 x.2.1.1 x.2.1.2.1 x.2.2.1.1 x.2.2.1.2.1) (fun x=>by kernel_rfl) fun _ hok _=>Amq hok
def plLies:List (Nat×PureT):=[(113,Amr),(54,Z1),(114,Afe),(115,A28),(53,Amh),(108,Ju)]
theorem puLies:D3 Tryz.prog plLies:=puOk_cons is_left.plain B6a (puOk_cons is_square.plain A34 (puOk_cons is_times.plain Awj (puOk_cons is_compare.plain Ajc (puOk_cons is_cmpI6.plain B69 (puOk_cons is_outside.plain Yv puOk_nil)))))
theorem B6b (ax ay bx bY px py:Int):sq bx bY px py=sq ax ay px py+sq ax ay bx bY-2*alg ax ay bx bY px py:=by unfold sq alg;grind
theorem Awk (n:Int):max n (-n)*max n (-n)=n*n:=by
 rcases Int.le_total 0 n with h | h
 ·rw [show max n (-n)=n by omega]
 ·rw [show max n (-n) = -n by omega,Int.neg_mul_neg]
def Ajd (ax ay bx bY px py r:Int):Bool:=fpt ax ay&&(fpt bx bY&&(fpt px py&&!Bd r 0 8388608))
def alW (ax ay bx bY px py:Int):Int:=IntKind.i64.wrap (IntKind.i64.wrap (IntKind.i64.wrap (bx-ax)*IntKind.i64.wrap (px-ax))+IntKind.i64.wrap (IntKind.i64.wrap (bY-ay)*IntKind.i64.wrap (py-ay)))
def mW (ax ay bx bY px py:Int):Int:=max (lft ax ay bx bY px py) (IntKind.i64.wrap (0-lft ax ay bx bY px py))
def Abn (ax ay bx bY px py r:Int):TI1 :=
 bif fpt ax ay&&fpt bx bY then
  bif decide (alW ax ay bx bY px py≤0) then bif fpt ax ay&&fpt px py then bif fpt bx bY&&fpt px py then .leaf ((min (sq ax ay px py) (sq bx bY px py)-IntKind.i64.wrap (r*r)).sign,()) else .fail else .fail
  else bif decide (alW ax ay bx bY px py≥sq ax ay bx bY) then bif fpt ax ay&&fpt px py then bif fpt bx bY&&fpt px py then .leaf ((min (sq ax ay px py) (sq bx bY px py)-IntKind.i64.wrap (r*r)).sign,()) else .fail else .fail
  else bif Amo ax ay bx bY px py then bif nn2 (mW ax ay bx bY px py) (mW ax ay bx bY px py) then bif nn2 (IntKind.i64.wrap (r*r)) (sq ax ay bx bY) then
   .leaf (wdV (mW ax ay bx bY px py*mW ax ay bx bY px py / 18446744073709551616) (mW ax ay bx bY px py*mW ax ay bx bY px py % 18446744073709551616) (IntKind.i64.wrap (r*r)*sq ax ay bx bY / 18446744073709551616) (IntKind.i64.wrap (r*r)*sq ax ay bx bY % 18446744073709551616),())
  else .fail else .fail else .fail
 else .fail
theorem Aje {ax ay bx bY px py r:Int} (hok:Ajd ax ay bx bY px py r=true):(Abn ax ay bx bY px py r).sat (fun y=>y=(LsV ax ay bx bY px py r,())):=by
 simp only [Ajd,Bool.and_eq_true,Bool.not_eq_true'] at hok
 obtain ⟨k1,k2,k3,k4⟩:=hok
 have c1:=J8 k1
 have c2:=J8 k2
 have c3:=J8 k3
 have c4:=A33 k4
 unfold Abn alW mW nn2 wdV Amo
 have b:=Abm (x:=bx-ax) (y:=px-ax) (u:=bY-ay) (v:=py-ay) (by omega) (by omega) (by omega) (by omega)
 have bl:=Abm (x:=bx-ax) (y:=py-ay) (u:=px-ax) (v:=bY-ay) (by omega) (by omega) (by omega) (by omega)
 have hl:lft ax ay bx bY px py=(bx-ax)*(py-ay)-(px-ax)*(bY-ay):=rfl
 have ha:alg ax ay bx bY px py=(bx-ax)*(px-ax)+(bY-ay)*(py-ay):=rfl
 have br:=D6 (a:=r) (b:=r) (A:=8388608) (B:=8388608) (by omega) (by omega) (by omega) (by omega)
 have rn:=Jn r
 have sb:=Ahx k1 k2
 have hs:=B6b ax ay bx bY px py
 rw [A7 (n:=bx-ax) (by omega) (by omega),A7 (n:=px-ax) (by omega) (by omega),A7 (n:=bY-ay) (by omega) (by omega),A7 (n:=py-ay) (by omega) (by omega),A7 (n:=(bx-ax)*(px-ax)) (by omega) (by omega),A7 (n:=(bY-ay)*(py-ay)) (by omega) (by omega),
  A7 (n:=(bx-ax)*(px-ax)+(bY-ay)*(py-ay)) (by omega) (by omega),← ha,A7 (n:=r*r) (by omega) (by omega),A7 (n:=0-lft ax ay bx bY px py) (by omega) (by omega),Int.zero_sub,Awk,Int.mul_ediv_add_emod,Int.mul_ediv_add_emod,k1,k2,k3]
 unfold LsV
 refine Bb (fun _=>Bb (fun q=>?_) (fun q=>Bb (fun q2=>?_) (fun q2=>Bb (fun _=>Bb (fun _=>Bb (fun _=>?_) (fun q3=>?_)) (fun q3=>?_)) (fun q3=>by simp at q3)))) (fun q=>by simp at q)
 ·have q':=of_decide_eq_true q
  rw [q,show min (sq ax ay px py) (sq bx bY px py)=sq ax ay px py by omega]
  exact An rfl
 ·have q2':=of_decide_eq_true q2
  rw [q,decide_eq_true (show sq ax ay bx bY≤alg ax ay bx bY px py from q2'),show min (sq ax ay px py) (sq bx bY px py)=sq bx bY px py by omega]
  exact An rfl
 ·have q2':=of_decide_eq_false q2
  rw [q,decide_eq_false (show ¬ sq ax ay bx bY≤alg ax ay bx bY px py from q2')]
  exact An rfl
 ·have:=of_decide_eq_false q3;omega
 ·have:=of_decide_eq_false q3;omega
abbrev Ams:PureT:=Bj [cPt,cPt,cPt,cI] [cI] (fun x=>Ajd x.1.1 x.1.2.1 x.2.1.1 x.2.1.2.1 x.2.2.1.1 x.2.2.1.2.1 x.2.2.2.1) (fun x=>(LsV x.1.1 x.1.2.1 x.2.1.1 x.2.1.2.1 x.2.2.1.1 x.2.2.1.2.1 x.2.2.2.1,()))
theorem B6c:A6 Tryz.prog 56 Ams:=Bl (Ap Ak puLies (fns_cons is_lies A0)) 3 (fun x=>Abn x.1.1 x.1.2.1 x.2.1.1 x.2.1.2.1 x.2.2.1.1 x.2.2.1.2.1 x.2.2.2.1) (fun x=>by kernel_rfl) fun _ hok _=>Aje hok
def plSeg:List (Nat×PureT):=(56,Ams)::plLies
theorem puSeg:D3 Tryz.prog plSeg:=puOk_cons is_lies.plain B6c puLies
def LsR (ax ay bx bY px py r:Int):Int×Int:=bif fpt ax ay&&(fpt bx bY&&fpt px py) then bif Bd r 0 8388608 then (0,3) else (LsV ax ay bx bY px py r,0) else (0,2)
abbrev TI2:=Tree (TCTs [cI,cI])
def Awl {α:Type} (x y:Int) (a b:Tree α):Tree α:=bif Ua x y then a else bif Uk x y then a else b
def Abo (ax ay bx bY px py r:Int):TI2:=Awl ax ay (.leaf (0,2,())) (Awl bx bY (.leaf (0,2,())) (Awl px py (.leaf (0,2,())) (
 bif Bd r 0 8388608 then .leaf (0,3,()) else bif Ajd ax ay bx bY px py r then .leaf (LsV ax ay bx bY px py r,0,()) else .fail)))
theorem Ajf {ax ay bx bY px py r:Int} (a1:inK .i64 ax) (a2:inK .i64 ay) (a3:inK .i64 bx) (a4:inK .i64 bY) (a5:inK .i64 px) (a6:inK .i64 py):(Abo ax ay bx bY px py r).sat (fun y=>y=((LsR ax ay bx bY px py r).1,(LsR ax ay bx bY px py r).2,())):=by
 unfold Abo Awl
 refine Iq a1 a2 (fun k=>?_) (fun k1=>Iq a3 a4 (fun k=>?_) (fun k2=>Iq a5 a6 (fun k=>?_) (fun k3=>Bb (fun k=>?_) (fun k4=>?_))))
 ·refine An ?_
  unfold LsR;rw [k];rfl
 ·refine An ?_
  unfold LsR;rw [k1,k];rfl
 ·refine An ?_
  unfold LsR;rw [k1,k2,k];rfl
 ·refine An ?_
  unfold LsR;rw [k1,k2,k3,k];rfl
 ·have:Ajd ax ay bx bY px py r=true:=by unfold Ajd;rw [k1,k2,k3,k4];rfl
  rw [this]
  refine An ?_
  unfold LsR;rw [k1,k2,k3,k4];rfl
abbrev Amt:PureT:=Bj [cPt,cPt,cPt,cI] [cI,cI] (fun _=>true) (fun x=>((LsR x.1.1 x.1.2.1 x.2.1.1 x.2.1.2.1 x.2.2.1.1 x.2.2.1.2.1 x.2.2.2.1).1,(LsR x.1.1 x.1.2.1 x.2.1.1 x.2.1.2.1 x.2.2.1.1 x.2.2.1.2.1 x.2.2.2.1).2,()))
theorem B6d:A6 Tryz.prog 50 Amt:=Bl (Ap Ak puSeg (fns_cons is_Lies (fns_cons is_fits A0))) 3 (fun x=>Abo x.1.1 x.1.2.1 x.2.1.1 x.2.1.2.1 x.2.2.1.1 x.2.2.1.2.1 x.2.2.2.1) (fun x=>by kernel_rfl) fun _ _ hw=>Ajf hw.1.1 hw.1.2.1 hw.2.1.1 hw.2.1.2.1 hw.2.2.1.1 hw.2.2.1.2.1
end V
end Go.Proofs.YtlangijnealfjaaGreat
namespace Go.Proofs.YtlangijnealfjaaGreat
open Go.RowKit
namespace V
theorem is_Concat:FnIs Tryz.prog (51,Tryz.f51):=⟨Tryz.func51,by kernel_rfl,by kernel_rfl⟩
theorem is_Grow:FnIs Tryz.prog (109,Tryz.f109):=⟨Tryz.func109,by kernel_rfl,by kernel_rfl⟩
abbrev A46:Type:=List (TCT A4)
def ccA (a:A46):Int:=W64 (0+(a.length:Int))
def ccS (a b:A46):Int:=W64 (ccA a+(b.length:Int))
def ccZ (n:Int):A46:=List.take (Int.toNat 0) (List.replicate (Int.toNat n) (Aq A4))
abbrev Awm:=Tree (TCTs [.sl A4])
def ccK (z a b:A46):Awm:=bif Df z a 24 then bif Df (z++a) b 24 then .leaf (z++a++b,()) else .fail else .fail
def Awn (a b:A46):Awm :=
 bif decide (ccA a<0) then .fail else bif decide (ccS a b<0) then .fail else bif decide (ccS a b<0) then .fail else
 bif decide (W64 (ccS a b-W64 (0-0))>0) then
  bif decide (1≤W64 (ccS a b-W64 (0-0))∧W64 (ccS a b-W64 (0-0))≤65536∧W64 (ccS a b-W64 (0-0))*24≤281474976710656) then
   ccK (ccZ (W64 (ccS a b-W64 (0-0)))) a b
  else .fail
 else ccK [] a b
theorem Amu {z a b:A46} (hz:z=[]) (h:a.length+b.length≤60000):(ccK z a b).sat (fun y=>y=(a++b,())):=by
 subst hz
 unfold ccK
 rw [G2,G2,decide_eq_true (by simp only [List.length_nil];omega),decide_eq_true (by simp only [List.nil_append];omega)]
 exact An rfl
theorem Awo {a b:A46} (h:a.length+b.length≤60000):(Awn a b).sat (fun y=>y=(a++b,())):=by
 unfold Awn
 have e1:ccA a=(a.length:Int):=by unfold ccA;rw [Be (by omega) (by omega)];omega
 have e2:ccS a b=(a.length:Int)+b.length:=by unfold ccS;rw [e1,Be (by omega) (by omega)]
 have e3:W64 (ccS a b-W64 (0-0))=(a.length:Int)+b.length:=by
  rw [show W64 (0-0)=0 from rfl,e2,Be (by omega) (by omega)];omega
 rw [e1,e2] at *
 rw [e3,decide_eq_false (show ¬ ((a.length:Int)<0) by omega),decide_eq_false (show ¬ ((a.length:Int)+b.length<0) by omega)]
 simp only [cond_false]
 cases h0:decide ((a.length:Int)+b.length>0) with
 | true =>
  have:=of_decide_eq_true h0
  rw [cond_true,decide_eq_true (by omega),cond_true]
  exact Amu rfl h
 | false=>exact Amu rfl h
def cc2 (l:List (List (TCT A4))):Bool:=match l with
 | [a,b]=>decide (a.length+b.length≤60000)
 | _=>false
def ccV (l:List (List (TCT A4))):A46:=match l with
 | [a,b]=>a++b
 | _=>[]
theorem Amv {l:List (List (TCT A4))} (h:cc2 l=true):∃ a b,l=[a,b]∧a.length+b.length≤60000:=by
 match l,h with
 | [a,b],h=>exact ⟨a,b,rfl,of_decide_eq_true h⟩
abbrev A6i:PureT:=Bj [.sl (.sl A4)] [.sl A4] (fun x=>cc2 x.1) (fun x=>(ccV x.1,()))
noncomputable def Amw:Ctx:=Ab9 3 Tryz.prog [] [(51,Tryz.f51),(109,Tryz.f109)]
theorem Awp:CtxOk Amw:=L6 Ak puOk_nil (fns_cons is_Concat (fns_cons is_Grow A0))
noncomputable def Aff (x:TCTs [.sl (.sl A4)]):Awm:=D1 Amw 10 (.fn 51) (E7 [.sl (.sl A4)] x) Ce 0 (Hx Amw.P [.sl A4])
theorem Ajg (x:TCTs [.sl (.sl A4)]):D1 Amw 10 (.fn 51) (E7 [.sl (.sl A4)] x) Ce 0 (Hx Amw.P [.sl A4])=Aff x:=by kernel_rfl
theorem Awq (a b:A46):Aff ([a,b],())=Awn a b:=by kernel_rfl
def Amx (l:List (List (TCT A4))):Awm:=match l with
 | [a,b]=>Awn a b
 | _=>.fail
theorem Amy (x:TCTs [.sl (.sl A4)]) (h:cc2 x.1=true):Aff x=Amx x.1:=by
 obtain ⟨l,⟨⟩⟩:=x
 obtain ⟨a,b,e,_⟩:=Amv h
 have e:l=[a,b]:=e
 subst e
 exact Awq a b
theorem Amz:A6 Tryz.prog 51 A6i:=Bga Awp 10 Aff (fun x=>Amx x.1) Ajg Amy fun x h _=>by
 obtain ⟨a,b,e,hn⟩:=Amv h
 show (Amx x.1).sat (fun y=>y=(ccV x.1,()))
 rw [e]
 exact Awo hn
end V
end Go.Proofs.YtlangijnealfjaaGreat
