import Derived.Test.YtcfanlgpkefogaaGreatBA
namespace Go.Proofs.YtcfanlgpkefogaaGreat
open Go.RowKit
namespace V
theorem is_cmpU:FnIs Tryz.prog (164,Tryz.f164):=⟨Tryz.func164,by kernel_rfl,by kernel_rfl⟩
theorem is_nanU:FnIs Tryz.prog (169,Tryz.f169):=⟨Tryz.func169,by kernel_rfl,by kernel_rfl⟩
theorem is_cmpI6:FnIs Tryz.prog (142,Tryz.f142):=⟨Tryz.func142,by kernel_rfl,by kernel_rfl⟩
theorem is_nanI6:FnIs Tryz.prog (161,Tryz.f161):=⟨Tryz.func161,by kernel_rfl,by kernel_rfl⟩
theorem is_Or6:FnIs Tryz.prog (163,Tryz.f163):=⟨Tryz.func163,by kernel_rfl,by kernel_rfl⟩
theorem is_Mul64:FnIs Tryz.prog (162,Tryz.f162):=⟨Tryz.func162,by kernel_rfl,by kernel_rfl⟩
theorem is_times:FnIs Tryz.prog (144,Tryz.f144):=⟨Tryz.func144,by kernel_rfl,by kernel_rfl⟩
theorem is_compare:FnIs Tryz.prog (145,Tryz.f145):=⟨Tryz.func145,by kernel_rfl,by kernel_rfl⟩
theorem is_left:FnIs Tryz.prog (143,Tryz.f143):=⟨Tryz.func143,by kernel_rfl,by kernel_rfl⟩
theorem is_lies:FnIs Tryz.prog (112,Tryz.f112):=⟨Tryz.func112,by kernel_rfl,by kernel_rfl⟩
theorem is_Lies:FnIs Tryz.prog (72,Tryz.f72):=⟨Tryz.func72,by kernel_rfl,by kernel_rfl⟩
abbrev cU6:TC:=.i .u64
abbrev TI1:=Tree (TCTs [cI])
def C8f (a b:Int):TI1 :=
 bif a != a then bif b != b then .leaf (0,()) else .leaf (-1,()) else bif b != b then .leaf (1,()) else
 bif decide (a<b) then .leaf (-1,()) else bif decide (a>b) then .leaf (1,()) else .leaf (0,())
theorem C03 (a b:Int):(C8f a b).sat (fun v=>v=((a-b).sign,())):=by
 unfold C8f
 refine Bb5 (fun h=>by simp at h) (fun _=>Bb5 (fun h=>by simp at h) (fun _=>Bb5 (fun h=>?_) (fun h=>Bb5 (fun k=>?_) (fun k=>?_))))
 ·refine Bam ?_;rw [Bo6 (of_decide_eq_true h)]
 ·refine Bam ?_;rw [Bo7 (of_decide_eq_true k)]
 ·have h':=of_decide_eq_false h
  have k':=of_decide_eq_false k
  refine Bam ?_;rw [Bo8 (show a=b by omega)]
abbrev Cwc:PureT:=Bbe [cU6,cU6] [cI] (fun _=>true) (fun x=>((x.1-x.2.1).sign,()))
theorem Cwd:Bai Tryz.prog 164 Cwc:=Bbg (Baq Bao puOk_nil (fns_cons is_cmpU (fns_cons is_nanU V1))) 3 (fun x=>C8f x.1 x.2.1) (fun x=>by kernel_rfl) fun _ _ _=>C03 _ _
abbrev Cf0:PureT:=Bbe [cI,cI] [cI] (fun _=>true) (fun x=>((x.1-x.2.1).sign,()))
theorem Cwe:Bai Tryz.prog 142 Cf0:=Bbg (Baq Bao puOk_nil (fns_cons is_cmpI6 (fns_cons is_nanI6 V1))) 3 (fun x=>C8f x.1 x.2.1) (fun x=>by kernel_rfl) fun _ _ _=>C03 _ _
theorem Bdy {n:Int} (h1:0≤n) (h2:n≤18446744073709551615):IntKind.u64.wrap n=n:=by
 unfold IntKind.wrap;simp [IntKind.bits,IntKind.signed];omega
def Bvg (n:Int):Int:=IntKind.u64.wrap ((BitVec.ofInt IntKind.u64.bits n &&& BitVec.ofInt IntKind.u64.bits 4294967295).toNat:Int)
theorem Bxy {n:Int} (h1:0≤n) (h2:n≤18446744073709551615):Bvg n=n % 4294967296:=by
 obtain ⟨m,rfl⟩:=Int.eq_ofNat_of_zero_le h1
 unfold Bvg
 have e1:(BitVec.ofInt IntKind.u64.bits (m:Int)).toNat=m:=by
  show (BitVec.ofInt 64 (m:Int)).toNat=m
  rw [BitVec.toNat_ofInt];omega
 have e2:(BitVec.ofInt IntKind.u64.bits 4294967295).toNat=2 ^ 32-1:=by decide
 rw [BitVec.toNat_and,e1,e2,Nat.and_two_pow_sub_one_eq_mod]
 rw [Bdy (by omega) (by omega)]
 omega
def Brw (n:Int):Int:=n.fdiv (2 ^ min (Int.toNat 32) IntKind.u64.bits)
theorem Bng (n:Int):Brw n=n / 4294967296:=by
 unfold Brw
 rw [Int.fdiv_eq_ediv_of_nonneg _ (by decide)]
 rfl
abbrev TU2:=Tree (TCTs [cU6,cU6])
def Cf1 (a b:Int):TU2 :=
 .leaf (IntKind.u64.wrap (IntKind.u64.wrap (IntKind.u64.wrap (Brw a*Brw b)+Brw (IntKind.u64.wrap (IntKind.u64.wrap (Brw a*Bvg b)+Brw (IntKind.u64.wrap (Bvg a*Bvg b)))))+Brw (IntKind.u64.wrap (Bvg (IntKind.u64.wrap (IntKind.u64.wrap (Brw a*Bvg b)+Brw (IntKind.u64.wrap (Bvg a*Bvg b))))+IntKind.u64.wrap (Bvg a*Brw b)))),IntKind.u64.wrap (a*b),())
theorem Cf2 {a b:Int} (a1:0≤a∧a≤18446744073709551615) (b1:0≤b∧b≤18446744073709551615):(Cf1 a b).sat (fun y=>y=(a*b / 18446744073709551616,IntKind.u64.wrap (a*b),())):=by
 unfold Cf1
 obtain ⟨m1,⟨p1,p2,p3,p4,p5,p6,p7,p8⟩,p9,p10⟩:=D01 a b a1.1 b1.1 (by omega) (by omega)
 rw [Bxy a1.1 a1.2,Bxy b1.1 b1.2,Bng a,Bng b,Bdy (n:=a / 4294967296*(b % 4294967296)) (by omega) (by omega),Bdy (n:=a % 4294967296*(b % 4294967296)) (by omega) (by omega),Bdy (n:=a % 4294967296*(b / 4294967296)) (by omega) (by omega),Bdy (n:=a / 4294967296*(b / 4294967296)) (by omega) (by omega)]
 rw [Bng (a % 4294967296*(b % 4294967296))]
 generalize a / 4294967296*(b % 4294967296)=C at *
 generalize a % 4294967296*(b % 4294967296)=B at *
 generalize a % 4294967296*(b / 4294967296)=D at *
 generalize a / 4294967296*(b / 4294967296)=A at *
 rw [Bdy (n:=C+B / 4294967296) (by omega) (by omega),Bxy (n:=C+B / 4294967296) (by omega) (by omega),Bng (C+B / 4294967296),Bdy (n:=(C+B / 4294967296) % 4294967296+D) (by omega) (by omega),Bng]
 rw [Bdy (n:=A+(C+B / 4294967296) / 4294967296) (by omega) (by omega),Bdy (n:=A+(C+B / 4294967296) / 4294967296+((C+B / 4294967296) % 4294967296+D) / 4294967296) (by omega) (by omega),m1]
 exact Bam rfl
abbrev Co0:PureT:=Bbe [cU6,cU6] [cU6,cU6] (fun _=>true) (fun x=>(x.1*x.2.1 / 18446744073709551616,IntKind.u64.wrap (x.1*x.2.1),()))
theorem Co1:Bai Tryz.prog 162 Co0:=Bbg (Baq Bao puOk_nil (fns_cons is_Mul64 V1)) 3 (fun x=>Cf1 x.1 x.2.1) (fun x=>by kernel_rfl) fun _ _ hw=>Cf2 hw.1 hw.2.1
abbrev cPr:TC:=.st [cU6,cU6]
abbrev TPr:=Tree (TCTs [cPr])
def Cf3 (a b:Int):TPr:=.leaf ((IntKind.u64.wrap a*IntKind.u64.wrap b / 18446744073709551616,IntKind.u64.wrap (IntKind.u64.wrap a*IntKind.u64.wrap b),()),())
def nn2 (a b:Int):Bool:=decide (0≤a∧0≤b)
theorem Cf4 {a b:Int} (k1:inK .i64 a) (k2:inK .i64 b) (hok:nn2 a b=true):(Cf3 a b).sat (fun y=>y=((a*b / 18446744073709551616,a*b % 18446744073709551616,()),())):=by
 unfold Cf3
 obtain ⟨h0,h1⟩:=of_decide_eq_true hok
 have a1 : -9223372036854775808≤a∧a≤9223372036854775807:=k1
 have b1 : -9223372036854775808≤b∧b≤9223372036854775807:=k2
 rw [Bdy (n:=a) (by omega) (by omega),Bdy (n:=b) (by omega) (by omega)]
 have:IntKind.u64.wrap (a*b)=a*b % 18446744073709551616:=by unfold IntKind.wrap;simp [IntKind.bits,IntKind.signed]
 rw [this]
 exact Bam rfl
abbrev C8g:PureT:=Bbe [cI,cI] [cPr] (fun x=>nn2 x.1 x.2.1) (fun x=>((x.1*x.2.1 / 18446744073709551616,x.1*x.2.1 % 18446744073709551616,()),()))
theorem Co2:Bai Tryz.prog 144 C8g:=Bbg (Baq Bao (puOk_cons is_Mul64.plain Co1 puOk_nil) (fns_cons is_times V1)) 3 (fun x=>Cf3 x.1 x.2.1) (fun x=>by kernel_rfl) fun _ hok hw=>Cf4 hw.1 hw.2.1 hok
def wdV (a b c d:Int):Int:=((18446744073709551616*a+b)-(18446744073709551616*c+d)).sign
def Cf5 (a b c d:Int):TI1:=bif a==c&&(b==d&&true) then .leaf (0,()) else bif (a-c).sign != 0 then .leaf ((a-c).sign,()) else bif (b-d).sign != 0 then .leaf ((b-d).sign,()) else .leaf (0,())
theorem Cf6 {a b c d:Int} (a1:0≤a∧a≤18446744073709551615) (b1:0≤b∧b≤18446744073709551615) (c1:0≤c∧c≤18446744073709551615) (d1:0≤d∧d≤18446744073709551615):(Cf5 a b c d).sat (fun y=>y=(wdV a b c d,())):=by
 unfold Cf5 wdV
 refine Bb5 (fun h=>?_) (fun h=>?_)
 ·rw [Bool.and_true,Bool.and_eq_true] at h
  have e1:a=c:=by simpa using h.1
  have e2:b=d:=by simpa using h.2
  refine Bam ?_
  rw [Bo8 (show 18446744073709551616*a+b=18446744073709551616*c+d by omega)]
 ·rcases Int.lt_trichotomy a c with x | x | x
  ·rw [Bo6 x,Bo6 (show 18446744073709551616*a+b<18446744073709551616*c+d by omega)]
   exact Bam rfl
  ·rw [Bo8 x]
   rcases Int.lt_trichotomy b d with y | y | y
   ·rw [Bo6 y,Bo6 (show 18446744073709551616*a+b<18446744073709551616*c+d by omega)]
    exact Bam rfl
   ·rw [Bo8 y,Bo8 (show 18446744073709551616*a+b=18446744073709551616*c+d by omega)]
    exact Bam rfl
   ·rw [Bo7 y,Bo7 (show 18446744073709551616*c+d<18446744073709551616*a+b by omega)]
    exact Bam rfl
  ·rw [Bo7 x,Bo7 (show 18446744073709551616*c+d<18446744073709551616*a+b by omega)]
   exact Bam rfl
abbrev Bw3:PureT:=Bbe [cPr,cPr] [cI] (fun _=>true) (fun x=>(wdV x.1.1 x.1.2.1 x.2.1.1 x.2.1.2.1,()))
theorem Cc1:Bai Tryz.prog 145 Bw3:=Bbg (Baq Bao (puOk_cons is_cmpU.plain Cwd puOk_nil) (fns_cons is_compare (fns_cons is_Or6 V1))) 3 (fun x=>Cf5 x.1.1 x.1.2.1 x.2.1.1 x.2.1.2.1) (fun x=>by kernel_rfl) fun _ _ hw=>Cf6 hw.1.1 hw.1.2.1 hw.2.1.1 hw.2.1.2.1
def lft (ax ay bx bY px py:Int):Int:=(bx-ax)*(py-ay)-(px-ax)*(bY-ay)
def alg (ax ay bx bY px py:Int):Int:=(bx-ax)*(px-ax)+(bY-ay)*(py-ay)
def LsV (ax ay bx bY px py r:Int):Int :=
 bif decide (alg ax ay bx bY px py≤0) then (sq ax ay px py-r*r).sign else
 bif decide (sq ax ay bx bY≤alg ax ay bx bY px py) then (sq bx bY px py-r*r).sign else
 (lft ax ay bx bY px py*lft ax ay bx bY px py-r*r*sq ax ay bx bY).sign
theorem C4x {x y u v:Int} (h1 : -8388608≤x∧x≤8388608) (h2 : -8388608≤y∧y≤8388608) (h3 : -8388608≤u∧u≤8388608) (h4 : -8388608≤v∧v≤8388608) :
  (-70368744177664≤x*y∧x*y≤70368744177664)∧(-70368744177664≤u*v∧u*v≤70368744177664):=by
 have b1:=Bb2 (a:=x) (b:=y) (A:=8388608) (B:=8388608) (by omega) (by omega) (by omega) (by omega)
 have b2:=Bb2 (a:=u) (b:=v) (A:=8388608) (B:=8388608) (by omega) (by omega) (by omega) (by omega)
 omega
def Cf7 (ax ay bx bY px py:Int):Bool:=fpt ax ay&&(fpt bx bY&&fpt px py)
def Cf8 (ax ay bx bY px py:Int):TI1:=.leaf (IntKind.i64.wrap (IntKind.i64.wrap (IntKind.i64.wrap (bx-ax)*IntKind.i64.wrap (py-ay))-IntKind.i64.wrap (IntKind.i64.wrap (px-ax)*IntKind.i64.wrap (bY-ay))),())
theorem Cf9 {ax ay bx bY px py:Int} (hok:Cf7 ax ay bx bY px py=true):(Cf8 ax ay bx bY px py).sat (fun y=>y=(lft ax ay bx bY px py,())):=by
 unfold Cf8
 simp only [Cf7,Bool.and_eq_true] at hok
 have c1:=Bgo hok.1
 have c2:=Bgo hok.2.1
 have c3:=Bgo hok.2.2
 have b:=C4x (x:=bx-ax) (y:=py-ay) (u:=px-ax) (v:=bY-ay) (by omega) (by omega) (by omega) (by omega)
 rw [Fp (n:=bx-ax) (by omega) (by omega),Fp (n:=py-ay) (by omega) (by omega),Fp (n:=px-ax) (by omega) (by omega),Fp (n:=bY-ay) (by omega) (by omega),Fp (n:=(bx-ax)*(py-ay)) (by omega) (by omega),Fp (n:=(px-ax)*(bY-ay)) (by omega) (by omega),Fp (n:=(bx-ax)*(py-ay)-(px-ax)*(bY-ay)) (by omega) (by omega)]
 exact Bam rfl
abbrev Cfa:PureT:=Bbe [cPt,cPt,cPt] [cI] (fun x=>Cf7 x.1.1 x.1.2.1 x.2.1.1 x.2.1.2.1 x.2.2.1.1 x.2.2.1.2.1) (fun x=>(lft x.1.1 x.1.2.1 x.2.1.1 x.2.1.2.1 x.2.2.1.1 x.2.2.1.2.1,()))
theorem Cwf:Bai Tryz.prog 143 Cfa:=Bbg (Baq Bao puOk_nil (fns_cons is_left V1)) 2 (fun x=>Cf8 x.1.1 x.1.2.1 x.2.1.1 x.2.1.2.1 x.2.2.1.1 x.2.2.1.2.1) (fun x=>by kernel_rfl) fun _ hok _=>Cf9 hok
def plLies:List (Nat×PureT):=[(143,Cfa),(68,Btf),(144,C8g),(145,Bw3),(142,Cf0),(66,Bh8)]
theorem puLies:Bc7 Tryz.prog plLies:=puOk_cons is_left.plain Cwf (puOk_cons is_square.plain Bx4 (puOk_cons is_times.plain Co2 (puOk_cons is_compare.plain Cc1 (puOk_cons is_cmpI6.plain Cwe (puOk_cons is_outside.plain Bt9 puOk_nil)))))
theorem Cwg (ax ay bx bY px py:Int):sq bx bY px py=sq ax ay px py+sq ax ay bx bY-2*alg ax ay bx bY px py:=by unfold sq alg;grind
theorem Co3 (n:Int):max n (-n)*max n (-n)=n*n:=by
 rcases Int.le_total 0 n with h | h
 ·rw [show max n (-n)=n by omega]
 ·rw [show max n (-n) = -n by omega,Int.neg_mul_neg]
def Cc2 (ax ay bx bY px py r:Int):Bool:=fpt ax ay&&(fpt bx bY&&(fpt px py&&!Bb6 r 0 8388608))
def alW (ax ay bx bY px py:Int):Int:=IntKind.i64.wrap (IntKind.i64.wrap (IntKind.i64.wrap (bx-ax)*IntKind.i64.wrap (px-ax))+IntKind.i64.wrap (IntKind.i64.wrap (bY-ay)*IntKind.i64.wrap (py-ay)))
def mW (ax ay bx bY px py:Int):Int:=max (lft ax ay bx bY px py) (IntKind.i64.wrap (0-lft ax ay bx bY px py))
def C4y (ax ay bx bY px py r:Int):TI1 :=
 bif fpt ax ay&&fpt bx bY then
  bif decide (alW ax ay bx bY px py≤0) then bif fpt ax ay&&fpt px py then bif fpt bx bY&&fpt px py then .leaf ((min (sq ax ay px py) (sq bx bY px py)-IntKind.i64.wrap (r*r)).sign,()) else .fail else .fail
  else bif decide (alW ax ay bx bY px py≥sq ax ay bx bY) then bif fpt ax ay&&fpt px py then bif fpt bx bY&&fpt px py then .leaf ((min (sq ax ay px py) (sq bx bY px py)-IntKind.i64.wrap (r*r)).sign,()) else .fail else .fail
  else bif Cf7 ax ay bx bY px py then bif nn2 (mW ax ay bx bY px py) (mW ax ay bx bY px py) then bif nn2 (IntKind.i64.wrap (r*r)) (sq ax ay bx bY) then
   .leaf (wdV (mW ax ay bx bY px py*mW ax ay bx bY px py / 18446744073709551616) (mW ax ay bx bY px py*mW ax ay bx bY px py % 18446744073709551616) (IntKind.i64.wrap (r*r)*sq ax ay bx bY / 18446744073709551616) (IntKind.i64.wrap (r*r)*sq ax ay bx bY % 18446744073709551616),())
  else .fail else .fail else .fail
 else .fail
theorem Cc3 {ax ay bx bY px py r:Int} (hok:Cc2 ax ay bx bY px py r=true):(C4y ax ay bx bY px py r).sat (fun y=>y=(LsV ax ay bx bY px py r,())):=by
 simp only [Cc2,Bool.and_eq_true,Bool.not_eq_true'] at hok
 obtain ⟨k1,k2,k3,k4⟩:=hok
 have c1:=Bgo k1
 have c2:=Bgo k2
 have c3:=Bgo k3
 have c4:=Bx3 k4
 unfold C4y alW mW nn2 wdV Cf7
 have b:=C4x (x:=bx-ax) (y:=px-ax) (u:=bY-ay) (v:=py-ay) (by omega) (by omega) (by omega) (by omega)
 have bl:=C4x (x:=bx-ax) (y:=py-ay) (u:=px-ax) (v:=bY-ay) (by omega) (by omega) (by omega) (by omega)
 have hl:lft ax ay bx bY px py=(bx-ax)*(py-ay)-(px-ax)*(bY-ay):=rfl
 have ha:alg ax ay bx bY px py=(bx-ax)*(px-ax)+(bY-ay)*(py-ay):=rfl
 have br:=Bb2 (a:=r) (b:=r) (A:=8388608) (B:=8388608) (by omega) (by omega) (by omega) (by omega)
 have rn:=Bfe r
 have sb:=Cb0 k1 k2
 have hs:=Cwg ax ay bx bY px py
 rw [Fp (n:=bx-ax) (by omega) (by omega),Fp (n:=px-ax) (by omega) (by omega),Fp (n:=bY-ay) (by omega) (by omega),Fp (n:=py-ay) (by omega) (by omega),Fp (n:=(bx-ax)*(px-ax)) (by omega) (by omega),Fp (n:=(bY-ay)*(py-ay)) (by omega) (by omega),
  Fp (n:=(bx-ax)*(px-ax)+(bY-ay)*(py-ay)) (by omega) (by omega),← ha,Fp (n:=r*r) (by omega) (by omega),Fp (n:=0-lft ax ay bx bY px py) (by omega) (by omega),Int.zero_sub,Co3,Int.mul_ediv_add_emod,Int.mul_ediv_add_emod,k1,k2,k3]
 unfold LsV
 refine Bb5 (fun _=>Bb5 (fun q=>?_) (fun q=>Bb5 (fun q2=>?_) (fun q2=>Bb5 (fun _=>Bb5 (fun _=>Bb5 (fun _=>?_) (fun q3=>?_)) (fun q3=>?_)) (fun q3=>by simp at q3)))) (fun q=>by simp at q)
 ·have q':=of_decide_eq_true q
  rw [q,show min (sq ax ay px py) (sq bx bY px py)=sq ax ay px py by omega]
  exact Bam rfl
 ·have q2':=of_decide_eq_true q2
  rw [q,decide_eq_true (show sq ax ay bx bY≤alg ax ay bx bY px py from q2'),show min (sq ax ay px py) (sq bx bY px py)=sq bx bY px py by omega]
  exact Bam rfl
 ·have q2':=of_decide_eq_false q2
  rw [q,decide_eq_false (show ¬ sq ax ay bx bY≤alg ax ay bx bY px py from q2')]
  exact Bam rfl
 ·have:=of_decide_eq_false q3;omega
 ·have:=of_decide_eq_false q3;omega
abbrev Cfb:PureT:=Bbe [cPt,cPt,cPt,cI] [cI] (fun x=>Cc2 x.1.1 x.1.2.1 x.2.1.1 x.2.1.2.1 x.2.2.1.1 x.2.2.1.2.1 x.2.2.2.1) (fun x=>(LsV x.1.1 x.1.2.1 x.2.1.1 x.2.1.2.1 x.2.2.1.1 x.2.2.1.2.1 x.2.2.2.1,()))
theorem Cwh:Bai Tryz.prog 112 Cfb:=Bbg (Baq Bao puLies (fns_cons is_lies V1)) 3 (fun x=>C4y x.1.1 x.1.2.1 x.2.1.1 x.2.1.2.1 x.2.2.1.1 x.2.2.1.2.1 x.2.2.2.1) (fun x=>by kernel_rfl) fun _ hok _=>Cc3 hok
def plSeg:List (Nat×PureT):=(112,Cfb)::plLies
theorem puSeg:Bc7 Tryz.prog plSeg:=puOk_cons is_lies.plain Cwh puLies
def LsR (ax ay bx bY px py r:Int):Int×Int:=bif fpt ax ay&&(fpt bx bY&&fpt px py) then bif Bb6 r 0 8388608 then (0,3) else (LsV ax ay bx bY px py r,0) else (0,2)
abbrev TI2:=Tree (TCTs [cI,cI])
def Co4 {α:Type} (x y:Int) (a b:Tree α):Tree α:=bif Bpo x y then a else bif Bpp x y then a else b
def C4z (ax ay bx bY px py r:Int):TI2:=Co4 ax ay (.leaf (0,2,())) (Co4 bx bY (.leaf (0,2,())) (Co4 px py (.leaf (0,2,())) (
 bif Bb6 r 0 8388608 then .leaf (0,3,()) else bif Cc2 ax ay bx bY px py r then .leaf (LsV ax ay bx bY px py r,0,()) else .fail)))
theorem Cc4 {ax ay bx bY px py r:Int} (a1:inK .i64 ax) (a2:inK .i64 ay) (a3:inK .i64 bx) (a4:inK .i64 bY) (a5:inK .i64 px) (a6:inK .i64 py):(C4z ax ay bx bY px py r).sat (fun y=>y=((LsR ax ay bx bY px py r).1,(LsR ax ay bx bY px py r).2,())):=by
 unfold C4z Co4
 refine Bg8 a1 a2 (fun k=>?_) (fun k1=>Bg8 a3 a4 (fun k=>?_) (fun k2=>Bg8 a5 a6 (fun k=>?_) (fun k3=>Bb5 (fun k=>?_) (fun k4=>?_))))
 ·refine Bam ?_
  unfold LsR;rw [k];rfl
 ·refine Bam ?_
  unfold LsR;rw [k1,k];rfl
 ·refine Bam ?_
  unfold LsR;rw [k1,k2,k];rfl
 ·refine Bam ?_
  unfold LsR;rw [k1,k2,k3,k];rfl
 ·have:Cc2 ax ay bx bY px py r=true:=by unfold Cc2;rw [k1,k2,k3,k4];rfl
  rw [this]
  refine Bam ?_
  unfold LsR;rw [k1,k2,k3,k4];rfl
abbrev Cfc:PureT:=Bbe [cPt,cPt,cPt,cI] [cI,cI] (fun _=>true) (fun x=>((LsR x.1.1 x.1.2.1 x.2.1.1 x.2.1.2.1 x.2.2.1.1 x.2.2.1.2.1 x.2.2.2.1).1,(LsR x.1.1 x.1.2.1 x.2.1.1 x.2.1.2.1 x.2.2.1.1 x.2.2.1.2.1 x.2.2.2.1).2,()))
theorem Cwi:Bai Tryz.prog 72 Cfc:=Bbg (Baq Bao puSeg (fns_cons is_Lies (fns_cons is_fits V1))) 3 (fun x=>C4z x.1.1 x.1.2.1 x.2.1.1 x.2.1.2.1 x.2.2.1.1 x.2.2.1.2.1 x.2.2.2.1) (fun x=>by kernel_rfl) fun _ _ hw=>Cc4 hw.1.1 hw.1.2.1 hw.2.1.1 hw.2.1.2.1 hw.2.2.1.1 hw.2.2.1.2.1
end V
end Go.Proofs.YtcfanlgpkefogaaGreat
