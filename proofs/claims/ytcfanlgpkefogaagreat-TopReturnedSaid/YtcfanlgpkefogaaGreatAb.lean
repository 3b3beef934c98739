import Derived.Test.YtcfanlgpkefogaaGreatBA
namespace Go.Proofs.YtcfanlgpkefogaaGreat
open Go.RowKit
namespace V
theorem is_cmpU:FnIs Tryz.prog (164,Tryz.f164):=⟨Tryz.func164,by kernel_rfl,by kernel_rfl⟩
theorem is_nanU:FnIs Tryz.prog (169,Tryz.f169):=⟨Tryz.func169,by kernel_rfl,by kernel_rfl⟩
theorem is_cmpI6:FnIs Tryz.prog (142,Tryz.f142):=⟨Tryz.func142,by kernel_rfl,by kernel_rfl⟩
theorem is_nanI6:FnIs Tryz.prog (161,Tryz.f161):=⟨Tryz.func161,by kernel_rfl,by kernel_rfl⟩
theorem is_Or6:FnIs Tryz.prog (163,Tryz.f163):=⟨Tryz.func163,by kernel_rfl,by kernel_rfl⟩
theorem is_Mul64:FnIs Tryz.prog (162,Tryz.f162):=⟨Tryz.func162,by kernel_rfl,by kernel_rfl⟩
theorem is_times:FnIs Tryz.prog (144,Tryz.f144):=⟨Tryz.func144,by kernel_rfl,by kernel_rfl⟩
theorem is_compare:FnIs Tryz.prog (145,Tryz.f145):=⟨Tryz.func145,by kernel_rfl,by kernel_rfl⟩
theorem is_left:FnIs Tryz.prog (143,Tryz.f143):=⟨Tryz.func143,by kernel_rfl,by kernel_rfl⟩
theorem is_lies:FnIs Tryz.prog (112,Tryz.f112):=⟨Tryz.func112,by kernel_rfl,by kernel_rfl⟩
theorem is_Lies:FnIs Tryz.prog (72,Tryz.f72):=⟨Tryz.func72,by kernel_rfl,by kernel_rfl⟩
abbrev cU6:TC:=.i .u64
abbrev TI1:=Tree (TCTs [cI])
def Ah9 (a b:Int):TI1 :=
 bif a != a then bif b != b then .leaf (0,()) else .leaf (-1,()) else bif b != b then .leaf (1,()) else
 bif decide (a<b) then .leaf (-1,()) else bif decide (a>b) then .leaf (1,()) else .leaf (0,())
theorem A7w (a b:Int):(Ah9 a b).sat (fun v=>v=((a-b).sign,())):=by
 unfold Ah9
 refine Bp (fun h=>by simp at h) (fun _=>Bp (fun h=>by simp at h) (fun _=>Bp (fun h=>?_) (fun h=>Bp (fun k=>?_) (fun k=>?_))))
 ·refine Ak ?_;rw [Tl (of_decide_eq_true h)]
 ·refine Ak ?_;rw [Tm (of_decide_eq_true k)]
 ·have h':=of_decide_eq_false h
  have k':=of_decide_eq_false k
  refine Ak ?_;rw [Tn (show a=b by omega)]
abbrev B8q:PureT:=Bv [cU6,cU6] [cI] (fun _=>true) (fun x=>((x.1-x.2.1).sign,()))
theorem B8r:A7 Tryz.prog 164 B8q:=C0 (B5 Aw puOk_nil (fns_cons is_cmpU (fns_cons is_nanU A0))) 3 (fun x=>Ah9 x.1 x.2.1) (fun x=>by kernel_rfl) fun _ _ _=>A7w _ _
abbrev Aoy:PureT:=Bv [cI,cI] [cI] (fun _=>true) (fun x=>((x.1-x.2.1).sign,()))
theorem B8s:A7 Tryz.prog 142 Aoy:=C0 (B5 Aw puOk_nil (fns_cons is_cmpI6 (fns_cons is_nanI6 A0))) 3 (fun x=>Ah9 x.1 x.2.1) (fun x=>by kernel_rfl) fun _ _ _=>A7w _ _
theorem Ga {n:Int} (h1:0≤n) (h2:n≤18446744073709551615):IntKind.u64.wrap n=n:=by
 unfold IntKind.wrap;simp [IntKind.bits,IntKind.signed];omega
def A2n (n:Int):Int:=IntKind.u64.wrap ((BitVec.ofInt IntKind.u64.bits n &&& BitVec.ofInt IntKind.u64.bits 4294967295).toNat:Int)
theorem A54 {n:Int} (h1:0≤n) (h2:n≤18446744073709551615):A2n n=n % 4294967296:=by
 obtain ⟨m,rfl⟩:=Int.eq_ofNat_of_zero_le h1
 unfold A2n
 have e1:(BitVec.ofInt IntKind.u64.bits (m:Int)).toNat=m:=by
  show (BitVec.ofInt 64 (m:Int)).toNat=m
  rw [BitVec.toNat_ofInt];omega
 have e2:(BitVec.ofInt IntKind.u64.bits 4294967295).toNat=2 ^ 32-1:=by decide
 rw [BitVec.toNat_and,e1,e2,Nat.and_two_pow_sub_one_eq_mod]
 rw [Ga (by omega) (by omega)]
 omega
def Y8 (n:Int):Int:=n.fdiv (2 ^ min (Int.toNat 32) IntKind.u64.bits)
theorem Sp (n:Int):Y8 n=n / 4294967296:=by
 unfold Y8
 rw [Int.fdiv_eq_ediv_of_nonneg _ (by decide)]
 rfl
abbrev TU2:=Tree (TCTs [cU6,cU6])
def Aoz (a b:Int):TU2 :=
 .leaf (IntKind.u64.wrap (IntKind.u64.wrap (IntKind.u64.wrap (Y8 a*Y8 b)+Y8 (IntKind.u64.wrap (IntKind.u64.wrap (Y8 a*A2n b)+Y8 (IntKind.u64.wrap (A2n a*A2n b)))))+Y8 (IntKind.u64.wrap (A2n (IntKind.u64.wrap (IntKind.u64.wrap (Y8 a*A2n b)+Y8 (IntKind.u64.wrap (A2n a*A2n b))))+IntKind.u64.wrap (A2n a*Y8 b)))),IntKind.u64.wrap (a*b),())
theorem Ap0 {a b:Int} (a1:0≤a∧a≤18446744073709551615) (b1:0≤b∧b≤18446744073709551615):(Aoz a b).sat (fun y=>y=(a*b / 18446744073709551616,IntKind.u64.wrap (a*b),())):=by
 unfold Aoz
 obtain ⟨m1,⟨p1,p2,p3,p4,p5,p6,p7,p8⟩,p9,p10⟩:=Bca a b a1.1 b1.1 (by omega) (by omega)
 rw [A54 a1.1 a1.2,A54 b1.1 b1.2,Sp a,Sp b,Ga (n:=a / 4294967296*(b % 4294967296)) (by omega) (by omega),Ga (n:=a % 4294967296*(b % 4294967296)) (by omega) (by omega),Ga (n:=a % 4294967296*(b / 4294967296)) (by omega) (by omega),Ga (n:=a / 4294967296*(b / 4294967296)) (by omega) (by omega)]
 rw [Sp (a % 4294967296*(b % 4294967296))]
 generalize a / 4294967296*(b % 4294967296)=C at *
 generalize a % 4294967296*(b % 4294967296)=B at *
 generalize a % 4294967296*(b / 4294967296)=D at *
 generalize a / 4294967296*(b / 4294967296)=A at *
 rw [Ga (n:=C+B / 4294967296) (by omega) (by omega),A54 (n:=C+B / 4294967296) (by omega) (by omega),Sp (C+B / 4294967296),Ga (n:=(C+B / 4294967296) % 4294967296+D) (by omega) (by omega),Sp]
 rw [Ga (n:=A+(C+B / 4294967296) / 4294967296) (by omega) (by omega),Ga (n:=A+(C+B / 4294967296) / 4294967296+((C+B / 4294967296) % 4294967296+D) / 4294967296) (by omega) (by omega),m1]
 exact Ak rfl
abbrev Az7:PureT:=Bv [cU6,cU6] [cU6,cU6] (fun _=>true) (fun x=>(x.1*x.2.1 / 18446744073709551616,IntKind.u64.wrap (x.1*x.2.1),()))
theorem Az8:A7 Tryz.prog 162 Az7:=C0 (B5 Aw puOk_nil (fns_cons is_Mul64 A0)) 3 (fun x=>Aoz x.1 x.2.1) (fun x=>by kernel_rfl) fun _ _ hw=>Ap0 hw.1 hw.2.1
abbrev cPr:TC:=.st [cU6,cU6]
abbrev TPr:=Tree (TCTs [cPr])
def Ap1 (a b:Int):TPr:=.leaf ((IntKind.u64.wrap a*IntKind.u64.wrap b / 18446744073709551616,IntKind.u64.wrap (IntKind.u64.wrap a*IntKind.u64.wrap b),()),())
def nn2 (a b:Int):Bool:=decide (0≤a∧0≤b)
theorem Ap2 {a b:Int} (k1:inK .i64 a) (k2:inK .i64 b) (hok:nn2 a b=true):(Ap1 a b).sat (fun y=>y=((a*b / 18446744073709551616,a*b % 18446744073709551616,()),())):=by
 unfold Ap1
 obtain ⟨h0,h1⟩:=of_decide_eq_true hok
 have a1 : -9223372036854775808≤a∧a≤9223372036854775807:=k1
 have b1 : -9223372036854775808≤b∧b≤9223372036854775807:=k2
 rw [Ga (n:=a) (by omega) (by omega),Ga (n:=b) (by omega) (by omega)]
 have:IntKind.u64.wrap (a*b)=a*b % 18446744073709551616:=by unfold IntKind.wrap;simp [IntKind.bits,IntKind.signed]
 rw [this]
 exact Ak rfl
abbrev Aha:PureT:=Bv [cI,cI] [cPr] (fun x=>nn2 x.1 x.2.1) (fun x=>((x.1*x.2.1 / 18446744073709551616,x.1*x.2.1 % 18446744073709551616,()),()))
theorem Az9:A7 Tryz.prog 144 Aha:=C0 (B5 Aw (puOk_cons is_Mul64.plain Az8 puOk_nil) (fns_cons is_times A0)) 3 (fun x=>Ap1 x.1 x.2.1) (fun x=>by kernel_rfl) fun _ hok hw=>Ap2 hw.1 hw.2.1 hok
def wdV (a b c d:Int):Int:=((18446744073709551616*a+b)-(18446744073709551616*c+d)).sign
def Ap3 (a b c d:Int):TI1:=bif a==c&&(b==d&&true) then .leaf (0,()) else bif (a-c).sign != 0 then .leaf ((a-c).sign,()) else bif (b-d).sign != 0 then .leaf ((b-d).sign,()) else .leaf (0,())
theorem Ap4 {a b c d:Int} (a1:0≤a∧a≤18446744073709551615) (b1:0≤b∧b≤18446744073709551615) (c1:0≤c∧c≤18446744073709551615) (d1:0≤d∧d≤18446744073709551615):(Ap3 a b c d).sat (fun y=>y=(wdV a b c d,())):=by
 unfold Ap3 wdV
 refine Bp (fun h=>?_) (fun h=>?_)
 ·rw [Bool.and_true,Bool.and_eq_true] at h
  have e1:a=c:=by simpa using h.1
  have e2:b=d:=by simpa using h.2
  refine Ak ?_
  rw [Tn (show 18446744073709551616*a+b=18446744073709551616*c+d by omega)]
 ·rcases Int.lt_trichotomy a c with x | x | x
  ·rw [Tl x,Tl (show 18446744073709551616*a+b<18446744073709551616*c+d by omega)]
   exact Ak rfl
  ·rw [Tn x]
   rcases Int.lt_trichotomy b d with y | y | y
   ·rw [Tl y,Tl (show 18446744073709551616*a+b<18446744073709551616*c+d by omega)]
    exact Ak rfl
   ·rw [Tn y,Tn (show 18446744073709551616*a+b=18446744073709551616*c+d by omega)]
    exact Ak rfl
   ·rw [Tm y,Tm (show 18446744073709551616*c+d<18446744073709551616*a+b by omega)]
    exact Ak rfl
  ·rw [Tm x,Tm (show 18446744073709551616*c+d<18446744073709551616*a+b by omega)]
   exact Ak rfl
abbrev A38:PureT:=Bv [cPr,cPr] [cI] (fun _=>true) (fun x=>(wdV x.1.1 x.1.2.1 x.2.1.1 x.2.1.2.1,()))
theorem Alq:A7 Tryz.prog 145 A38:=C0 (B5 Aw (puOk_cons is_cmpU.plain B8r puOk_nil) (fns_cons is_compare (fns_cons is_Or6 A0))) 3 (fun x=>Ap3 x.1.1 x.1.2.1 x.2.1.1 x.2.1.2.1) (fun x=>by kernel_rfl) fun _ _ hw=>Ap4 hw.1.1 hw.1.2.1 hw.2.1.1 hw.2.1.2.1
def lft (ax ay bx bY px py:Int):Int:=(bx-ax)*(py-ay)-(px-ax)*(bY-ay)
def alg (ax ay bx bY px py:Int):Int:=(bx-ax)*(px-ax)+(bY-ay)*(py-ay)
def LsV (ax ay bx bY px py r:Int):Int :=
 bif decide (alg ax ay bx bY px py≤0) then (sq ax ay px py-r*r).sign else
 bif decide (sq ax ay bx bY≤alg ax ay bx bY px py) then (sq bx bY px py-r*r).sign else
 (lft ax ay bx bY px py*lft ax ay bx bY px py-r*r*sq ax ay bx bY).sign
theorem Ad1 {x y u v:Int} (h1 : -8388608≤x∧x≤8388608) (h2 : -8388608≤y∧y≤8388608) (h3 : -8388608≤u∧u≤8388608) (h4 : -8388608≤v∧v≤8388608) :
  (-70368744177664≤x*y∧x*y≤70368744177664)∧(-70368744177664≤u*v∧u*v≤70368744177664):=by
 have b1:=D7 (a:=x) (b:=y) (A:=8388608) (B:=8388608) (by omega) (by omega) (by omega) (by omega)
 have b2:=D7 (a:=u) (b:=v) (A:=8388608) (B:=8388608) (by omega) (by omega) (by omega) (by omega)
 omega
def Ap5 (ax ay bx bY px py:Int):Bool:=fpt ax ay&&(fpt bx bY&&fpt px py)
def Ap6 (ax ay bx bY px py:Int):TI1:=.leaf (IntKind.i64.wrap (IntKind.i64.wrap (IntKind.i64.wrap (bx-ax)*IntKind.i64.wrap (py-ay))-IntKind.i64.wrap (IntKind.i64.wrap (px-ax)*IntKind.i64.wrap (bY-ay))),())
theorem Ap7 {ax ay bx bY px py:Int} (hok:Ap5 ax ay bx bY px py=true):(Ap6 ax ay bx bY px py).sat (fun y=>y=(lft ax ay bx bY px py,())):=by
 unfold Ap6
 simp only [Ap5,Bool.and_eq_true] at hok
 have c1:=Iv hok.1
 have c2:=Iv hok.2.1
 have c3:=Iv hok.2.2
 have b:=Ad1 (x:=bx-ax) (y:=py-ay) (u:=px-ax) (v:=bY-ay) (by omega) (by omega) (by omega) (by omega)
 rw [A9 (n:=bx-ax) (by omega) (by omega),A9 (n:=py-ay) (by omega) (by omega),A9 (n:=px-ax) (by omega) (by omega),A9 (n:=bY-ay) (by omega) (by omega),A9 (n:=(bx-ax)*(py-ay)) (by omega) (by omega),A9 (n:=(px-ax)*(bY-ay)) (by omega) (by omega),A9 (n:=(bx-ax)*(py-ay)-(px-ax)*(bY-ay)) (by omega) (by omega)]
 exact Ak rfl
abbrev Ap8:PureT:=Bv [cPt,cPt,cPt] [cI] (fun x=>Ap5 x.1.1 x.1.2.1 x.2.1.1 x.2.1.2.1 x.2.2.1.1 x.2.2.1.2.1) (fun x=>(lft x.1.1 x.1.2.1 x.2.1.1 x.2.1.2.1 x.2.2.1.1 x.2.2.1.2.1,()))
theorem B8t:A7 Tryz.prog 143 Ap8:=C0 (B5 Aw puOk_nil (fns_cons is_left A0)) 2 (fun x=>Ap6 x.1.1 x.1.2.1 x.2.1.1 x.2.1.2.1 x.2.2.1.1 x.2.2.1.2.1) (fun x=>by kernel_rfl) fun _ hok _=>Ap7 hok
def plLies:List (Nat×PureT):=[(143,Ap8),(68,A0h),(144,Aha),(145,A38),(142,Aoy),(66,K7)]
theorem puLies:Db Tryz.prog plLies:=puOk_cons is_left.plain B8t (puOk_cons is_square.plain A42 (puOk_cons is_times.plain Az9 (puOk_cons is_compare.plain Alq (puOk_cons is_cmpI6.plain B8s (puOk_cons is_outside.plain A0b puOk_nil)))))
theorem B8u (ax ay bx bY px py:Int):sq bx bY px py=sq ax ay px py+sq ax ay bx bY-2*alg ax ay bx bY px py:=by unfold sq alg;grind
theorem Aza (n:Int):max n (-n)*max n (-n)=n*n:=by
 rcases Int.le_total 0 n with h | h
 ·rw [show max n (-n)=n by omega]
 ·rw [show max n (-n) = -n by omega,Int.neg_mul_neg]
def Alr (ax ay bx bY px py r:Int):Bool:=fpt ax ay&&(fpt bx bY&&(fpt px py&&!Bs r 0 8388608))
def alW (ax ay bx bY px py:Int):Int:=IntKind.i64.wrap (IntKind.i64.wrap (IntKind.i64.wrap (bx-ax)*IntKind.i64.wrap (px-ax))+IntKind.i64.wrap (IntKind.i64.wrap (bY-ay)*IntKind.i64.wrap (py-ay)))
def mW (ax ay bx bY px py:Int):Int:=max (lft ax ay bx bY px py) (IntKind.i64.wrap (0-lft ax ay bx bY px py))
def Ad2 (ax ay bx bY px py r:Int):TI1 :=
 bif fpt ax ay&&fpt bx bY then
  bif decide (alW ax ay bx bY px py≤0) then bif fpt ax ay&&fpt px py then bif fpt bx bY&&fpt px py then .leaf ((min (sq ax ay px py) (sq bx bY px py)-IntKind.i64.wrap (r*r)).sign,()) else .fail else .fail
  else bif decide (alW ax ay bx bY px py≥sq ax ay bx bY) then bif fpt ax ay&&fpt px py then bif fpt bx bY&&fpt px py then .leaf ((min (sq ax ay px py) (sq bx bY px py)-IntKind.i64.wrap (r*r)).sign,()) else .fail else .fail
  else bif Ap5 ax ay bx bY px py then bif nn2 (mW ax ay bx bY px py) (mW ax ay bx bY px py) then bif nn2 (IntKind.i64.wrap (r*r)) (sq ax ay bx bY) then
   .leaf (wdV (mW ax ay bx bY px py*mW ax ay bx bY px py / 18446744073709551616) (mW ax ay bx bY px py*mW ax ay bx bY px py % 18446744073709551616) (IntKind.i64.wrap (r*r)*sq ax ay bx bY / 18446744073709551616) (IntKind.i64.wrap (r*r)*sq ax ay bx bY % 18446744073709551616),())
  else .fail else .fail else .fail
 else .fail
theorem Als {ax ay bx bY px py r:Int} (hok:Alr ax ay bx bY px py r=true):(Ad2 ax ay bx bY px py r).sat (fun y=>y=(LsV ax ay bx bY px py r,())):=by
 simp only [Alr,Bool.and_eq_true,Bool.not_eq_true'] at hok
 obtain ⟨k1,k2,k3,k4⟩:=hok
 have c1:=Iv k1
 have c2:=Iv k2
 have c3:=Iv k3
 have c4:=A41 k4
 unfold Ad2 alW mW nn2 wdV Ap5
 have b:=Ad1 (x:=bx-ax) (y:=px-ax) (u:=bY-ay) (v:=py-ay) (by omega) (by omega) (by omega) (by omega)
 have bl:=Ad1 (x:=bx-ax) (y:=py-ay) (u:=px-ax) (v:=bY-ay) (by omega) (by omega) (by omega) (by omega)
 have hl:lft ax ay bx bY px py=(bx-ax)*(py-ay)-(px-ax)*(bY-ay):=rfl
 have ha:alg ax ay bx bY px py=(bx-ax)*(px-ax)+(bY-ay)*(py-ay):=rfl
 have br:=D7 (a:=r) (b:=r) (A:=8388608) (B:=8388608) (by omega) (by omega) (by omega) (by omega)
 have rn:=I2 r
 have sb:=Akd k1 k2
 have hs:=B8u ax ay bx bY px py
 rw [A9 (n:=bx-ax) (by omega) (by omega),A9 (n:=px-ax) (by omega) (by omega),A9 (n:=bY-ay) (by omega) (by omega),A9 (n:=py-ay) (by omega) (by omega),A9 (n:=(bx-ax)*(px-ax)) (by omega) (by omega),A9 (n:=(bY-ay)*(py-ay)) (by omega) (by omega),
  A9 (n:=(bx-ax)*(px-ax)+(bY-ay)*(py-ay)) (by omega) (by omega),← ha,A9 (n:=r*r) (by omega) (by omega),A9 (n:=0-lft ax ay bx bY px py) (by omega) (by omega),Int.zero_sub,Aza,Int.mul_ediv_add_emod,Int.mul_ediv_add_emod,k1,k2,k3]
 unfold LsV
 refine Bp (fun _=>Bp (fun q=>?_) (fun q=>Bp (fun q2=>?_) (fun q2=>Bp (fun _=>Bp (fun _=>Bp (fun _=>?_) (fun q3=>?_)) (fun q3=>?_)) (fun q3=>by simp at q3)))) (fun q=>by simp at q)
 ·have q':=of_decide_eq_true q
  rw [q,show min (sq ax ay px py) (sq bx bY px py)=sq ax ay px py by omega]
  exact Ak rfl
 ·have q2':=of_decide_eq_true q2
  rw [q,decide_eq_true (show sq ax ay bx bY≤alg ax ay bx bY px py from q2'),show min (sq ax ay px py) (sq bx bY px py)=sq bx bY px py by omega]
  exact Ak rfl
 ·have q2':=of_decide_eq_false q2
  rw [q,decide_eq_false (show ¬ sq ax ay bx bY≤alg ax ay bx bY px py from q2')]
  exact Ak rfl
 ·have:=of_decide_eq_false q3;omega
 ·have:=of_decide_eq_false q3;omega
abbrev Ap9:PureT:=Bv [cPt,cPt,cPt,cI] [cI] (fun x=>Alr x.1.1 x.1.2.1 x.2.1.1 x.2.1.2.1 x.2.2.1.1 x.2.2.1.2.1 x.2.2.2.1) (fun x=>(LsV x.1.1 x.1.2.1 x.2.1.1 x.2.1.2.1 x.2.2.1.1 x.2.2.1.2.1 x.2.2.2.1,()))
theorem B8v:A7 Tryz.prog 112 Ap9:=C0 (B5 Aw puLies (fns_cons is_lies A0)) 3 (fun x=>Ad2 x.1.1 x.1.2.1 x.2.1.1 x.2.1.2.1 x.2.2.1.1 x.2.2.1.2.1 x.2.2.2.1) (fun x=>by kernel_rfl) fun _ hok _=>Als hok
def plSeg:List (Nat×PureT):=(112,Ap9)::plLies
theorem puSeg:Db Tryz.prog plSeg:=puOk_cons is_lies.plain B8v puLies
def LsR (ax ay bx bY px py r:Int):Int×Int:=bif fpt ax ay&&(fpt bx bY&&fpt px py) then bif Bs r 0 8388608 then (0,3) else (LsV ax ay bx bY px py r,0) else (0,2)
abbrev TI2:=Tree (TCTs [cI,cI])
def Azb {α:Type} (x y:Int) (a b:Tree α):Tree α:=bif Vp x y then a else bif Vq x y then a else b
def Ad3 (ax ay bx bY px py r:Int):TI2:=Azb ax ay (.leaf (0,2,())) (Azb bx bY (.leaf (0,2,())) (Azb px py (.leaf (0,2,())) (
 bif Bs r 0 8388608 then .leaf (0,3,()) else bif Alr ax ay bx bY px py r then .leaf (LsV ax ay bx bY px py r,0,()) else .fail)))
theorem Alt {ax ay bx bY px py r:Int} (a1:inK .i64 ax) (a2:inK .i64 ay) (a3:inK .i64 bx) (a4:inK .i64 bY) (a5:inK .i64 px) (a6:inK .i64 py):(Ad3 ax ay bx bY px py r).sat (fun y=>y=((LsR ax ay bx bY px py r).1,(LsR ax ay bx bY px py r).2,())):=by
 unfold Ad3 Azb
 refine J8 a1 a2 (fun k=>?_) (fun k1=>J8 a3 a4 (fun k=>?_) (fun k2=>J8 a5 a6 (fun k=>?_) (fun k3=>Bp (fun k=>?_) (fun k4=>?_))))
 ·refine Ak ?_
  unfold LsR;rw [k];rfl
 ·refine Ak ?_
  unfold LsR;rw [k1,k];rfl
 ·refine Ak ?_
  unfold LsR;rw [k1,k2,k];rfl
 ·refine Ak ?_
  unfold LsR;rw [k1,k2,k3,k];rfl
 ·have:Alr ax ay bx bY px py r=true:=by unfold Alr;rw [k1,k2,k3,k4];rfl
  rw [this]
  refine Ak ?_
  unfold LsR;rw [k1,k2,k3,k4];rfl
abbrev Apa:PureT:=Bv [cPt,cPt,cPt,cI] [cI,cI] (fun _=>true) (fun x=>((LsR x.1.1 x.1.2.1 x.2.1.1 x.2.1.2.1 x.2.2.1.1 x.2.2.1.2.1 x.2.2.2.1).1,(LsR x.1.1 x.1.2.1 x.2.1.1 x.2.1.2.1 x.2.2.1.1 x.2.2.1.2.1 x.2.2.2.1).2,()))
theorem B8w:A7 Tryz.prog 72 Apa:=C0 (B5 Aw puSeg (fns_cons is_Lies (fns_cons is_fits A0))) 3 (fun x=>Ad3 x.1.1 x.1.2.1 x.2.1.1 x.2.1.2.1 x.2.2.1.1 x.2.2.1.2.1 x.2.2.2.1) (fun x=>by kernel_rfl) fun _ _ hw=>Alt hw.1.1 hw.1.2.1 hw.2.1.1 hw.2.1.2.1 hw.2.2.1.1 hw.2.2.1.2.1
end V
end Go.Proofs.YtcfanlgpkefogaaGreat
namespace Go.Proofs.YtcfanlgpkefogaaGreat
open Go.RowKit
namespace V
theorem is_Concat:FnIs Tryz.prog (73,Tryz.f73):=⟨Tryz.func73,by kernel_rfl,by kernel_rfl⟩
theorem is_Grow:FnIs Tryz.prog (113,Tryz.f113):=⟨Tryz.func113,by kernel_rfl,by kernel_rfl⟩
abbrev A55:Type:=List (TCT A2)
def ccA (a:A55):Int:=W64 (0+(a.length:Int))
def ccS (a b:A55):Int:=W64 (ccA a+(b.length:Int))
def ccZ (n:Int):A55:=List.take (Int.toNat 0) (List.replicate (Int.toNat n) (B7 A2))
abbrev Azc:=Tree (TCTs [.sl A2])
def ccK (z a b:A55):Azc:=bif E8 z a 24 then bif E8 (z++a) b 24 then .leaf (z++a++b,()) else .fail else .fail
def Azd (a b:A55):Azc :=
 bif decide (ccA a<0) then .fail else bif decide (ccS a b<0) then .fail else bif decide (ccS a b<0) then .fail else
 bif decide (W64 (ccS a b-W64 (0-0))>0) then
  bif decide (1≤W64 (ccS a b-W64 (0-0))∧W64 (ccS a b-W64 (0-0))≤65536∧W64 (ccS a b-W64 (0-0))*24≤281474976710656) then
   ccK (ccZ (W64 (ccS a b-W64 (0-0)))) a b
  else .fail
 else ccK [] a b
theorem Apb {z a b:A55} (hz:z=[]) (h:a.length+b.length≤60000):(ccK z a b).sat (fun y=>y=(a++b,())):=by
 subst hz
 unfold ccK
 rw [Gd,Gd,decide_eq_true (by simp only [List.length_nil];omega),decide_eq_true (by simp only [List.nil_append];omega)]
 exact Ak rfl
theorem Aze {a b:A55} (h:a.length+b.length≤60000):(Azd a b).sat (fun y=>y=(a++b,())):=by
 unfold Azd
 have e1:ccA a=(a.length:Int):=by unfold ccA;rw [Bi (by omega) (by omega)];omega
 have e2:ccS a b=(a.length:Int)+b.length:=by unfold ccS;rw [e1,Bi (by omega) (by omega)]
 have e3:W64 (ccS a b-W64 (0-0))=(a.length:Int)+b.length:=by
  rw [show W64 (0-0)=0 from rfl,e2,Bi (by omega) (by omega)];omega
 rw [e1,e2] at *
 rw [e3,decide_eq_false (show ¬ ((a.length:Int)<0) by omega),decide_eq_false (show ¬ ((a.length:Int)+b.length<0) by omega)]
 simp only [cond_false]
 cases h0:decide ((a.length:Int)+b.length>0) with
 | true =>
  have:=of_decide_eq_true h0
  rw [cond_true,decide_eq_true (by omega),cond_true]
  exact Apb rfl h
 | false=>exact Apb rfl h
def cc2 (l:List (List (TCT A2))):Bool:=match l with
 | [a,b]=>decide (a.length+b.length≤60000)
 | _=>false
def ccV (l:List (List (TCT A2))):A55:=match l with
 | [a,b]=>a++b
 | _=>[]
theorem Apc {l:List (List (TCT A2))} (h:cc2 l=true):∃ a b,l=[a,b]∧a.length+b.length≤60000:=by
 match l,h with
 | [a,b],h=>exact ⟨a,b,rfl,of_decide_eq_true h⟩
abbrev A7x:PureT:=Bv [.sl (.sl A2)] [.sl A2] (fun x=>cc2 x.1) (fun x=>(ccV x.1,()))
noncomputable def Apd:Ctx:=Aox 3 Tryz.prog [] [(73,Tryz.f73),(113,Tryz.f113)]
theorem Azf:CtxOk Apd:=Uw Aw puOk_nil (fns_cons is_Concat (fns_cons is_Grow A0))
noncomputable def Ahb (x:TCTs [.sl (.sl A2)]):Azc:=Dx Apd 10 (.fn 73) (E7 [.sl (.sl A2)] x) Ce 0 (J3 Apd.P [.sl A2])
theorem Alu (x:TCTs [.sl (.sl A2)]):Dx Apd 10 (.fn 73) (E7 [.sl (.sl A2)] x) Ce 0 (J3 Apd.P [.sl A2])=Ahb x:=by kernel_rfl
theorem Azg (a b:A55):Ahb ([a,b],())=Azd a b:=by kernel_rfl
def Ape (l:List (List (TCT A2))):Azc:=match l with
 | [a,b]=>Azd a b
 | _=>.fail
theorem Apf (x:TCTs [.sl (.sl A2)]) (h:cc2 x.1=true):Ahb x=Ape x.1:=by
 obtain ⟨l,⟨⟩⟩:=x
 obtain ⟨a,b,e,_⟩:=Apc h
 have e:l=[a,b]:=e
 subst e
 exact Azg a b
theorem Apg:A7 Tryz.prog 73 A7x:=Bj9 Azf 10 Ahb (fun x=>Ape x.1) Alu Apf fun x h _=>by
 obtain ⟨a,b,e,hn⟩:=Apc h
 show (Ape x.1).sat (fun y=>y=(ccV x.1,()))
 rw [e]
 exact Aze hn
end V
end Go.Proofs.YtcfanlgpkefogaaGreat
