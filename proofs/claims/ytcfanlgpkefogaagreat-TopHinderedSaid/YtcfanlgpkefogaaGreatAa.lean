import Derived.Test.YtcfanlgpkefogaaGreatBA
namespace Go.Proofs.YtcfanlgpkefogaaGreat
open Go.RowKit
namespace V
theorem is_cmpU:FnIs Tryz.prog (164,Tryz.f164):=⟨Tryz.func164,by kernel_rfl,by kernel_rfl⟩
theorem is_nanU:FnIs Tryz.prog (169,Tryz.f169):=⟨Tryz.func169,by kernel_rfl,by kernel_rfl⟩
theorem is_cmpI6:FnIs Tryz.prog (142,Tryz.f142):=⟨Tryz.func142,by kernel_rfl,by kernel_rfl⟩
theorem is_nanI6:FnIs Tryz.prog (161,Tryz.f161):=⟨Tryz.func161,by kernel_rfl,by kernel_rfl⟩
theorem is_Or6:FnIs Tryz.prog (163,Tryz.f163):=⟨Tryz.func163,by kernel_rfl,by kernel_rfl⟩
theorem is_Mul64:FnIs Tryz.prog (162,Tryz.f162):=⟨Tryz.func162,by kernel_rfl,by kernel_rfl⟩
theorem is_times:FnIs Tryz.prog (144,Tryz.f144):=⟨Tryz.func144,by kernel_rfl,by kernel_rfl⟩
theorem is_compare:FnIs Tryz.prog (145,Tryz.f145):=⟨Tryz.func145,by kernel_rfl,by kernel_rfl⟩
theorem is_left:FnIs Tryz.prog (143,Tryz.f143):=⟨Tryz.func143,by kernel_rfl,by kernel_rfl⟩
theorem is_lies:FnIs Tryz.prog (112,Tryz.f112):=⟨Tryz.func112,by kernel_rfl,by kernel_rfl⟩
theorem is_Lies:FnIs Tryz.prog (72,Tryz.f72):=⟨Tryz.func72,by kernel_rfl,by kernel_rfl⟩
abbrev cU6:TC:=.i .u64
abbrev TI1:=Tree (TCTs [cI])
def Cbz (a b:Int):TI1 :=
 bif a != a then bif b != b then .leaf (0,()) else .leaf (-1,()) else bif b != b then .leaf (1,()) else
 bif decide (a<b) then .leaf (-1,()) else bif decide (a>b) then .leaf (1,()) else .leaf (0,())
theorem C2v (a b:Int):(Cbz a b).sat (fun v=>v=((a-b).sign,())):=by
 unfold Cbz
 refine Bb6 (fun h=>by simp at h) (fun _=>Bb6 (fun h=>by simp at h) (fun _=>Bb6 (fun h=>?_) (fun h=>Bb6 (fun k=>?_) (fun k=>?_))))
 ·refine Baq ?_;rw [Bpa (of_decide_eq_true h)]
 ·refine Baq ?_;rw [Bpb (of_decide_eq_true k)]
 ·have h':=of_decide_eq_false h
  have k':=of_decide_eq_false k
  refine Baq ?_;rw [Bpc (show a=b by omega)]
abbrev D33:PureT:=Bbh [cU6,cU6] [cI] (fun _=>true) (fun x=>((x.1-x.2.1).sign,()))
theorem D34:Bai Tryz.prog 164 D33:=Bbj (Bas Bar puOk_nil (fns_cons is_cmpU (fns_cons is_nanU V1))) 3 (fun x=>Cbz x.1 x.2.1) (fun x=>by kernel_rfl) fun _ _ _=>C2v _ _
abbrev Cjm:PureT:=Bbh [cI,cI] [cI] (fun _=>true) (fun x=>((x.1-x.2.1).sign,()))
theorem D35:Bai Tryz.prog 142 Cjm:=Bbj (Bas Bar puOk_nil (fns_cons is_cmpI6 (fns_cons is_nanI6 V1))) 3 (fun x=>Cbz x.1 x.2.1) (fun x=>by kernel_rfl) fun _ _ _=>C2v _ _
theorem Beh {n:Int} (h1:0≤n) (h2:n≤18446744073709551615):IntKind.u64.wrap n=n:=by
 unfold IntKind.wrap;simp [IntKind.bits,IntKind.signed];omega
def Bxi (n:Int):Int:=IntKind.u64.wrap ((BitVec.ofInt IntKind.u64.bits n &&& BitVec.ofInt IntKind.u64.bits 4294967295).toNat:Int)
theorem C00 {n:Int} (h1:0≤n) (h2:n≤18446744073709551615):Bxi n=n % 4294967296:=by
 obtain ⟨m,rfl⟩:=Int.eq_ofNat_of_zero_le h1
 unfold Bxi
 have e1:(BitVec.ofInt IntKind.u64.bits (m:Int)).toNat=m:=by
  show (BitVec.ofInt 64 (m:Int)).toNat=m
  rw [BitVec.toNat_ofInt];omega
 have e2:(BitVec.ofInt IntKind.u64.bits 4294967295).toNat=2 ^ 32-1:=by decide
 rw [BitVec.toNat_and,e1,e2,Nat.and_two_pow_sub_one_eq_mod]
 rw [Beh (by omega) (by omega)]
 omega
def Btf (n:Int):Int:=n.fdiv (2 ^ min (Int.toNat 32) IntKind.u64.bits)
theorem Boj (n:Int):Btf n=n / 4294967296:=by
 unfold Btf
 rw [Int.fdiv_eq_ediv_of_nonneg _ (by decide)]
 rfl
abbrev TU2:=Tree (TCTs [cU6,cU6])
def Cjn (a b:Int):TU2 :=
 .leaf (IntKind.u64.wrap (IntKind.u64.wrap (IntKind.u64.wrap (Btf a*Btf b)+Btf (IntKind.u64.wrap (IntKind.u64.wrap (Btf a*Bxi b)+Btf (IntKind.u64.wrap (Bxi a*Bxi b)))))+Btf (IntKind.u64.wrap (Bxi (IntKind.u64.wrap (IntKind.u64.wrap (Btf a*Bxi b)+Btf (IntKind.u64.wrap (Bxi a*Bxi b))))+IntKind.u64.wrap (Bxi a*Btf b)))),IntKind.u64.wrap (a*b),())
theorem Cjo {a b:Int} (a1:0≤a∧a≤18446744073709551615) (b1:0≤b∧b≤18446744073709551615):(Cjn a b).sat (fun y=>y=(a*b / 18446744073709551616,IntKind.u64.wrap (a*b),())):=by
 unfold Cjn
 obtain ⟨m1,⟨p1,p2,p3,p4,p5,p6,p7,p8⟩,p9,p10⟩:=D6z a b a1.1 b1.1 (by omega) (by omega)
 rw [C00 a1.1 a1.2,C00 b1.1 b1.2,Boj a,Boj b,Beh (n:=a / 4294967296*(b % 4294967296)) (by omega) (by omega),Beh (n:=a % 4294967296*(b % 4294967296)) (by omega) (by omega),Beh (n:=a % 4294967296*(b / 4294967296)) (by omega) (by omega),Beh (n:=a / 4294967296*(b / 4294967296)) (by omega) (by omega)]
 rw [Boj (a % 4294967296*(b % 4294967296))]
 generalize a / 4294967296*(b % 4294967296)=C at *
 generalize a % 4294967296*(b % 4294967296)=B at *
 generalize a % 4294967296*(b / 4294967296)=D at *
 generalize a / 4294967296*(b / 4294967296)=A at *
 rw [Beh (n:=C+B / 4294967296) (by omega) (by omega),C00 (n:=C+B / 4294967296) (by omega) (by omega),Boj (C+B / 4294967296),Beh (n:=(C+B / 4294967296) % 4294967296+D) (by omega) (by omega),Boj]
 rw [Beh (n:=A+(C+B / 4294967296) / 4294967296) (by omega) (by omega),Beh (n:=A+(C+B / 4294967296) / 4294967296+((C+B / 4294967296) % 4294967296+D) / 4294967296) (by omega) (by omega),m1]
 exact Baq rfl
abbrev Ctj:PureT:=Bbh [cU6,cU6] [cU6,cU6] (fun _=>true) (fun x=>(x.1*x.2.1 / 18446744073709551616,IntKind.u64.wrap (x.1*x.2.1),()))
theorem Ctk:Bai Tryz.prog 162 Ctj:=Bbj (Bas Bar puOk_nil (fns_cons is_Mul64 V1)) 3 (fun x=>Cjn x.1 x.2.1) (fun x=>by kernel_rfl) fun _ _ hw=>Cjo hw.1 hw.2.1
abbrev cPr:TC:=.st [cU6,cU6]
abbrev TPr:=Tree (TCTs [cPr])
def Cjp (a b:Int):TPr:=.leaf ((IntKind.u64.wrap a*IntKind.u64.wrap b / 18446744073709551616,IntKind.u64.wrap (IntKind.u64.wrap a*IntKind.u64.wrap b),()),())
def nn2 (a b:Int):Bool:=decide (0≤a∧0≤b)
theorem Cjq {a b:Int} (k1:inK .i64 a) (k2:inK .i64 b) (hok:nn2 a b=true):(Cjp a b).sat (fun y=>y=((a*b / 18446744073709551616,a*b % 18446744073709551616,()),())):=by
 unfold Cjp
 obtain ⟨h0,h1⟩:=of_decide_eq_true hok
 have a1 : -9223372036854775808≤a∧a≤9223372036854775807:=k1
 have b1 : -9223372036854775808≤b∧b≤9223372036854775807:=k2
 rw [Beh (n:=a) (by omega) (by omega),Beh (n:=b) (by omega) (by omega)]
 have:IntKind.u64.wrap (a*b)=a*b % 18446744073709551616:=by unfold IntKind.wrap;simp [IntKind.bits,IntKind.signed]
 rw [this]
 exact Baq rfl
abbrev Cc0:PureT:=Bbh [cI,cI] [cPr] (fun x=>nn2 x.1 x.2.1) (fun x=>((x.1*x.2.1 / 18446744073709551616,x.1*x.2.1 % 18446744073709551616,()),()))
theorem Ctl:Bai Tryz.prog 144 Cc0:=Bbj (Bas Bar (puOk_cons is_Mul64.plain Ctk puOk_nil) (fns_cons is_times V1)) 3 (fun x=>Cjp x.1 x.2.1) (fun x=>by kernel_rfl) fun _ hok hw=>Cjq hw.1 hw.2.1 hok
def wdV (a b c d:Int):Int:=((18446744073709551616*a+b)-(18446744073709551616*c+d)).sign
def Cjr (a b c d:Int):TI1:=bif a==c&&(b==d&&true) then .leaf (0,()) else bif (a-c).sign != 0 then .leaf ((a-c).sign,()) else bif (b-d).sign != 0 then .leaf ((b-d).sign,()) else .leaf (0,())
theorem Cjs {a b c d:Int} (a1:0≤a∧a≤18446744073709551615) (b1:0≤b∧b≤18446744073709551615) (c1:0≤c∧c≤18446744073709551615) (d1:0≤d∧d≤18446744073709551615):(Cjr a b c d).sat (fun y=>y=(wdV a b c d,())):=by
 unfold Cjr wdV
 refine Bb6 (fun h=>?_) (fun h=>?_)
 ·rw [Bool.and_true,Bool.and_eq_true] at h
  have e1:a=c:=by simpa using h.1
  have e2:b=d:=by simpa using h.2
  refine Baq ?_
  rw [Bpc (show 18446744073709551616*a+b=18446744073709551616*c+d by omega)]
 ·rcases Int.lt_trichotomy a c with x | x | x
  ·rw [Bpa x,Bpa (show 18446744073709551616*a+b<18446744073709551616*c+d by omega)]
   exact Baq rfl
  ·rw [Bpc x]
   rcases Int.lt_trichotomy b d with y | y | y
   ·rw [Bpa y,Bpa (show 18446744073709551616*a+b<18446744073709551616*c+d by omega)]
    exact Baq rfl
   ·rw [Bpc y,Bpc (show 18446744073709551616*a+b=18446744073709551616*c+d by omega)]
    exact Baq rfl
   ·rw [Bpb y,Bpb (show 18446744073709551616*c+d<18446744073709551616*a+b by omega)]
    exact Baq rfl
  ·rw [Bpb x,Bpb (show 18446744073709551616*c+d<18446744073709551616*a+b by omega)]
   exact Baq rfl
abbrev By5:PureT:=Bbh [cPr,cPr] [cI] (fun _=>true) (fun x=>(wdV x.1.1 x.1.2.1 x.2.1.1 x.2.1.2.1,()))
theorem Cgh:Bai Tryz.prog 145 By5:=Bbj (Bas Bar (puOk_cons is_cmpU.plain D34 puOk_nil) (fns_cons is_compare (fns_cons is_Or6 V1))) 3 (fun x=>Cjr x.1.1 x.1.2.1 x.2.1.1 x.2.1.2.1) (fun x=>by kernel_rfl) fun _ _ hw=>Cjs hw.1.1 hw.1.2.1 hw.2.1.1 hw.2.1.2.1
def lft (ax ay bx bY px py:Int):Int:=(bx-ax)*(py-ay)-(px-ax)*(bY-ay)
def alg (ax ay bx bY px py:Int):Int:=(bx-ax)*(px-ax)+(bY-ay)*(py-ay)
def LsV (ax ay bx bY px py r:Int):Int :=
 bif decide (alg ax ay bx bY px py≤0) then (sq ax ay px py-r*r).sign else
 bif decide (sq ax ay bx bY≤alg ax ay bx bY px py) then (sq bx bY px py-r*r).sign else
 (lft ax ay bx bY px py*lft ax ay bx bY px py-r*r*sq ax ay bx bY).sign
theorem C7v {x y u v:Int} (h1 : -8388608≤x∧x≤8388608) (h2 : -8388608≤y∧y≤8388608) (h3 : -8388608≤u∧u≤8388608) (h4 : -8388608≤v∧v≤8388608) :
  (-70368744177664≤x*y∧x*y≤70368744177664)∧(-70368744177664≤u*v∧u*v≤70368744177664):=by
 have b1:=Bb5 (a:=x) (b:=y) (A:=8388608) (B:=8388608) (by omega) (by omega) (by omega) (by omega)
 have b2:=Bb5 (a:=u) (b:=v) (A:=8388608) (B:=8388608) (by omega) (by omega) (by omega) (by omega)
 omega
def Cjt (ax ay bx bY px py:Int):Bool:=fpt ax ay&&(fpt bx bY&&fpt px py)
def Cju (ax ay bx bY px py:Int):TI1:=.leaf (IntKind.i64.wrap (IntKind.i64.wrap (IntKind.i64.wrap (bx-ax)*IntKind.i64.wrap (py-ay))-IntKind.i64.wrap (IntKind.i64.wrap (px-ax)*IntKind.i64.wrap (bY-ay))),())
theorem Cjv {ax ay bx bY px py:Int} (hok:Cjt ax ay bx bY px py=true):(Cju ax ay bx bY px py).sat (fun y=>y=(lft ax ay bx bY px py,())):=by
 unfold Cju
 simp only [Cjt,Bool.and_eq_true] at hok
 have c1:=Bh8 hok.1
 have c2:=Bh8 hok.2.1
 have c3:=Bh8 hok.2.2
 have b:=C7v (x:=bx-ax) (y:=py-ay) (u:=px-ax) (v:=bY-ay) (by omega) (by omega) (by omega) (by omega)
 rw [Fp (n:=bx-ax) (by omega) (by omega),Fp (n:=py-ay) (by omega) (by omega),Fp (n:=px-ax) (by omega) (by omega),Fp (n:=bY-ay) (by omega) (by omega),Fp (n:=(bx-ax)*(py-ay)) (by omega) (by omega),Fp (n:=(px-ax)*(bY-ay)) (by omega) (by omega),Fp (n:=(bx-ax)*(py-ay)-(px-ax)*(bY-ay)) (by omega) (by omega)]
 exact Baq rfl
abbrev Cjw:PureT:=Bbh [cPt,cPt,cPt] [cI] (fun x=>Cjt x.1.1 x.1.2.1 x.2.1.1 x.2.1.2.1 x.2.2.1.1 x.2.2.1.2.1) (fun x=>(lft x.1.1 x.1.2.1 x.2.1.1 x.2.1.2.1 x.2.2.1.1 x.2.2.1.2.1,()))
theorem D36:Bai Tryz.prog 143 Cjw:=Bbj (Bas Bar puOk_nil (fns_cons is_left V1)) 2 (fun x=>Cju x.1.1 x.1.2.1 x.2.1.1 x.2.1.2.1 x.2.2.1.1 x.2.2.1.2.1) (fun x=>by kernel_rfl) fun _ hok _=>Cjv hok
def plLies:List (Nat×PureT):=[(143,Cjw),(68,Bvl),(144,Cc0),(145,By5),(142,Cjm),(66,Bhv)]
theorem puLies:Bcd Tryz.prog plLies:=puOk_cons is_left.plain D36 (puOk_cons is_square.plain Bz6 (puOk_cons is_times.plain Ctl (puOk_cons is_compare.plain Cgh (puOk_cons is_cmpI6.plain D35 (puOk_cons is_outside.plain Bvf puOk_nil)))))
theorem D37 (ax ay bx bY px py:Int):sq bx bY px py=sq ax ay px py+sq ax ay bx bY-2*alg ax ay bx bY px py:=by unfold sq alg;grind
theorem Ctm (n:Int):max n (-n)*max n (-n)=n*n:=by
 rcases Int.le_total 0 n with h | h
 ·rw [show max n (-n)=n by omega]
 ·rw [show max n (-n) = -n by omega,Int.neg_mul_neg]
def Cgi (ax ay bx bY px py r:Int):Bool:=fpt ax ay&&(fpt bx bY&&(fpt px py&&!Bb8 r 0 8388608))
def alW (ax ay bx bY px py:Int):Int:=IntKind.i64.wrap (IntKind.i64.wrap (IntKind.i64.wrap (bx-ax)*IntKind.i64.wrap (px-ax))+IntKind.i64.wrap (IntKind.i64.wrap (bY-ay)*IntKind.i64.wrap (py-ay)))
def mW (ax ay bx bY px py:Int):Int:=max (lft ax ay bx bY px py) (IntKind.i64.wrap (0-lft ax ay bx bY px py))
def C7w (ax ay bx bY px py r:Int):TI1 :=
 bif fpt ax ay&&fpt bx bY then
  bif decide (alW ax ay bx bY px py≤0) then bif fpt ax ay&&fpt px py then bif fpt bx bY&&fpt px py then .leaf ((min (sq ax ay px py) (sq bx bY px py)-IntKind.i64.wrap (r*r)).sign,()) else .fail else .fail
  else bif decide (alW ax ay bx bY px py≥sq ax ay bx bY) then bif fpt ax ay&&fpt px py then bif fpt bx bY&&fpt px py then .leaf ((min (sq ax ay px py) (sq bx bY px py)-IntKind.i64.wrap (r*r)).sign,()) else .fail else .fail
  else bif Cjt ax ay bx bY px py then bif nn2 (mW ax ay bx bY px py) (mW ax ay bx bY px py) then bif nn2 (IntKind.i64.wrap (r*r)) (sq ax ay bx bY) then
   .leaf (wdV (mW ax ay bx bY px py*mW ax ay bx bY px py / 18446744073709551616) (mW ax ay bx bY px py*mW ax ay bx bY px py % 18446744073709551616) (IntKind.i64.wrap (r*r)*sq ax ay bx bY / 18446744073709551616) (IntKind.i64.wrap (r*r)*sq ax ay bx bY % 18446744073709551616),())
  else .fail else .fail else .fail
 else .fail
theorem Cgj {ax ay bx bY px py r:Int} (hok:Cgi ax ay bx bY px py r=true):(C7w ax ay bx bY px py r).sat (fun y=>y=(LsV ax ay bx bY px py r,())):=by
 simp only [Cgi,Bool.and_eq_true,Bool.not_eq_true'] at hok
 obtain ⟨k1,k2,k3,k4⟩:=hok
 have c1:=Bh8 k1
 have c2:=Bh8 k2
 have c3:=Bh8 k3
 have c4:=Bz5 k4
 unfold C7w alW mW nn2 wdV Cjt
 have b:=C7v (x:=bx-ax) (y:=px-ax) (u:=bY-ay) (v:=py-ay) (by omega) (by omega) (by omega) (by omega)
 have bl:=C7v (x:=bx-ax) (y:=py-ay) (u:=px-ax) (v:=bY-ay) (by omega) (by omega) (by omega) (by omega)
 have hl:lft ax ay bx bY px py=(bx-ax)*(py-ay)-(px-ax)*(bY-ay):=rfl
 have ha:alg ax ay bx bY px py=(bx-ax)*(px-ax)+(bY-ay)*(py-ay):=rfl
 have br:=Bb5 (a:=r) (b:=r) (A:=8388608) (B:=8388608) (by omega) (by omega) (by omega) (by omega)
 have rn:=Bg1 r
 have sb:=C67 k1 k2
 have hs:=D37 ax ay bx bY px py
 rw [Fp (n:=bx-ax) (by omega) (by omega),Fp (n:=px-ax) (by omega) (by omega),Fp (n:=bY-ay) (by omega) (by omega),Fp (n:=py-ay) (by omega) (by omega),Fp (n:=(bx-ax)*(px-ax)) (by omega) (by omega),Fp (n:=(bY-ay)*(py-ay)) (by omega) (by omega),
  Fp (n:=(bx-ax)*(px-ax)+(bY-ay)*(py-ay)) (by omega) (by omega),← ha,Fp (n:=r*r) (by omega) (by omega),Fp (n:=0-lft ax ay bx bY px py) (by omega) (by omega),Int.zero_sub,Ctm,Int.mul_ediv_add_emod,Int.mul_ediv_add_emod,k1,k2,k3]
 unfold LsV
 refine Bb6 (fun _=>Bb6 (fun q=>?_) (fun q=>Bb6 (fun q2=>?_) (fun q2=>Bb6 (fun _=>Bb6 (fun _=>Bb6 (fun _=>?_) (fun q3=>?_)) (fun q3=>?_)) (fun q3=>by simp at q3)))) (fun q=>by simp at q)
 ·have q':=of_decide_eq_true q
  rw [q,show min (sq ax ay px py) (sq bx bY px py)=sq ax ay px py by omega]
  exact Baq rfl
 ·have q2':=of_decide_eq_true q2
  rw [q,decide_eq_true (show sq ax ay bx bY≤alg ax ay bx bY px py from q2'),show min (sq ax ay px py) (sq bx bY px py)=sq bx bY px py by omega]
  exact Baq rfl
 ·have q2':=of_decide_eq_false q2
  rw [q,decide_eq_false (show ¬ sq ax ay bx bY≤alg ax ay bx bY px py from q2')]
  exact Baq rfl
 ·have:=of_decide_eq_false q3;omega
 ·have:=of_decide_eq_false q3;omega
abbrev Cjx:PureT:=Bbh [cPt,cPt,cPt,cI] [cI] (fun x=>Cgi x.1.1 x.1.2.1 x.2.1.1 x.2.1.2.1 x.2.2.1.1 x.2.2.1.2.1 x.2.2.2.1) (fun x=>(LsV x.1.1 x.1.2.1 x.2.1.1 x.2.1.2.1 x.2.2.1.1 x.2.2.1.2.1 x.2.2.2.1,()))
theorem D38:Bai Tryz.prog 112 Cjx:=Bbj (Bas Bar puLies (fns_cons is_lies V1)) 3 (fun x=>C7w x.1.1 x.1.2.1 x.2.1.1 x.2.1.2.1 x.2.2.1.1 x.2.2.1.2.1 x.2.2.2.1) (fun x=>by kernel_rfl) fun _ hok _=>Cgj hok
def plSeg:List (Nat×PureT):=(112,Cjx)::plLies
theorem puSeg:Bcd Tryz.prog plSeg:=puOk_cons is_lies.plain D38 puLies
def LsR (ax ay bx bY px py r:Int):Int×Int:=bif fpt ax ay&&(fpt bx bY&&fpt px py) then bif Bb8 r 0 8388608 then (0,3) else (LsV ax ay bx bY px py r,0) else (0,2)
abbrev TI2:=Tree (TCTs [cI,cI])
def Ctn {α:Type} (x y:Int) (a b:Tree α):Tree α:=bif Bqy x y then a else bif Bqz x y then a else b
def C7x (ax ay bx bY px py r:Int):TI2:=Ctn ax ay (.leaf (0,2,())) (Ctn bx bY (.leaf (0,2,())) (Ctn px py (.leaf (0,2,())) (
 bif Bb8 r 0 8388608 then .leaf (0,3,()) else bif Cgi ax ay bx bY px py r then .leaf (LsV ax ay bx bY px py r,0,()) else .fail)))
theorem Cgk {ax ay bx bY px py r:Int} (a1:inK .i64 ax) (a2:inK .i64 ay) (a3:inK .i64 bx) (a4:inK .i64 bY) (a5:inK .i64 px) (a6:inK .i64 py):(C7x ax ay bx bY px py r).sat (fun y=>y=((LsR ax ay bx bY px py r).1,(LsR ax ay bx bY px py r).2,())):=by
 unfold C7x Ctn
 refine Bgu a1 a2 (fun k=>?_) (fun k1=>Bgu a3 a4 (fun k=>?_) (fun k2=>Bgu a5 a6 (fun k=>?_) (fun k3=>Bb6 (fun k=>?_) (fun k4=>?_))))
 ·refine Baq ?_
  unfold LsR;rw [k];rfl
 ·refine Baq ?_
  unfold LsR;rw [k1,k];rfl
 ·refine Baq ?_
  unfold LsR;rw [k1,k2,k];rfl
 ·refine Baq ?_
  unfold LsR;rw [k1,k2,k3,k];rfl
 ·have:Cgi ax ay bx bY px py r=true:=by unfold Cgi;rw [k1,k2,k3,k4];rfl
  rw [this]
  refine Baq ?_
  unfold LsR;rw [k1,k2,k3,k4];rfl
abbrev Cjy:PureT:=Bbh [cPt,cPt,cPt,cI] [cI,cI] (fun _=>true) (fun x=>((LsR x.1.1 x.1.2.1 x.2.1.1 x.2.1.2.1 x.2.2.1.1 x.2.2.1.2.1 x.2.2.2.1).1,(LsR x.1.1 x.1.2.1 x.2.1.1 x.2.1.2.1 x.2.2.1.1 x.2.2.1.2.1 x.2.2.2.1).2,()))
theorem D39:Bai Tryz.prog 72 Cjy:=Bbj (Bas Bar puSeg (fns_cons is_Lies (fns_cons is_fits V1))) 3 (fun x=>C7x x.1.1 x.1.2.1 x.2.1.1 x.2.1.2.1 x.2.2.1.1 x.2.2.1.2.1 x.2.2.2.1) (fun x=>by kernel_rfl) fun _ _ hw=>Cgk hw.1.1 hw.1.2.1 hw.2.1.1 hw.2.1.2.1 hw.2.2.1.1 hw.2.2.1.2.1
end V
end Go.Proofs.YtcfanlgpkefogaaGreat
