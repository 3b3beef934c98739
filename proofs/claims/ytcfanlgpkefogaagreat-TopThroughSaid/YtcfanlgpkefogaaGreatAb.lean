import Derived.Test.YtcfanlgpkefogaaGreatBA
namespace Go.Proofs.YtcfanlgpkefogaaGreat
open Go.RowKit
namespace V
theorem is_cmpU:FnIs Tryz.prog (164,Tryz.f164):=⟨Tryz.func164,by kernel_rfl,by kernel_rfl⟩
theorem is_nanU:FnIs Tryz.prog (169,Tryz.f169):=⟨Tryz.func169,by kernel_rfl,by kernel_rfl⟩
theorem is_cmpI6:FnIs Tryz.prog (142,Tryz.f142):=⟨Tryz.func142,by kernel_rfl,by kernel_rfl⟩
theorem is_nanI6:FnIs Tryz.prog (161,Tryz.f161):=⟨Tryz.func161,by kernel_rfl,by kernel_rfl⟩
theorem is_Or6:FnIs Tryz.prog (163,Tryz.f163):=⟨Tryz.func163,by kernel_rfl,by kernel_rfl⟩
theorem is_Mul64:FnIs Tryz.prog (162,Tryz.f162):=⟨Tryz.func162,by kernel_rfl,by kernel_rfl⟩
theorem is_times:FnIs Tryz.prog (144,Tryz.f144):=⟨Tryz.func144,by kernel_rfl,by kernel_rfl⟩
theorem is_compare:FnIs Tryz.prog (145,Tryz.f145):=⟨Tryz.func145,by kernel_rfl,by kernel_rfl⟩
theorem is_left:FnIs Tryz.prog (143,Tryz.f143):=⟨Tryz.func143,by kernel_rfl,by kernel_rfl⟩
theorem is_lies:FnIs Tryz.prog (112,Tryz.f112):=⟨Tryz.func112,by kernel_rfl,by kernel_rfl⟩
theorem is_Lies:FnIs Tryz.prog (72,Tryz.f72):=⟨Tryz.func72,by kernel_rfl,by kernel_rfl⟩
abbrev cU6:TC:=.i .u64
abbrev TI1:=Tree (TCTs [cI])
def Agf (a b:Int):TI1 :=
 bif a != a then bif b != b then .leaf (0,()) else .leaf (-1,()) else bif b != b then .leaf (1,()) else
 bif decide (a<b) then .leaf (-1,()) else bif decide (a>b) then .leaf (1,()) else .leaf (0,())
theorem A7e (a b:Int):(Agf a b).sat (fun v=>v=((a-b).sign,())):=by
 unfold Agf
 refine Bs (fun h=>by simp at h) (fun _=>Bs (fun h=>by simp at h) (fun _=>Bs (fun h=>?_) (fun h=>Bs (fun k=>?_) (fun k=>?_))))
 ·refine As ?_;rw [Tf (of_decide_eq_true h)]
 ·refine As ?_;rw [Tg (of_decide_eq_true k)]
 ·have h':=of_decide_eq_false h
  have k':=of_decide_eq_false k
  refine As ?_;rw [Ti (show a=b by omega)]
abbrev B7w:PureT:=Bz [cU6,cU6] [cI] (fun _=>true) (fun x=>((x.1-x.2.1).sign,()))
theorem B7x:A5 Tryz.prog 164 B7w:=C5 (B6 Aw puOk_nil (fns_cons is_cmpU (fns_cons is_nanU A1))) 3 (fun x=>Agf x.1 x.2.1) (fun x=>by kernel_rfl) fun _ _ _=>A7e _ _
abbrev Ao0:PureT:=Bz [cI,cI] [cI] (fun _=>true) (fun x=>((x.1-x.2.1).sign,()))
theorem B7y:A5 Tryz.prog 142 Ao0:=C5 (B6 Aw puOk_nil (fns_cons is_cmpI6 (fns_cons is_nanI6 A1))) 3 (fun x=>Agf x.1 x.2.1) (fun x=>by kernel_rfl) fun _ _ _=>A7e _ _
theorem Gd {n:Int} (h1:0≤n) (h2:n≤18446744073709551615):IntKind.u64.wrap n=n:=by
 unfold IntKind.wrap;simp [IntKind.bits,IntKind.signed];omega
def A21 (n:Int):Int:=IntKind.u64.wrap ((BitVec.ofInt IntKind.u64.bits n &&& BitVec.ofInt IntKind.u64.bits 4294967295).toNat:Int)
theorem A4t {n:Int} (h1:0≤n) (h2:n≤18446744073709551615):A21 n=n % 4294967296:=by
 obtain ⟨m,rfl⟩:=Int.eq_ofNat_of_zero_le h1
 unfold A21
 have e1:(BitVec.ofInt IntKind.u64.bits (m:Int)).toNat=m:=by
  show (BitVec.ofInt 64 (m:Int)).toNat=m
  rw [BitVec.toNat_ofInt];omega
 have e2:(BitVec.ofInt IntKind.u64.bits 4294967295).toNat=2 ^ 32-1:=by decide
 rw [BitVec.toNat_and,e1,e2,Nat.and_two_pow_sub_one_eq_mod]
 rw [Gd (by omega) (by omega)]
 omega
def Y5 (n:Int):Int:=n.fdiv (2 ^ min (Int.toNat 32) IntKind.u64.bits)
theorem Si (n:Int):Y5 n=n / 4294967296:=by
 unfold Y5
 rw [Int.fdiv_eq_ediv_of_nonneg _ (by decide)]
 rfl
abbrev TU2:=Tree (TCTs [cU6,cU6])
def Ao1 (a b:Int):TU2 :=
 .leaf (IntKind.u64.wrap (IntKind.u64.wrap (IntKind.u64.wrap (Y5 a*Y5 b)+Y5 (IntKind.u64.wrap (IntKind.u64.wrap (Y5 a*A21 b)+Y5 (IntKind.u64.wrap (A21 a*A21 b)))))+Y5 (IntKind.u64.wrap (A21 (IntKind.u64.wrap (IntKind.u64.wrap (Y5 a*A21 b)+Y5 (IntKind.u64.wrap (A21 a*A21 b))))+IntKind.u64.wrap (A21 a*Y5 b)))),IntKind.u64.wrap (a*b),())
theorem Ao2 {a b:Int} (a1:0≤a∧a≤18446744073709551615) (b1:0≤b∧b≤18446744073709551615):(Ao1 a b).sat (fun y=>y=(a*b / 18446744073709551616,IntKind.u64.wrap (a*b),())):=by
 unfold Ao1
 obtain ⟨m1,⟨p1,p2,p3,p4,p5,p6,p7,p8⟩,p9,p10⟩:=Bc6 a b a1.1 b1.1 (by omega) (by omega)
 rw [A4t a1.1 a1.2,A4t b1.1 b1.2,Si a,Si b,Gd (n:=a / 4294967296*(b % 4294967296)) (by omega) (by omega),Gd (n:=a % 4294967296*(b % 4294967296)) (by omega) (by omega),Gd (n:=a % 4294967296*(b / 4294967296)) (by omega) (by omega),Gd (n:=a / 4294967296*(b / 4294967296)) (by omega) (by omega)]
 rw [Si (a % 4294967296*(b % 4294967296))]
 generalize a / 4294967296*(b % 4294967296)=C at *
 generalize a % 4294967296*(b % 4294967296)=B at *
 generalize a % 4294967296*(b / 4294967296)=D at *
 generalize a / 4294967296*(b / 4294967296)=A at *
 rw [Gd (n:=C+B / 4294967296) (by omega) (by omega),A4t (n:=C+B / 4294967296) (by omega) (by omega),Si (C+B / 4294967296),Gd (n:=(C+B / 4294967296) % 4294967296+D) (by omega) (by omega),Si]
 rw [Gd (n:=A+(C+B / 4294967296) / 4294967296) (by omega) (by omega),Gd (n:=A+(C+B / 4294967296) / 4294967296+((C+B / 4294967296) % 4294967296+D) / 4294967296) (by omega) (by omega),m1]
 exact As rfl
abbrev Ay9:PureT:=Bz [cU6,cU6] [cU6,cU6] (fun _=>true) (fun x=>(x.1*x.2.1 / 18446744073709551616,IntKind.u64.wrap (x.1*x.2.1),()))
theorem Aya:A5 Tryz.prog 162 Ay9:=C5 (B6 Aw puOk_nil (fns_cons is_Mul64 A1)) 3 (fun x=>Ao1 x.1 x.2.1) (fun x=>by kernel_rfl) fun _ _ hw=>Ao2 hw.1 hw.2.1
abbrev cPr:TC:=.st [cU6,cU6]
abbrev TPr:=Tree (TCTs [cPr])
def Ao3 (a b:Int):TPr:=.leaf ((IntKind.u64.wrap a*IntKind.u64.wrap b / 18446744073709551616,IntKind.u64.wrap (IntKind.u64.wrap a*IntKind.u64.wrap b),()),())
def nn2 (a b:Int):Bool:=decide (0≤a∧0≤b)
theorem Ao4 {a b:Int} (k1:inK .i64 a) (k2:inK .i64 b) (hok:nn2 a b=true):(Ao3 a b).sat (fun y=>y=((a*b / 18446744073709551616,a*b % 18446744073709551616,()),())):=by
 unfold Ao3
 obtain ⟨h0,h1⟩:=of_decide_eq_true hok
 have a1 : -9223372036854775808≤a∧a≤9223372036854775807:=k1
 have b1 : -9223372036854775808≤b∧b≤9223372036854775807:=k2
 rw [Gd (n:=a) (by omega) (by omega),Gd (n:=b) (by omega) (by omega)]
 have:IntKind.u64.wrap (a*b)=a*b % 18446744073709551616:=by unfold IntKind.wrap;simp [IntKind.bits,IntKind.signed]
 rw [this]
 exact As rfl
abbrev Agg:PureT:=Bz [cI,cI] [cPr] (fun x=>nn2 x.1 x.2.1) (fun x=>((x.1*x.2.1 / 18446744073709551616,x.1*x.2.1 % 18446744073709551616,()),()))
theorem Ayb:A5 Tryz.prog 144 Agg:=C5 (B6 Aw (puOk_cons is_Mul64.plain Aya puOk_nil) (fns_cons is_times A1)) 3 (fun x=>Ao3 x.1 x.2.1) (fun x=>by kernel_rfl) fun _ hok hw=>Ao4 hw.1 hw.2.1 hok
def wdV (a b c d:Int):Int:=((18446744073709551616*a+b)-(18446744073709551616*c+d)).sign
def Ao5 (a b c d:Int):TI1:=bif a==c&&(b==d&&true) then .leaf (0,()) else bif (a-c).sign != 0 then .leaf ((a-c).sign,()) else bif (b-d).sign != 0 then .leaf ((b-d).sign,()) else .leaf (0,())
theorem Ao6 {a b c d:Int} (a1:0≤a∧a≤18446744073709551615) (b1:0≤b∧b≤18446744073709551615) (c1:0≤c∧c≤18446744073709551615) (d1:0≤d∧d≤18446744073709551615):(Ao5 a b c d).sat (fun y=>y=(wdV a b c d,())):=by
 unfold Ao5 wdV
 refine Bs (fun h=>?_) (fun h=>?_)
 ·rw [Bool.and_true,Bool.and_eq_true] at h
  have e1:a=c:=by simpa using h.1
  have e2:b=d:=by simpa using h.2
  refine As ?_
  rw [Ti (show 18446744073709551616*a+b=18446744073709551616*c+d by omega)]
 ·rcases Int.lt_trichotomy a c with x | x | x
  ·rw [Tf x,Tf (show 18446744073709551616*a+b<18446744073709551616*c+d by omega)]
   exact As rfl
  ·rw [Ti x]
   rcases Int.lt_trichotomy b d with y | y | y
   ·rw [Tf y,Tf (show 18446744073709551616*a+b<18446744073709551616*c+d by omega)]
    exact As rfl
   ·rw [Ti y,Ti (show 18446744073709551616*a+b=18446744073709551616*c+d by omega)]
    exact As rfl
   ·rw [Tg y,Tg (show 18446744073709551616*c+d<18446744073709551616*a+b by omega)]
    exact As rfl
  ·rw [Tg x,Tg (show 18446744073709551616*c+d<18446744073709551616*a+b by omega)]
   exact As rfl
abbrev A2t:PureT:=Bz [cPr,cPr] [cI] (fun _=>true) (fun x=>(wdV x.1.1 x.1.2.1 x.2.1.1 x.2.1.2.1,()))
theorem Akr:A5 Tryz.prog 145 A2t:=C5 (B6 Aw (puOk_cons is_cmpU.plain B7x puOk_nil) (fns_cons is_compare (fns_cons is_Or6 A1))) 3 (fun x=>Ao5 x.1.1 x.1.2.1 x.2.1.1 x.2.1.2.1) (fun x=>by kernel_rfl) fun _ _ hw=>Ao6 hw.1.1 hw.1.2.1 hw.2.1.1 hw.2.1.2.1
def lft (ax ay bx bY px py:Int):Int:=(bx-ax)*(py-ay)-(px-ax)*(bY-ay)
def alg (ax ay bx bY px py:Int):Int:=(bx-ax)*(px-ax)+(bY-ay)*(py-ay)
def LsV (ax ay bx bY px py r:Int):Int :=
 bif decide (alg ax ay bx bY px py≤0) then (sq ax ay px py-r*r).sign else
 bif decide (sq ax ay bx bY≤alg ax ay bx bY px py) then (sq bx bY px py-r*r).sign else
 (lft ax ay bx bY px py*lft ax ay bx bY px py-r*r*sq ax ay bx bY).sign
theorem Acg {x y u v:Int} (h1 : -8388608≤x∧x≤8388608) (h2 : -8388608≤y∧y≤8388608) (h3 : -8388608≤u∧u≤8388608) (h4 : -8388608≤v∧v≤8388608) :
  (-70368744177664≤x*y∧x*y≤70368744177664)∧(-70368744177664≤u*v∧u*v≤70368744177664):=by
 have b1:=Dj (a:=x) (b:=y) (A:=8388608) (B:=8388608) (by omega) (by omega) (by omega) (by omega)
 have b2:=Dj (a:=u) (b:=v) (A:=8388608) (B:=8388608) (by omega) (by omega) (by omega) (by omega)
 omega
def Ao7 (ax ay bx bY px py:Int):Bool:=fpt ax ay&&(fpt bx bY&&fpt px py)
def Ao8 (ax ay bx bY px py:Int):TI1:=.leaf (IntKind.i64.wrap (IntKind.i64.wrap (IntKind.i64.wrap (bx-ax)*IntKind.i64.wrap (py-ay))-IntKind.i64.wrap (IntKind.i64.wrap (px-ax)*IntKind.i64.wrap (bY-ay))),())
theorem Ao9 {ax ay bx bY px py:Int} (hok:Ao7 ax ay bx bY px py=true):(Ao8 ax ay bx bY px py).sat (fun y=>y=(lft ax ay bx bY px py,())):=by
 unfold Ao8
 simp only [Ao7,Bool.and_eq_true] at hok
 have c1:=Jp hok.1
 have c2:=Jp hok.2.1
 have c3:=Jp hok.2.2
 have b:=Acg (x:=bx-ax) (y:=py-ay) (u:=px-ax) (v:=bY-ay) (by omega) (by omega) (by omega) (by omega)
 rw [A7 (n:=bx-ax) (by omega) (by omega),A7 (n:=py-ay) (by omega) (by omega),A7 (n:=px-ax) (by omega) (by omega),A7 (n:=bY-ay) (by omega) (by omega),A7 (n:=(bx-ax)*(py-ay)) (by omega) (by omega),A7 (n:=(px-ax)*(bY-ay)) (by omega) (by omega),A7 (n:=(bx-ax)*(py-ay)-(px-ax)*(bY-ay)) (by omega) (by omega)]
 exact As rfl
abbrev Aoa:PureT:=Bz [cPt,cPt,cPt] [cI] (fun x=>Ao7 x.1.1 x.1.2.1 x.2.1.1 x.2.1.2.1 x.2.2.1.1 x.2.2.1.2.1) (fun x=>(lft x.1.1 x.1.2.1 x.2.1.1 x.2.1.2.1 x.2.2.1.1 x.2.2.1.2.1,()))
theorem B7z:A5 Tryz.prog 143 Aoa:=C5 (B6 Aw puOk_nil (fns_cons is_left A1)) 2 (fun x=>Ao8 x.1.1 x.1.2.1 x.2.1.1 x.2.1.2.1 x.2.2.1.1 x.2.2.1.2.1) (fun x=>by kernel_rfl) fun _ hok _=>Ao9 hok
def plLies:List (Nat×PureT):=[(143,Aoa),(68,A05),(144,Agg),(145,A2t),(142,Ao0),(66,K9)]
theorem puLies:De Tryz.prog plLies:=puOk_cons is_left.plain B7z (puOk_cons is_square.plain A40 (puOk_cons is_times.plain Ayb (puOk_cons is_compare.plain Akr (puOk_cons is_cmpI6.plain B7y (puOk_cons is_outside.plain Zz puOk_nil)))))
theorem B80 (ax ay bx bY px py:Int):sq bx bY px py=sq ax ay px py+sq ax ay bx bY-2*alg ax ay bx bY px py:=by unfold sq alg;grind
theorem Ayc (n:Int):max n (-n)*max n (-n)=n*n:=by
 rcases Int.le_total 0 n with h | h
 ·rw [show max n (-n)=n by omega]
 ·rw [show max n (-n) = -n by omega,Int.neg_mul_neg]
def Aks (ax ay bx bY px py r:Int):Bool:=fpt ax ay&&(fpt bx bY&&(fpt px py&&!Bu r 0 8388608))
def alW (ax ay bx bY px py:Int):Int:=IntKind.i64.wrap (IntKind.i64.wrap (IntKind.i64.wrap (bx-ax)*IntKind.i64.wrap (px-ax))+IntKind.i64.wrap (IntKind.i64.wrap (bY-ay)*IntKind.i64.wrap (py-ay)))
def mW (ax ay bx bY px py:Int):Int:=max (lft ax ay bx bY px py) (IntKind.i64.wrap (0-lft ax ay bx bY px py))
def Ach (ax ay bx bY px py r:Int):TI1 :=
 bif fpt ax ay&&fpt bx bY then
  bif decide (alW ax ay bx bY px py≤0) then bif fpt ax ay&&fpt px py then bif fpt bx bY&&fpt px py then .leaf ((min (sq ax ay px py) (sq bx bY px py)-IntKind.i64.wrap (r*r)).sign,()) else .fail else .fail
  else bif decide (alW ax ay bx bY px py≥sq ax ay bx bY) then bif fpt ax ay&&fpt px py then bif fpt bx bY&&fpt px py then .leaf ((min (sq ax ay px py) (sq bx bY px py)-IntKind.i64.wrap (r*r)).sign,()) else .fail else .fail
  else bif Ao7 ax ay bx bY px py then bif nn2 (mW ax ay bx bY px py) (mW ax ay bx bY px py) then bif nn2 (IntKind.i64.wrap (r*r)) (sq ax ay bx bY) then
   .leaf (wdV (mW ax ay bx bY px py*mW ax ay bx bY px py / 18446744073709551616) (mW ax ay bx bY px py*mW ax ay bx bY px py % 18446744073709551616) (IntKind.i64.wrap (r*r)*sq ax ay bx bY / 18446744073709551616) (IntKind.i64.wrap (r*r)*sq ax ay bx bY % 18446744073709551616),())
  else .fail else .fail else .fail
 else .fail
theorem Akt {ax ay bx bY px py r:Int} (hok:Aks ax ay bx bY px py r=true):(Ach ax ay bx bY px py r).sat (fun y=>y=(LsV ax ay bx bY px py r,())):=by
 simp only [Aks,Bool.and_eq_true,Bool.not_eq_true'] at hok
 obtain ⟨k1,k2,k3,k4⟩:=hok
 have c1:=Jp k1
 have c2:=Jp k2
 have c3:=Jp k3
 have c4:=A3z k4
 unfold Ach alW mW nn2 wdV Ao7
 have b:=Acg (x:=bx-ax) (y:=px-ax) (u:=bY-ay) (v:=py-ay) (by omega) (by omega) (by omega) (by omega)
 have bl:=Acg (x:=bx-ax) (y:=py-ay) (u:=px-ax) (v:=bY-ay) (by omega) (by omega) (by omega) (by omega)
 have hl:lft ax ay bx bY px py=(bx-ax)*(py-ay)-(px-ax)*(bY-ay):=rfl
 have ha:alg ax ay bx bY px py=(bx-ax)*(px-ax)+(bY-ay)*(py-ay):=rfl
 have br:=Dj (a:=r) (b:=r) (A:=8388608) (B:=8388608) (by omega) (by omega) (by omega) (by omega)
 have rn:=I4 r
 have sb:=Ajq k1 k2
 have hs:=B80 ax ay bx bY px py
 rw [A7 (n:=bx-ax) (by omega) (by omega),A7 (n:=px-ax) (by omega) (by omega),A7 (n:=bY-ay) (by omega) (by omega),A7 (n:=py-ay) (by omega) (by omega),A7 (n:=(bx-ax)*(px-ax)) (by omega) (by omega),A7 (n:=(bY-ay)*(py-ay)) (by omega) (by omega),
  A7 (n:=(bx-ax)*(px-ax)+(bY-ay)*(py-ay)) (by omega) (by omega),← ha,A7 (n:=r*r) (by omega) (by omega),A7 (n:=0-lft ax ay bx bY px py) (by omega) (by omega),Int.zero_sub,Ayc,Int.mul_ediv_add_emod,Int.mul_ediv_add_emod,k1,k2,k3]
 unfold LsV
 refine Bs (fun _=>Bs (fun q=>?_) (fun q=>Bs (fun q2=>?_) (fun q2=>Bs (fun _=>Bs (fun _=>Bs (fun _=>?_) (fun q3=>?_)) (fun q3=>?_)) (fun q3=>by simp at q3)))) (fun q=>by simp at q)
 ·have q':=of_decide_eq_true q
  rw [q,show min (sq ax ay px py) (sq bx bY px py)=sq ax ay px py by omega]
  exact As rfl
 ·have q2':=of_decide_eq_true q2
  rw [q,decide_eq_true (show sq ax ay bx bY≤alg ax ay bx bY px py from q2'),show min (sq ax ay px py) (sq bx bY px py)=sq bx bY px py by omega]
  exact As rfl
 ·have q2':=of_decide_eq_false q2
  rw [q,decide_eq_false (show ¬ sq ax ay bx bY≤alg ax ay bx bY px py from q2')]
  exact As rfl
 ·have:=of_decide_eq_false q3;omega
 ·have:=of_decide_eq_false q3;omega
abbrev Aob:PureT:=Bz [cPt,cPt,cPt,cI] [cI] (fun x=>Aks x.1.1 x.1.2.1 x.2.1.1 x.2.1.2.1 x.2.2.1.1 x.2.2.1.2.1 x.2.2.2.1) (fun x=>(LsV x.1.1 x.1.2.1 x.2.1.1 x.2.1.2.1 x.2.2.1.1 x.2.2.1.2.1 x.2.2.2.1,()))
theorem B81:A5 Tryz.prog 112 Aob:=C5 (B6 Aw puLies (fns_cons is_lies A1)) 3 (fun x=>Ach x.1.1 x.1.2.1 x.2.1.1 x.2.1.2.1 x.2.2.1.1 x.2.2.1.2.1 x.2.2.2.1) (fun x=>by kernel_rfl) fun _ hok _=>Akt hok
def plSeg:List (Nat×PureT):=(112,Aob)::plLies
theorem puSeg:De Tryz.prog plSeg:=puOk_cons is_lies.plain B81 puLies
def LsR (ax ay bx bY px py r:Int):Int×Int:=bif fpt ax ay&&(fpt bx bY&&fpt px py) then bif Bu r 0 8388608 then (0,3) else (LsV ax ay bx bY px py r,0) else (0,2)
abbrev TI2:=Tree (TCTs [cI,cI])
def Ayd {α:Type} (x y:Int) (a b:Tree α):Tree α:=bif Vg x y then a else bif Vh x y then a else b
def Aci (ax ay bx bY px py r:Int):TI2:=Ayd ax ay (.leaf (0,2,())) (Ayd bx bY (.leaf (0,2,())) (Ayd px py (.leaf (0,2,())) (
 bif Bu r 0 8388608 then .leaf (0,3,()) else bif Aks ax ay bx bY px py r then .leaf (LsV ax ay bx bY px py r,0,()) else .fail)))
theorem Aku {ax ay bx bY px py r:Int} (a1:inK .i64 ax) (a2:inK .i64 ay) (a3:inK .i64 bx) (a4:inK .i64 bY) (a5:inK .i64 px) (a6:inK .i64 py):(Aci ax ay bx bY px py r).sat (fun y=>y=((LsR ax ay bx bY px py r).1,(LsR ax ay bx bY px py r).2,())):=by
 unfold Aci Ayd
 refine J7 a1 a2 (fun k=>?_) (fun k1=>J7 a3 a4 (fun k=>?_) (fun k2=>J7 a5 a6 (fun k=>?_) (fun k3=>Bs (fun k=>?_) (fun k4=>?_))))
 ·refine As ?_
  unfold LsR;rw [k];rfl
 ·refine As ?_
  unfold LsR;rw [k1,k];rfl
 ·refine As ?_
  unfold LsR;rw [k1,k2,k];rfl
 ·refine As ?_
  unfold LsR;rw [k1,k2,k3,k];rfl
 ·have:Aks ax ay bx bY px py r=true:=by unfold Aks;rw [k1,k2,k3,k4];rfl
  rw [this]
  refine As ?_
  unfold LsR;rw [k1,k2,k3,k4];rfl
abbrev Aoc:PureT:=Bz [cPt,cPt,cPt,cI] [cI,cI] (fun _=>true) (fun x=>((LsR x.1.1 x.1.2.1 x.2.1.1 x.2.1.2.1 x.2.2.1.1 x.2.2.1.2.1 x.2.2.2.1).1,(LsR x.1.1 x.1.2.1 x.2.1.1 x.2.1.2.1 x.2.2.1.1 x.2.2.1.2.1 x.2.2.2.1).2,()))
theorem B82:A5 Tryz.prog 72 Aoc:=C5 (B6 Aw puSeg (fns_cons is_Lies (fns_cons is_fits A1))) 3 (fun x=>Aci x.1.1 x.1.2.1 x.2.1.1 x.2.1.2.1 x.2.2.1.1 x.2.2.1.2.1 x.2.2.2.1) (fun x=>by kernel_rfl) fun _ _ hw=>Aku hw.1.1 hw.1.2.1 hw.2.1.1 hw.2.1.2.1 hw.2.2.1.1 hw.2.2.1.2.1
end V
end Go.Proofs.YtcfanlgpkefogaaGreat
namespace Go.Proofs.YtcfanlgpkefogaaGreat
open Go.RowKit
namespace V
theorem is_Concat:FnIs Tryz.prog (73,Tryz.f73):=⟨Tryz.func73,by kernel_rfl,by kernel_rfl⟩
theorem is_Grow:FnIs Tryz.prog (113,Tryz.f113):=⟨Tryz.func113,by kernel_rfl,by kernel_rfl⟩
abbrev A4u:Type:=List (TCT A6)
def ccA (a:A4u):Int:=W64 (0+(a.length:Int))
def ccS (a b:A4u):Int:=W64 (ccA a+(b.length:Int))
def ccZ (n:Int):A4u:=List.take (Int.toNat 0) (List.replicate (Int.toNat n) (B9 A6))
abbrev Aye:=Tree (TCTs [.sl A6])
def ccK (z a b:A4u):Aye:=bif Eu z a 24 then bif Eu (z++a) b 24 then .leaf (z++a++b,()) else .fail else .fail
def Ayf (a b:A4u):Aye :=
 bif decide (ccA a<0) then .fail else bif decide (ccS a b<0) then .fail else bif decide (ccS a b<0) then .fail else
 bif decide (W64 (ccS a b-W64 (0-0))>0) then
  bif decide (1≤W64 (ccS a b-W64 (0-0))∧W64 (ccS a b-W64 (0-0))≤65536∧W64 (ccS a b-W64 (0-0))*24≤281474976710656) then
   ccK (ccZ (W64 (ccS a b-W64 (0-0)))) a b
  else .fail
 else ccK [] a b
theorem Aod {z a b:A4u} (hz:z=[]) (h:a.length+b.length≤60000):(ccK z a b).sat (fun y=>y=(a++b,())):=by
 subst hz
 unfold ccK
 rw [Gf,Gf,decide_eq_true (by simp only [List.length_nil];omega),decide_eq_true (by simp only [List.nil_append];omega)]
 exact As rfl
theorem Ayg {a b:A4u} (h:a.length+b.length≤60000):(Ayf a b).sat (fun y=>y=(a++b,())):=by
 unfold Ayf
 have e1:ccA a=(a.length:Int):=by unfold ccA;rw [Bi (by omega) (by omega)];omega
 have e2:ccS a b=(a.length:Int)+b.length:=by unfold ccS;rw [e1,Bi (by omega) (by omega)]
 have e3:W64 (ccS a b-W64 (0-0))=(a.length:Int)+b.length:=by
  rw [show W64 (0-0)=0 from rfl,e2,Bi (by omega) (by omega)];omega
 rw [e1,e2] at *
 rw [e3,decide_eq_false (show ¬ ((a.length:Int)<0) by omega),decide_eq_false (show ¬ ((a.length:Int)+b.length<0) by omega)]
 simp only [cond_false]
 cases h0:decide ((a.length:Int)+b.length>0) with
 | true =>
  have:=of_decide_eq_true h0
  rw [cond_true,decide_eq_true (by omega),cond_true]
  exact Aod rfl h
 | false=>exact Aod rfl h
def cc2 (l:List (List (TCT A6))):Bool:=match l with
 | [a,b]=>decide (a.length+b.length≤60000)
 | _=>false
def ccV (l:List (List (TCT A6))):A4u:=match l with
 | [a,b]=>a++b
 | _=>[]
theorem Aoe {l:List (List (TCT A6))} (h:cc2 l=true):∃ a b,l=[a,b]∧a.length+b.length≤60000:=by
 match l,h with
 | [a,b],h=>exact ⟨a,b,rfl,of_decide_eq_true h⟩
abbrev A7f:PureT:=Bz [.sl (.sl A6)] [.sl A6] (fun x=>cc2 x.1) (fun x=>(ccV x.1,()))
noncomputable def Aof:Ctx:=Anz 3 Tryz.prog [] [(73,Tryz.f73),(113,Tryz.f113)]
theorem Ayh:CtxOk Aof:=Qi Aw puOk_nil (fns_cons is_Concat (fns_cons is_Grow A1))
noncomputable def Agh (x:TCTs [.sl (.sl A6)]):Aye:=E1 Aof 10 (.fn 73) (Eg [.sl (.sl A6)] x) Ck 0 (If Aof.P [.sl A6])
theorem Akv (x:TCTs [.sl (.sl A6)]):E1 Aof 10 (.fn 73) (Eg [.sl (.sl A6)] x) Ck 0 (If Aof.P [.sl A6])=Agh x:=by kernel_rfl
theorem Ayi (a b:A4u):Agh ([a,b],())=Ayf a b:=by kernel_rfl
def Aog (l:List (List (TCT A6))):Aye:=match l with
 | [a,b]=>Ayf a b
 | _=>.fail
theorem Aoh (x:TCTs [.sl (.sl A6)]) (h:cc2 x.1=true):Agh x=Aog x.1:=by
 obtain ⟨l,⟨⟩⟩:=x
 obtain ⟨a,b,e,_⟩:=Aoe h
 have e:l=[a,b]:=e
 subst e
 exact Ayi a b
theorem Aoi:A5 Tryz.prog 73 A7f:=Bic Ayh 10 Agh (fun x=>Aog x.1) Akv Aoh fun x h _=>by
 obtain ⟨a,b,e,hn⟩:=Aoe h
 show (Aog x.1).sat (fun y=>y=(ccV x.1,()))
 rw [e]
 exact Ayg hn
end V
end Go.Proofs.YtcfanlgpkefogaaGreat
