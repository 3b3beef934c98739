import Derived.Test.YtlangijnealfjaaGreatBA
namespace Go.Proofs.YtlangijnealfjaaGreat
open Go.RowKit
namespace V
theorem is_cmpU:FnIs Tryz.prog (186,Tryz.f186):=⟨Tryz.func186,by kernel_rfl,by kernel_rfl⟩
theorem is_nanU:FnIs Tryz.prog (229,Tryz.f229):=⟨Tryz.func229,by kernel_rfl,by kernel_rfl⟩
theorem is_cmpI6:FnIs Tryz.prog (53,Tryz.f53):=⟨Tryz.func53,by kernel_rfl,by kernel_rfl⟩
theorem is_nanI6:FnIs Tryz.prog (111,Tryz.f111):=⟨Tryz.func111,by kernel_rfl,by kernel_rfl⟩
theorem is_Or6:FnIs Tryz.prog (185,Tryz.f185):=⟨Tryz.func185,by kernel_rfl,by kernel_rfl⟩
theorem is_Mul64:FnIs Tryz.prog (184,Tryz.f184):=⟨Tryz.func184,by kernel_rfl,by kernel_rfl⟩
theorem is_times:FnIs Tryz.prog (114,Tryz.f114):=⟨Tryz.func114,by kernel_rfl,by kernel_rfl⟩
theorem is_compare:FnIs Tryz.prog (115,Tryz.f115):=⟨Tryz.func115,by kernel_rfl,by kernel_rfl⟩
theorem is_left:FnIs Tryz.prog (113,Tryz.f113):=⟨Tryz.func113,by kernel_rfl,by kernel_rfl⟩
theorem is_lies:FnIs Tryz.prog (56,Tryz.f56):=⟨Tryz.func56,by kernel_rfl,by kernel_rfl⟩
theorem is_Lies:FnIs Tryz.prog (50,Tryz.f50):=⟨Tryz.func50,by kernel_rfl,by kernel_rfl⟩
abbrev cU6:TC:=.i .u64
abbrev TI1:=Tree (TCTs [cI])
def Aci (a b:Int):TI1 :=
 bif a != a then bif b != b then .leaf (0,()) else .leaf (-1,()) else bif b != b then .leaf (1,()) else
 bif decide (a<b) then .leaf (-1,()) else bif decide (a>b) then .leaf (1,()) else .leaf (0,())
theorem A4c (a b:Int):(Aci a b).sat (fun v=>v=((a-b).sign,())):=by
 unfold Aci
 refine B2 (fun h=>by simp at h) (fun _=>B2 (fun h=>by simp at h) (fun _=>B2 (fun h=>?_) (fun h=>B2 (fun k=>?_) (fun k=>?_))))
 ·refine Ai ?_;rw [Qh (of_decide_eq_true h)]
 ·refine Ai ?_;rw [Qi (of_decide_eq_true k)]
 ·have h':=of_decide_eq_false h
  have k':=of_decide_eq_false k
  refine Ai ?_;rw [Qj (show a=b by omega)]
abbrev B03:PureT:=Be [cU6,cU6] [cI] (fun _=>true) (fun x=>((x.1-x.2.1).sign,()))
theorem B04:A7 Tryz.prog 186 B03:=Bh (Ap Am puOk_nil (fns_cons is_cmpU (fns_cons is_nanU A3))) 3 (fun x=>Aci x.1 x.2.1) (fun x=>by kernel_rfl) fun _ _ _=>A4c _ _
abbrev Aj2:PureT:=Be [cI,cI] [cI] (fun _=>true) (fun x=>((x.1-x.2.1).sign,()))
theorem B05:A7 Tryz.prog 53 Aj2:=Bh (Ap Am puOk_nil (fns_cons is_cmpI6 (fns_cons is_nanI6 A3))) 3 (fun x=>Aci x.1 x.2.1) (fun x=>by kernel_rfl) fun _ _ _=>A4c _ _
theorem Ex {n:Int} (h1:0≤n) (h2:n≤18446744073709551615):IntKind.u64.wrap n=n:=by
 unfold IntKind.wrap;simp [IntKind.bits,IntKind.signed];omega
def Zv (n:Int):Int:=IntKind.u64.wrap ((BitVec.ofInt IntKind.u64.bits n &&& BitVec.ofInt IntKind.u64.bits 4294967295).toNat:Int)
theorem A29 {n:Int} (h1:0≤n) (h2:n≤18446744073709551615):Zv n=n % 4294967296:=by
 obtain ⟨m,rfl⟩:=Int.eq_ofNat_of_zero_le h1
 unfold Zv
 have e1:(BitVec.ofInt IntKind.u64.bits (m:Int)).toNat=m:=by
  show (BitVec.ofInt 64 (m:Int)).toNat=m
  rw [BitVec.toNat_ofInt];omega
 have e2:(BitVec.ofInt IntKind.u64.bits 4294967295).toNat=2 ^ 32-1:=by decide
 rw [BitVec.toNat_and,e1,e2,Nat.and_two_pow_sub_one_eq_mod]
 rw [Ex (by omega) (by omega)]
 omega
def Vi (n:Int):Int:=n.fdiv (2 ^ min (Int.toNat 32) IntKind.u64.bits)
theorem Pv (n:Int):Vi n=n / 4294967296:=by
 unfold Vi
 rw [Int.fdiv_eq_ediv_of_nonneg _ (by decide)]
 rfl
abbrev TU2:=Tree (TCTs [cU6,cU6])
def Aj3 (a b:Int):TU2 :=
 .leaf (IntKind.u64.wrap (IntKind.u64.wrap (IntKind.u64.wrap (Vi a*Vi b)+Vi (IntKind.u64.wrap (IntKind.u64.wrap (Vi a*Zv b)+Vi (IntKind.u64.wrap (Zv a*Zv b)))))+Vi (IntKind.u64.wrap (Zv (IntKind.u64.wrap (IntKind.u64.wrap (Vi a*Zv b)+Vi (IntKind.u64.wrap (Zv a*Zv b))))+IntKind.u64.wrap (Zv a*Vi b)))),IntKind.u64.wrap (a*b),())
theorem Aj4 {a b:Int} (a1:0≤a∧a≤18446744073709551615) (b1:0≤b∧b≤18446744073709551615):(Aj3 a b).sat (fun y=>y=(a*b / 18446744073709551616,IntKind.u64.wrap (a*b),())):=by
 unfold Aj3
 obtain ⟨m1,⟨p1,p2,p3,p4,p5,p6,p7,p8⟩,p9,p10⟩:=B38 a b a1.1 b1.1 (by omega) (by omega)
 rw [A29 a1.1 a1.2,A29 b1.1 b1.2,Pv a,Pv b,Ex (n:=a / 4294967296*(b % 4294967296)) (by omega) (by omega),Ex (n:=a % 4294967296*(b % 4294967296)) (by omega) (by omega),Ex (n:=a % 4294967296*(b / 4294967296)) (by omega) (by omega),Ex (n:=a / 4294967296*(b / 4294967296)) (by omega) (by omega)]
 rw [Pv (a % 4294967296*(b % 4294967296))]
 generalize a / 4294967296*(b % 4294967296)=C at *
 generalize a % 4294967296*(b % 4294967296)=B at *
 generalize a % 4294967296*(b / 4294967296)=D at *
 generalize a / 4294967296*(b / 4294967296)=A at *
 rw [Ex (n:=C+B / 4294967296) (by omega) (by omega),A29 (n:=C+B / 4294967296) (by omega) (by omega),Pv (C+B / 4294967296),Ex (n:=(C+B / 4294967296) % 4294967296+D) (by omega) (by omega),Pv]
 rw [Ex (n:=A+(C+B / 4294967296) / 4294967296) (by omega) (by omega),Ex (n:=A+(C+B / 4294967296) / 4294967296+((C+B / 4294967296) % 4294967296+D) / 4294967296) (by omega) (by omega),m1]
 exact Ai rfl
abbrev As1:PureT:=Be [cU6,cU6] [cU6,cU6] (fun _=>true) (fun x=>(x.1*x.2.1 / 18446744073709551616,IntKind.u64.wrap (x.1*x.2.1),()))
theorem As2:A7 Tryz.prog 184 As1:=Bh (Ap Am puOk_nil (fns_cons is_Mul64 A3)) 3 (fun x=>Aj3 x.1 x.2.1) (fun x=>by kernel_rfl) fun _ _ hw=>Aj4 hw.1 hw.2.1
abbrev cPr:TC:=.st [cU6,cU6]
abbrev TPr:=Tree (TCTs [cPr])
def Aj5 (a b:Int):TPr:=.leaf ((IntKind.u64.wrap a*IntKind.u64.wrap b / 18446744073709551616,IntKind.u64.wrap (IntKind.u64.wrap a*IntKind.u64.wrap b),()),())
def nn2 (a b:Int):Bool:=decide (0≤a∧0≤b)
theorem Aj6 {a b:Int} (k1:inK .i64 a) (k2:inK .i64 b) (hok:nn2 a b=true):(Aj5 a b).sat (fun y=>y=((a*b / 18446744073709551616,a*b % 18446744073709551616,()),())):=by
 unfold Aj5
 obtain ⟨h0,h1⟩:=of_decide_eq_true hok
 have a1 : -9223372036854775808≤a∧a≤9223372036854775807:=k1
 have b1 : -9223372036854775808≤b∧b≤9223372036854775807:=k2
 rw [Ex (n:=a) (by omega) (by omega),Ex (n:=b) (by omega) (by omega)]
 have:IntKind.u64.wrap (a*b)=a*b % 18446744073709551616:=by unfold IntKind.wrap;simp [IntKind.bits,IntKind.signed]
 rw [this]
 exact Ai rfl
abbrev Acj:PureT:=Be [cI,cI] [cPr] (fun x=>nn2 x.1 x.2.1) (fun x=>((x.1*x.2.1 / 18446744073709551616,x.1*x.2.1 % 18446744073709551616,()),()))
theorem As3:A7 Tryz.prog 114 Acj:=Bh (Ap Am (puOk_cons is_Mul64.plain As2 puOk_nil) (fns_cons is_times A3)) 3 (fun x=>Aj5 x.1 x.2.1) (fun x=>by kernel_rfl) fun _ hok hw=>Aj6 hw.1 hw.2.1 hok
def wdV (a b c d:Int):Int:=((18446744073709551616*a+b)-(18446744073709551616*c+d)).sign
def Aj7 (a b c d:Int):TI1:=bif a==c&&(b==d&&true) then .leaf (0,()) else bif (a-c).sign != 0 then .leaf ((a-c).sign,()) else bif (b-d).sign != 0 then .leaf ((b-d).sign,()) else .leaf (0,())
theorem Aj8 {a b c d:Int} (a1:0≤a∧a≤18446744073709551615) (b1:0≤b∧b≤18446744073709551615) (c1:0≤c∧c≤18446744073709551615) (d1:0≤d∧d≤18446744073709551615):(Aj7 a b c d).sat (fun y=>y=(wdV a b c d,())):=by
 unfold Aj7 wdV
 refine B2 (fun h=>?_) (fun h=>?_)
 ·rw [Bool.and_true,Bool.and_eq_true] at h
  have e1:a=c:=by simpa using h.1
  have e2:b=d:=by simpa using h.2
  refine Ai ?_
  rw [Qj (show 18446744073709551616*a+b=18446744073709551616*c+d by omega)]
 ·rcases Int.lt_trichotomy a c with x | x | x
  ·rw [Qh x,Qh (show 18446744073709551616*a+b<18446744073709551616*c+d by omega)]
   exact Ai rfl
  ·rw [Qj x]
   rcases Int.lt_trichotomy b d with y | y | y
   ·rw [Qh y,Qh (show 18446744073709551616*a+b<18446744073709551616*c+d by omega)]
    exact Ai rfl
   ·rw [Qj y,Qj (show 18446744073709551616*a+b=18446744073709551616*c+d by omega)]
    exact Ai rfl
   ·rw [Qi y,Qi (show 18446744073709551616*c+d<18446744073709551616*a+b by omega)]
    exact Ai rfl
  ·rw [Qi x,Qi (show 18446744073709551616*c+d<18446744073709551616*a+b by omega)]
   exact Ai rfl
abbrev A0l:PureT:=Be [cPr,cPr] [cI] (fun _=>true) (fun x=>(wdV x.1.1 x.1.2.1 x.2.1.1 x.2.1.2.1,()))
theorem Afy:A7 Tryz.prog 115 A0l:=Bh (Ap Am (puOk_cons is_cmpU.plain B04 puOk_nil) (fns_cons is_compare (fns_cons is_Or6 A3))) 3 (fun x=>Aj7 x.1.1 x.1.2.1 x.2.1.1 x.2.1.2.1) (fun x=>by kernel_rfl) fun _ _ hw=>Aj8 hw.1.1 hw.1.2.1 hw.2.1.1 hw.2.1.2.1
def lft (ax ay bx bY px py:Int):Int:=(bx-ax)*(py-ay)-(px-ax)*(bY-ay)
def alg (ax ay bx bY px py:Int):Int:=(bx-ax)*(px-ax)+(bY-ay)*(py-ay)
def LsV (ax ay bx bY px py r:Int):Int :=
 bif decide (alg ax ay bx bY px py≤0) then (sq ax ay px py-r*r).sign else
 bif decide (sq ax ay bx bY≤alg ax ay bx bY px py) then (sq bx bY px py-r*r).sign else
 (lft ax ay bx bY px py*lft ax ay bx bY px py-r*r*sq ax ay bx bY).sign
theorem A91 {x y u v:Int} (h1 : -8388608≤x∧x≤8388608) (h2 : -8388608≤y∧y≤8388608) (h3 : -8388608≤u∧u≤8388608) (h4 : -8388608≤v∧v≤8388608) :
  (-70368744177664≤x*y∧x*y≤70368744177664)∧(-70368744177664≤u*v∧u*v≤70368744177664):=by
 have b1:=By (a:=x) (b:=y) (A:=8388608) (B:=8388608) (by omega) (by omega) (by omega) (by omega)
 have b2:=By (a:=u) (b:=v) (A:=8388608) (B:=8388608) (by omega) (by omega) (by omega) (by omega)
 omega
def Aj9 (ax ay bx bY px py:Int):Bool:=fpt ax ay&&(fpt bx bY&&fpt px py)
def Aja (ax ay bx bY px py:Int):TI1:=.leaf (IntKind.i64.wrap (IntKind.i64.wrap (IntKind.i64.wrap (bx-ax)*IntKind.i64.wrap (py-ay))-IntKind.i64.wrap (IntKind.i64.wrap (px-ax)*IntKind.i64.wrap (bY-ay))),())
theorem Ajb {ax ay bx bY px py:Int} (hok:Aj9 ax ay bx bY px py=true):(Aja ax ay bx bY px py).sat (fun y=>y=(lft ax ay bx bY px py,())):=by
 unfold Aja
 simp only [Aj9,Bool.and_eq_true] at hok
 have c1:=G7 hok.1
 have c2:=G7 hok.2.1
 have c3:=G7 hok.2.2
 have b:=A91 (x:=bx-ax) (y:=py-ay) (u:=px-ax) (v:=bY-ay) (by omega) (by omega) (by omega) (by omega)
 rw [A6 (n:=bx-ax) (by omega) (by omega),A6 (n:=py-ay) (by omega) (by omega),A6 (n:=px-ax) (by omega) (by omega),A6 (n:=bY-ay) (by omega) (by omega),A6 (n:=(bx-ax)*(py-ay)) (by omega) (by omega),A6 (n:=(px-ax)*(bY-ay)) (by omega) (by omega),A6 (n:=(bx-ax)*(py-ay)-(px-ax)*(bY-ay)) (by omega) (by omega)]
 exact Ai rfl
abbrev Ajc:PureT:=Be [cPt,cPt,cPt] [cI] (fun x=>Aj9 x.1.1 x.1.2.1 x.2.1.1 x.2.1.2.1 x.2.2.1.1 x.2.2.1.2.1) (fun x=>(lft x.1.1 x.1.2.1 x.2.1.1 x.2.1.2.1 x.2.2.1.1 x.2.2.1.2.1,()))
theorem B06:A7 Tryz.prog 113 Ajc:=Bh (Ap Am puOk_nil (fns_cons is_left A3)) 2 (fun x=>Aja x.1.1 x.1.2.1 x.2.1.1 x.2.1.2.1 x.2.2.1.1 x.2.2.1.2.1) (fun x=>by kernel_rfl) fun _ hok _=>Ajb hok
def plLies:List (Nat×PureT):=[(113,Ajc),(54,X6),(114,Acj),(115,A0l),(53,Aj2),(108,Ix)]
theorem puLies:Ci Tryz.prog plLies:=puOk_cons is_left.plain B06 (puOk_cons is_square.plain A1f (puOk_cons is_times.plain As3 (puOk_cons is_compare.plain Afy (puOk_cons is_cmpI6.plain B05 (puOk_cons is_outside.plain X0 puOk_nil)))))
theorem B07 (ax ay bx bY px py:Int):sq bx bY px py=sq ax ay px py+sq ax ay bx bY-2*alg ax ay bx bY px py:=by unfold sq alg;grind
theorem As4 (n:Int):max n (-n)*max n (-n)=n*n:=by
 rcases Int.le_total 0 n with h | h
 ·rw [show max n (-n)=n by omega]
 ·rw [show max n (-n) = -n by omega,Int.neg_mul_neg]
def Afz (ax ay bx bY px py r:Int):Bool:=fpt ax ay&&(fpt bx bY&&(fpt px py&&!B6 r 0 8388608))
def alW (ax ay bx bY px py:Int):Int:=IntKind.i64.wrap (IntKind.i64.wrap (IntKind.i64.wrap (bx-ax)*IntKind.i64.wrap (px-ax))+IntKind.i64.wrap (IntKind.i64.wrap (bY-ay)*IntKind.i64.wrap (py-ay)))
def mW (ax ay bx bY px py:Int):Int:=max (lft ax ay bx bY px py) (IntKind.i64.wrap (0-lft ax ay bx bY px py))
def A92 (ax ay bx bY px py r:Int):TI1 :=
 bif fpt ax ay&&fpt bx bY then
  bif decide (alW ax ay bx bY px py≤0) then bif fpt ax ay&&fpt px py then bif fpt bx bY&&fpt px py then .leaf ((min (sq ax ay px py) (sq bx bY px py)-IntKind.i64.wrap (r*r)).sign,()) else .fail else .fail
  else bif decide (alW ax ay bx bY px py≥sq ax ay bx bY) then bif fpt ax ay&&fpt px py then bif fpt bx bY&&fpt px py then .leaf ((min (sq ax ay px py) (sq bx bY px py)-IntKind.i64.wrap (r*r)).sign,()) else .fail else .fail
  else bif Aj9 ax ay bx bY px py then bif nn2 (mW ax ay bx bY px py) (mW ax ay bx bY px py) then bif nn2 (IntKind.i64.wrap (r*r)) (sq ax ay bx bY) then
   .leaf (wdV (mW ax ay bx bY px py*mW ax ay bx bY px py / 18446744073709551616) (mW ax ay bx bY px py*mW ax ay bx bY px py % 18446744073709551616) (IntKind.i64.wrap (r*r)*sq ax ay bx bY / 18446744073709551616) (IntKind.i64.wrap (r*r)*sq ax ay bx bY % 18446744073709551616),())
  else .fail else .fail else .fail
 else .fail
theorem Ag0 {ax ay bx bY px py r:Int} (hok:Afz ax ay bx bY px py r=true):(A92 ax ay bx bY px py r).sat (fun y=>y=(LsV ax ay bx bY px py r,())):=by
 simp only [Afz,Bool.and_eq_true,Bool.not_eq_true'] at hok
 obtain ⟨k1,k2,k3,k4⟩:=hok
 have c1:=G7 k1
 have c2:=G7 k2
 have c3:=G7 k3
 have c4:=A1e k4
 unfold A92 alW mW nn2 wdV Aj9
 have b:=A91 (x:=bx-ax) (y:=px-ax) (u:=bY-ay) (v:=py-ay) (by omega) (by omega) (by omega) (by omega)
 have bl:=A91 (x:=bx-ax) (y:=py-ay) (u:=px-ax) (v:=bY-ay) (by omega) (by omega) (by omega) (by omega)
 have hl:lft ax ay bx bY px py=(bx-ax)*(py-ay)-(px-ax)*(bY-ay):=rfl
 have ha:alg ax ay bx bY px py=(bx-ax)*(px-ax)+(bY-ay)*(py-ay):=rfl
 have br:=By (a:=r) (b:=r) (A:=8388608) (B:=8388608) (by omega) (by omega) (by omega) (by omega)
 have rn:=Gu r
 have sb:=Aer k1 k2
 have hs:=B07 ax ay bx bY px py
 rw [A6 (n:=bx-ax) (by omega) (by omega),A6 (n:=px-ax) (by omega) (by omega),A6 (n:=bY-ay) (by omega) (by omega),A6 (n:=py-ay) (by omega) (by omega),A6 (n:=(bx-ax)*(px-ax)) (by omega) (by omega),A6 (n:=(bY-ay)*(py-ay)) (by omega) (by omega),
  A6 (n:=(bx-ax)*(px-ax)+(bY-ay)*(py-ay)) (by omega) (by omega),← ha,A6 (n:=r*r) (by omega) (by omega),A6 (n:=0-lft ax ay bx bY px py) (by omega) (by omega),Int.zero_sub,As4,Int.mul_ediv_add_emod,Int.mul_ediv_add_emod,k1,k2,k3]
 unfold LsV
 refine B2 (fun _=>B2 (fun q=>?_) (fun q=>B2 (fun q2=>?_) (fun q2=>B2 (fun _=>B2 (fun _=>B2 (fun _=>?_) (fun q3=>?_)) (fun q3=>?_)) (fun q3=>by simp at q3)))) (fun q=>by simp at q)
 ·have q':=of_decide_eq_true q
  rw [q,show min (sq ax ay px py) (sq bx bY px py)=sq ax ay px py by omega]
  exact Ai rfl
 ·have q2':=of_decide_eq_true q2
  rw [q,decide_eq_true (show sq ax ay bx bY≤alg ax ay bx bY px py from q2'),show min (sq ax ay px py) (sq bx bY px py)=sq bx bY px py by omega]
  exact Ai rfl
 ·have q2':=of_decide_eq_false q2
  rw [q,decide_eq_false (show ¬ sq ax ay bx bY≤alg ax ay bx bY px py from q2')]
  exact Ai rfl
 ·have:=of_decide_eq_false q3;omega
 ·have:=of_decide_eq_false q3;omega
abbrev Ajd:PureT:=Be [cPt,cPt,cPt,cI] [cI] (fun x=>Afz x.1.1 x.1.2.1 x.2.1.1 x.2.1.2.1 x.2.2.1.1 x.2.2.1.2.1 x.2.2.2.1) (fun x=>(LsV x.1.1 x.1.2.1 x.2.1.1 x.2.1.2.1 x.2.2.1.1 x.2.2.1.2.1 x.2.2.2.1,()))
theorem B08:A7 Tryz.prog 56 Ajd:=Bh (Ap Am puLies (fns_cons is_lies A3)) 3 (fun x=>A92 x.1.1 x.1.2.1 x.2.1.1 x.2.1.2.1 x.2.2.1.1 x.2.2.1.2.1 x.2.2.2.1) (fun x=>by kernel_rfl) fun _ hok _=>Ag0 hok
def plSeg:List (Nat×PureT):=(56,Ajd)::plLies
theorem puSeg:Ci Tryz.prog plSeg:=puOk_cons is_lies.plain B08 puLies
def LsR (ax ay bx bY px py r:Int):Int×Int:=bif fpt ax ay&&(fpt bx bY&&fpt px py) then bif B6 r 0 8388608 then (0,3) else (LsV ax ay bx bY px py r,0) else (0,2)
abbrev TI2:=Tree (TCTs [cI,cI])
def As5 {α:Type} (x y:Int) (a b:Tree α):Tree α:=bif Sg x y then a else bif Si x y then a else b
def A93 (ax ay bx bY px py r:Int):TI2:=As5 ax ay (.leaf (0,2,())) (As5 bx bY (.leaf (0,2,())) (As5 px py (.leaf (0,2,())) (
 bif B6 r 0 8388608 then .leaf (0,3,()) else bif Afz ax ay bx bY px py r then .leaf (LsV ax ay bx bY px py r,0,()) else .fail)))
theorem Ag1 {ax ay bx bY px py r:Int} (a1:inK .i64 ax) (a2:inK .i64 ay) (a3:inK .i64 bx) (a4:inK .i64 bY) (a5:inK .i64 px) (a6:inK .i64 py):(A93 ax ay bx bY px py r).sat (fun y=>y=((LsR ax ay bx bY px py r).1,(LsR ax ay bx bY px py r).2,())):=by
 unfold A93 As5
 refine Hr a1 a2 (fun k=>?_) (fun k1=>Hr a3 a4 (fun k=>?_) (fun k2=>Hr a5 a6 (fun k=>?_) (fun k3=>B2 (fun k=>?_) (fun k4=>?_))))
 ·refine Ai ?_
  unfold LsR;rw [k];rfl
 ·refine Ai ?_
  unfold LsR;rw [k1,k];rfl
 ·refine Ai ?_
  unfold LsR;rw [k1,k2,k];rfl
 ·refine Ai ?_
  unfold LsR;rw [k1,k2,k3,k];rfl
 ·have:Afz ax ay bx bY px py r=true:=by unfold Afz;rw [k1,k2,k3,k4];rfl
  rw [this]
  refine Ai ?_
  unfold LsR;rw [k1,k2,k3,k4];rfl
abbrev Aje:PureT:=Be [cPt,cPt,cPt,cI] [cI,cI] (fun _=>true) (fun x=>((LsR x.1.1 x.1.2.1 x.2.1.1 x.2.1.2.1 x.2.2.1.1 x.2.2.1.2.1 x.2.2.2.1).1,(LsR x.1.1 x.1.2.1 x.2.1.1 x.2.1.2.1 x.2.2.1.1 x.2.2.1.2.1 x.2.2.2.1).2,()))
theorem B09:A7 Tryz.prog 50 Aje:=Bh (Ap Am puSeg (fns_cons is_Lies (fns_cons is_fits A3))) 3 (fun x=>A93 x.1.1 x.1.2.1 x.2.1.1 x.2.1.2.1 x.2.2.1.1 x.2.2.1.2.1 x.2.2.2.1) (fun x=>by kernel_rfl) fun _ _ hw=>Ag1 hw.1.1 hw.1.2.1 hw.2.1.1 hw.2.1.2.1 hw.2.2.1.1 hw.2.2.1.2.1
end V
end Go.Proofs.YtlangijnealfjaaGreat
namespace Go.Proofs.YtlangijnealfjaaGreat
open Go.RowKit
namespace V
theorem is_Concat:FnIs Tryz.prog (51,Tryz.f51):=⟨Tryz.func51,by kernel_rfl,by kernel_rfl⟩
theorem is_Grow:FnIs Tryz.prog (109,Tryz.f109):=⟨Tryz.func109,by kernel_rfl,by kernel_rfl⟩
abbrev A2a:Type:=List (TCT A1)
def ccA (a:A2a):Int:=W64 (0+(a.length:Int))
def ccS (a b:A2a):Int:=W64 (ccA a+(b.length:Int))
def ccZ (n:Int):A2a:=List.take (Int.toNat 0) (List.replicate (Int.toNat n) (Ak A1))
abbrev As6:=Tree (TCTs [.sl A1])
def ccK (z a b:A2a):As6:=bif D4 z a 24 then bif D4 (z++a) b 24 then .leaf (z++a++b,()) else .fail else .fail
def As7 (a b:A2a):As6 :=
 bif decide (ccA a<0) then .fail else bif decide (ccS a b<0) then .fail else bif decide (ccS a b<0) then .fail else
 bif decide (W64 (ccS a b-W64 (0-0))>0) then
  bif decide (1≤W64 (ccS a b-W64 (0-0))∧W64 (ccS a b-W64 (0-0))≤65536∧W64 (ccS a b-W64 (0-0))*24≤281474976710656) then
   ccK (ccZ (W64 (ccS a b-W64 (0-0)))) a b
  else .fail
 else ccK [] a b
theorem Ajf {z a b:A2a} (hz:z=[]) (h:a.length+b.length≤60000):(ccK z a b).sat (fun y=>y=(a++b,())):=by
 subst hz
 unfold ccK
 rw [F2,F2,decide_eq_true (by simp only [List.length_nil];omega),decide_eq_true (by simp only [List.nil_append];omega)]
 exact Ai rfl
theorem As8 {a b:A2a} (h:a.length+b.length≤60000):(As7 a b).sat (fun y=>y=(a++b,())):=by
 unfold As7
 have e1:ccA a=(a.length:Int):=by unfold ccA;rw [B5 (by omega) (by omega)];omega
 have e2:ccS a b=(a.length:Int)+b.length:=by unfold ccS;rw [e1,B5 (by omega) (by omega)]
 have e3:W64 (ccS a b-W64 (0-0))=(a.length:Int)+b.length:=by
  rw [show W64 (0-0)=0 from rfl,e2,B5 (by omega) (by omega)];omega
 rw [e1,e2] at *
 rw [e3,decide_eq_false (show ¬ ((a.length:Int)<0) by omega),decide_eq_false (show ¬ ((a.length:Int)+b.length<0) by omega)]
 simp only [cond_false]
 cases h0:decide ((a.length:Int)+b.length>0) with
 | true =>
  have:=of_decide_eq_true h0
  rw [cond_true,decide_eq_true (by omega),cond_true]
  exact Ajf rfl h
 | false=>exact Ajf rfl h
def cc2 (l:List (List (TCT A1))):Bool:=match l with
 | [a,b]=>decide (a.length+b.length≤60000)
 | _=>false
def ccV (l:List (List (TCT A1))):A2a:=match l with
 | [a,b]=>a++b
 | _=>[]
theorem Ajg {l:List (List (TCT A1))} (h:cc2 l=true):∃ a b,l=[a,b]∧a.length+b.length≤60000:=by
 match l,h with
 | [a,b],h=>exact ⟨a,b,rfl,of_decide_eq_true h⟩
abbrev A4d:PureT:=Be [.sl (.sl A1)] [.sl A1] (fun x=>cc2 x.1) (fun x=>(ccV x.1,()))
noncomputable def Ajh:Ctx:=Aj1 3 Tryz.prog [] [(51,Tryz.f51),(109,Tryz.f109)]
theorem As9:CtxOk Ajh:=Rq Am puOk_nil (fns_cons is_Concat (fns_cons is_Grow A3))
noncomputable def Ack (x:TCTs [.sl (.sl A1)]):As6:=Dh Ajh 10 (.fn 51) (Eg [.sl (.sl A1)] x) C4 0 (Ir Ajh.P [.sl A1])
theorem Ag2 (x:TCTs [.sl (.sl A1)]):Dh Ajh 10 (.fn 51) (Eg [.sl (.sl A1)] x) C4 0 (Ir Ajh.P [.sl A1])=Ack x:=by kernel_rfl
theorem Asa (a b:A2a):Ack ([a,b],())=As7 a b:=by kernel_rfl
def Aji (l:List (List (TCT A1))):As6:=match l with
 | [a,b]=>As7 a b
 | _=>.fail
theorem Ajj (x:TCTs [.sl (.sl A1)]) (h:cc2 x.1=true):Ack x=Aji x.1:=by
 obtain ⟨l,⟨⟩⟩:=x
 obtain ⟨a,b,e,_⟩:=Ajg h
 have e:l=[a,b]:=e
 subst e
 exact Asa a b
theorem Ajk:A7 Tryz.prog 51 A4d:=B98 As9 10 Ack (fun x=>Aji x.1) Ag2 Ajj fun x h _=>by
 obtain ⟨a,b,e,hn⟩:=Ajg h
 show (Aji x.1).sat (fun y=>y=(ccV x.1,()))
 rw [e]
 exact As8 hn
end V
end Go.Proofs.YtlangijnealfjaaGreat
