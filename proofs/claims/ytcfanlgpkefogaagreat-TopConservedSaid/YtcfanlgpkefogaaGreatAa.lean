import Derived.Test.YtcfanlgpkefogaaGreatBA
namespace Go.Proofs.YtcfanlgpkefogaaGreat
open Go.RowKit
namespace V
theorem is_cmpU : FnIs Tryz.prog (164, Tryz.f164) := ⟨Tryz.func164, by kernel_rfl, by kernel_rfl⟩
theorem is_nanU : FnIs Tryz.prog (169, Tryz.f169) := ⟨Tryz.func169, by kernel_rfl, by kernel_rfl⟩
theorem is_cmpI6 : FnIs Tryz.prog (142, Tryz.f142) := ⟨Tryz.func142, by kernel_rfl, by kernel_rfl⟩
theorem is_nanI6 : FnIs Tryz.prog (161, Tryz.f161) := ⟨Tryz.func161, by kernel_rfl, by kernel_rfl⟩
theorem is_Or6 : FnIs Tryz.prog (163, Tryz.f163) := ⟨Tryz.func163, by kernel_rfl, by kernel_rfl⟩
theorem is_Mul64 : FnIs Tryz.prog (162, Tryz.f162) := ⟨Tryz.func162, by kernel_rfl, by kernel_rfl⟩
theorem is_times : FnIs Tryz.prog (144, Tryz.f144) := ⟨Tryz.func144, by kernel_rfl, by kernel_rfl⟩
theorem is_compare : FnIs Tryz.prog (145, Tryz.f145) := ⟨Tryz.func145, by kernel_rfl, by kernel_rfl⟩
theorem is_left : FnIs Tryz.prog (143, Tryz.f143) := ⟨Tryz.func143, by kernel_rfl, by kernel_rfl⟩
theorem is_lies : FnIs Tryz.prog (112, Tryz.f112) := ⟨Tryz.func112, by kernel_rfl, by kernel_rfl⟩
theorem is_Lies : FnIs Tryz.prog (72, Tryz.f72) := ⟨Tryz.func72, by kernel_rfl, by kernel_rfl⟩
abbrev cU6 : TC := .i .u64
abbrev TI1 := Tree (TCTs [cI])
def C8n (a b : Int) : TI1 :=
 bif a != a then bif b != b then .leaf (0, ()) else .leaf (-1, ()) else bif b != b then .leaf (1, ()) else
 bif decide (a < b) then .leaf (-1, ()) else bif decide (a > b) then .leaf (1, ()) else .leaf (0, ())
theorem C0e (a b : Int) : (C8n a b).sat (fun v => v = ((a - b).sign, ())) := by
 unfold C8n
 refine Bb4 (fun h => by simp at h) (fun _ => Bb4 (fun h => by simp at h) (fun _ => Bb4 (fun h => ?_) (fun h => Bb4 (fun k => ?_) (fun k => ?_))))
 ·refine Bal ?_; rw [Bo6 (of_decide_eq_true h)]
 ·refine Bal ?_; rw [Bo7 (of_decide_eq_true k)]
 ·have h' := of_decide_eq_false h
  have k' := of_decide_eq_false k
  refine Bal ?_; rw [Bo8 (show a = b by omega)]
abbrev Cwi : PureT := Bbb [cU6, cU6] [cI] (fun _ => true) (fun x => ((x.1 - x.2.1).sign, ()))
theorem Cwj : Bai Tryz.prog 164 Cwi := Bbd (Bap Ban puOk_nil (fns_cons is_cmpU (fns_cons is_nanU Fq))) 3 (fun x => C8n x.1 x.2.1) (fun x => by kernel_rfl) fun _ _ _ => C0e _ _
abbrev Cf8 : PureT := Bbb [cI, cI] [cI] (fun _ => true) (fun x => ((x.1 - x.2.1).sign, ()))
theorem Cwk : Bai Tryz.prog 142 Cf8 := Bbd (Bap Ban puOk_nil (fns_cons is_cmpI6 (fns_cons is_nanI6 Fq))) 3 (fun x => C8n x.1 x.2.1) (fun x => by kernel_rfl) fun _ _ _ => C0e _ _
theorem Bdx {n : Int} (h1 : 0 ≤ n) (h2 : n ≤ 18446744073709551615) : IntKind.u64.wrap n = n := by
 unfold IntKind.wrap; simp [IntKind.bits, IntKind.signed]; omega
def Bvs (n : Int) : Int := IntKind.u64.wrap ((BitVec.ofInt IntKind.u64.bits n &&& BitVec.ofInt IntKind.u64.bits 4294967295).toNat : Int)
theorem By4 {n : Int} (h1 : 0 ≤ n) (h2 : n ≤ 18446744073709551615) : Bvs n = n % 4294967296 := by
 obtain ⟨m, rfl⟩ := Int.eq_ofNat_of_zero_le h1
 unfold Bvs
 have e1 : (BitVec.ofInt IntKind.u64.bits (m : Int)).toNat = m := by
  show (BitVec.ofInt 64 (m : Int)).toNat = m
  rw [BitVec.toNat_ofInt]; omega
 have e2 : (BitVec.ofInt IntKind.u64.bits 4294967295).toNat = 2 ^ 32 - 1 := by decide
 rw [BitVec.toNat_and, e1, e2, Nat.and_two_pow_sub_one_eq_mod]
 rw [Bdx (by omega) (by omega)]
 omega
def Bs5 (n : Int) : Int := n.fdiv (2 ^ min (Int.toNat 32) IntKind.u64.bits)
theorem Bnj (n : Int) : Bs5 n = n / 4294967296 := by
 unfold Bs5
 rw [Int.fdiv_eq_ediv_of_nonneg _ (by decide)]
 rfl
abbrev TU2 := Tree (TCTs [cU6, cU6])
def Cf9 (a b : Int) : TU2 :=
 .leaf (IntKind.u64.wrap (IntKind.u64.wrap (IntKind.u64.wrap (Bs5 a * Bs5 b) + Bs5 (IntKind.u64.wrap (IntKind.u64.wrap (Bs5 a * Bvs b) + Bs5 (IntKind.u64.wrap (Bvs a * Bvs b))))) + Bs5 (IntKind.u64.wrap (Bvs (IntKind.u64.wrap (IntKind.u64.wrap (Bs5 a * Bvs b) + Bs5 (IntKind.u64.wrap (Bvs a * Bvs b)))) + IntKind.u64.wrap (Bvs a * Bs5 b)))), IntKind.u64.wrap (a * b), ())
theorem Cfa {a b : Int} (a1 : 0 ≤ a ∧ a ≤ 18446744073709551615) (b1 : 0 ≤ b ∧ b ≤ 18446744073709551615) : (Cf9 a b).sat (fun y => y = (a * b / 18446744073709551616, IntKind.u64.wrap (a * b), ())) := by
 unfold Cf9
 obtain ⟨m1, ⟨p1, p2, p3, p4, p5, p6, p7, p8⟩, p9, p10⟩ := D00 a b a1.1 b1.1 (by omega) (by omega)
 rw [By4 a1.1 a1.2, By4 b1.1 b1.2, Bnj a, Bnj b, Bdx (n := a / 4294967296 * (b % 4294967296)) (by omega) (by omega), Bdx (n := a % 4294967296 * (b % 4294967296)) (by omega) (by omega), Bdx (n := a % 4294967296 * (b / 4294967296)) (by omega) (by omega), Bdx (n := a / 4294967296 * (b / 4294967296)) (by omega) (by omega)]
 rw [Bnj (a % 4294967296 * (b % 4294967296))]
 generalize a / 4294967296 * (b % 4294967296) = C at *
 generalize a % 4294967296 * (b % 4294967296) = B at *
 generalize a % 4294967296 * (b / 4294967296) = D at *
 generalize a / 4294967296 * (b / 4294967296) = A at *
 rw [Bdx (n := C + B / 4294967296) (by omega) (by omega), By4 (n := C + B / 4294967296) (by omega) (by omega), Bnj (C + B / 4294967296), Bdx (n := (C + B / 4294967296) % 4294967296 + D) (by omega) (by omega), Bnj]
 rw [Bdx (n := A + (C + B / 4294967296) / 4294967296) (by omega) (by omega), Bdx (n := A + (C + B / 4294967296) / 4294967296 + ((C + B / 4294967296) % 4294967296 + D) / 4294967296) (by omega) (by omega), m1]
 exact Bal rfl
abbrev Co5 : PureT := Bbb [cU6, cU6] [cU6, cU6] (fun _ => true) (fun x => (x.1 * x.2.1 / 18446744073709551616, IntKind.u64.wrap (x.1 * x.2.1), ()))
theorem Co6 : Bai Tryz.prog 162 Co5 := Bbd (Bap Ban puOk_nil (fns_cons is_Mul64 Fq)) 3 (fun x => Cf9 x.1 x.2.1) (fun x => by kernel_rfl) fun _ _ hw => Cfa hw.1 hw.2.1
abbrev cPr : TC := .st [cU6, cU6]
abbrev TPr := Tree (TCTs [cPr])
def Cfb (a b : Int) : TPr := .leaf ((IntKind.u64.wrap a * IntKind.u64.wrap b / 18446744073709551616, IntKind.u64.wrap (IntKind.u64.wrap a * IntKind.u64.wrap b), ()), ())
def nn2 (a b : Int) : Bool := decide (0 ≤ a ∧ 0 ≤ b)
theorem Cfc {a b : Int} (k1 : inK .i64 a) (k2 : inK .i64 b) (hok : nn2 a b = true) : (Cfb a b).sat (fun y => y = ((a * b / 18446744073709551616, a * b % 18446744073709551616, ()), ())) := by
 unfold Cfb
 obtain ⟨h0, h1⟩ := of_decide_eq_true hok
 have a1 : -9223372036854775808 ≤ a ∧ a ≤ 9223372036854775807 := k1
 have b1 : -9223372036854775808 ≤ b ∧ b ≤ 9223372036854775807 := k2
 rw [Bdx (n := a) (by omega) (by omega), Bdx (n := b) (by omega) (by omega)]
 have : IntKind.u64.wrap (a * b) = a * b % 18446744073709551616 := by unfold IntKind.wrap; simp [IntKind.bits, IntKind.signed]
 rw [this]
 exact Bal rfl
abbrev C8o : PureT := Bbb [cI, cI] [cPr] (fun x => nn2 x.1 x.2.1) (fun x => ((x.1 * x.2.1 / 18446744073709551616, x.1 * x.2.1 % 18446744073709551616, ()), ()))
theorem Co7 : Bai Tryz.prog 144 C8o := Bbd (Bap Ban (puOk_cons is_Mul64.plain Co6 puOk_nil) (fns_cons is_times Fq)) 3 (fun x => Cfb x.1 x.2.1) (fun x => by kernel_rfl) fun _ hok hw => Cfc hw.1 hw.2.1 hok
def wdV (a b c d : Int) : Int := ((18446744073709551616 * a + b) - (18446744073709551616 * c + d)).sign
def Cfd (a b c d : Int) : TI1 := bif a == c && (b == d && true) then .leaf (0, ()) else bif (a - c).sign != 0 then .leaf ((a - c).sign, ()) else bif (b - d).sign != 0 then .leaf ((b - d).sign, ()) else .leaf (0, ())
theorem Cfe {a b c d : Int} (a1 : 0 ≤ a ∧ a ≤ 18446744073709551615) (b1 : 0 ≤ b ∧ b ≤ 18446744073709551615) (c1 : 0 ≤ c ∧ c ≤ 18446744073709551615) (d1 : 0 ≤ d ∧ d ≤ 18446744073709551615) : (Cfd a b c d).sat (fun y => y = (wdV a b c d, ())) := by
 unfold Cfd wdV
 refine Bb4 (fun h => ?_) (fun h => ?_)
 ·rw [Bool.and_true, Bool.and_eq_true] at h
  have e1 : a = c := by simpa using h.1
  have e2 : b = d := by simpa using h.2
  refine Bal ?_
  rw [Bo8 (show 18446744073709551616 * a + b = 18446744073709551616 * c + d by omega)]
 ·rcases Int.lt_trichotomy a c with x | x | x
  ·rw [Bo6 x, Bo6 (show 18446744073709551616 * a + b < 18446744073709551616 * c + d by omega)]
   exact Bal rfl
  ·rw [Bo8 x]
   rcases Int.lt_trichotomy b d with y | y | y
   ·rw [Bo6 y, Bo6 (show 18446744073709551616 * a + b < 18446744073709551616 * c + d by omega)]
    exact Bal rfl
   ·rw [Bo8 y, Bo8 (show 18446744073709551616 * a + b = 18446744073709551616 * c + d by omega)]
    exact Bal rfl
   ·rw [Bo7 y, Bo7 (show 18446744073709551616 * c + d < 18446744073709551616 * a + b by omega)]
    exact Bal rfl
  ·rw [Bo7 x, Bo7 (show 18446744073709551616 * c + d < 18446744073709551616 * a + b by omega)]
   exact Bal rfl
abbrev Bwd : PureT := Bbb [cPr, cPr] [cI] (fun _ => true) (fun x => (wdV x.1.1 x.1.2.1 x.2.1.1 x.2.1.2.1, ()))
theorem Cc9 : Bai Tryz.prog 145 Bwd := Bbd (Bap Ban (puOk_cons is_cmpU.plain Cwj puOk_nil) (fns_cons is_compare (fns_cons is_Or6 Fq))) 3 (fun x => Cfd x.1.1 x.1.2.1 x.2.1.1 x.2.1.2.1) (fun x => by kernel_rfl) fun _ _ hw => Cfe hw.1.1 hw.1.2.1 hw.2.1.1 hw.2.1.2.1
def lft (ax ay bx bY px py : Int) : Int := (bx - ax) * (py - ay) - (px - ax) * (bY - ay)
def alg (ax ay bx bY px py : Int) : Int := (bx - ax) * (px - ax) + (bY - ay) * (py - ay)
def LsV (ax ay bx bY px py r : Int) : Int :=
 bif decide (alg ax ay bx bY px py ≤ 0) then (sq ax ay px py - r * r).sign else
 bif decide (sq ax ay bx bY ≤ alg ax ay bx bY px py) then (sq bx bY px py - r * r).sign else
 (lft ax ay bx bY px py * lft ax ay bx bY px py - r * r * sq ax ay bx bY).sign
theorem C54 {x y u v : Int} (h1 : -8388608 ≤ x ∧ x ≤ 8388608) (h2 : -8388608 ≤ y ∧ y ≤ 8388608) (h3 : -8388608 ≤ u ∧ u ≤ 8388608) (h4 : -8388608 ≤ v ∧ v ≤ 8388608) :
  (-70368744177664 ≤ x * y ∧ x * y ≤ 70368744177664) ∧ (-70368744177664 ≤ u * v ∧ u * v ≤ 70368744177664) := by
 have b1 := Bc2 (a := x) (b := y) (A := 8388608) (B := 8388608) (by omega) (by omega) (by omega) (by omega)
 have b2 := Bc2 (a := u) (b := v) (A := 8388608) (B := 8388608) (by omega) (by omega) (by omega) (by omega)
 omega
def Cff (ax ay bx bY px py : Int) : Bool := fpt ax ay && (fpt bx bY && fpt px py)
def Cfg (ax ay bx bY px py : Int) : TI1 := .leaf (IntKind.i64.wrap (IntKind.i64.wrap (IntKind.i64.wrap (bx - ax) * IntKind.i64.wrap (py - ay)) - IntKind.i64.wrap (IntKind.i64.wrap (px - ax) * IntKind.i64.wrap (bY - ay))), ())
theorem Cfh {ax ay bx bY px py : Int} (hok : Cff ax ay bx bY px py = true) : (Cfg ax ay bx bY px py).sat (fun y => y = (lft ax ay bx bY px py, ())) := by
 unfold Cfg
 simp only [Cff, Bool.and_eq_true] at hok
 have c1 := Bgl hok.1
 have c2 := Bgl hok.2.1
 have c3 := Bgl hok.2.2
 have b := C54 (x := bx - ax) (y := py - ay) (u := px - ax) (v := bY - ay) (by omega) (by omega) (by omega) (by omega)
 rw [Bag (n := bx - ax) (by omega) (by omega), Bag (n := py - ay) (by omega) (by omega), Bag (n := px - ax) (by omega) (by omega), Bag (n := bY - ay) (by omega) (by omega), Bag (n := (bx - ax) * (py - ay)) (by omega) (by omega), Bag (n := (px - ax) * (bY - ay)) (by omega) (by omega), Bag (n := (bx - ax) * (py - ay) - (px - ax) * (bY - ay)) (by omega) (by omega)]
 exact Bal rfl
abbrev Cfi : PureT := Bbb [cPt, cPt, cPt] [cI] (fun x => Cff x.1.1 x.1.2.1 x.2.1.1 x.2.1.2.1 x.2.2.1.1 x.2.2.1.2.1) (fun x => (lft x.1.1 x.1.2.1 x.2.1.1 x.2.1.2.1 x.2.2.1.1 x.2.2.1.2.1, ()))
theorem Cwl : Bai Tryz.prog 143 Cfi := Bbd (Bap Ban puOk_nil (fns_cons is_left Fq)) 2 (fun x => Cfg x.1.1 x.1.2.1 x.2.1.1 x.2.1.2.1 x.2.2.1.1 x.2.2.1.2.1) (fun x => by kernel_rfl) fun _ hok _ => Cfh hok
def plLies : List (Nat × PureT) := [(143, Cfi), (68, Btt), (144, C8o), (145, Bwd), (142, Cf8), (66, Bh4)]
theorem puLies : Bc7 Tryz.prog plLies := puOk_cons is_left.plain Cwl (puOk_cons is_square.plain Bxb (puOk_cons is_times.plain Co7 (puOk_cons is_compare.plain Cc9 (puOk_cons is_cmpI6.plain Cwk (puOk_cons is_outside.plain Btn puOk_nil)))))
theorem Cwm (ax ay bx bY px py : Int) : sq bx bY px py = sq ax ay px py + sq ax ay bx bY - 2 * alg ax ay bx bY px py := by unfold sq alg; grind
theorem Co8 (n : Int) : max n (-n) * max n (-n) = n * n := by
 rcases Int.le_total 0 n with h | h
 ·rw [show max n (-n) = n by omega]
 ·rw [show max n (-n) = -n by omega, Int.neg_mul_neg]
def Cca (ax ay bx bY px py r : Int) : Bool := fpt ax ay && (fpt bx bY && (fpt px py && !Bb6 r 0 8388608))
def alW (ax ay bx bY px py : Int) : Int := IntKind.i64.wrap (IntKind.i64.wrap (IntKind.i64.wrap (bx - ax) * IntKind.i64.wrap (px - ax)) + IntKind.i64.wrap (IntKind.i64.wrap (bY - ay) * IntKind.i64.wrap (py - ay)))
def mW (ax ay bx bY px py : Int) : Int := max (lft ax ay bx bY px py) (IntKind.i64.wrap (0 - lft ax ay bx bY px py))
def C55 (ax ay bx bY px py r : Int) : TI1 :=
 bif fpt ax ay && fpt bx bY then
  bif decide (alW ax ay bx bY px py ≤ 0) then bif fpt ax ay && fpt px py then bif fpt bx bY && fpt px py then .leaf ((min (sq ax ay px py) (sq bx bY px py) - IntKind.i64.wrap (r * r)).sign, ()) else .fail else .fail
  else bif decide (alW ax ay bx bY px py ≥ sq ax ay bx bY) then bif fpt ax ay && fpt px py then bif fpt bx bY && fpt px py then .leaf ((min (sq ax ay px py) (sq bx bY px py) - IntKind.i64.wrap (r * r)).sign, ()) else .fail else .fail
  else bif Cff ax ay bx bY px py then bif nn2 (mW ax ay bx bY px py) (mW ax ay bx bY px py) then bif nn2 (IntKind.i64.wrap (r * r)) (sq ax ay bx bY) then
   .leaf (wdV (mW ax ay bx bY px py * mW ax ay bx bY px py / 18446744073709551616) (mW ax ay bx bY px py * mW ax ay bx bY px py % 18446744073709551616) (IntKind.i64.wrap (r * r) * sq ax ay bx bY / 18446744073709551616) (IntKind.i64.wrap (r * r) * sq ax ay bx bY % 18446744073709551616), ())
  else .fail else .fail else .fail
 else .fail
theorem Ccb {ax ay bx bY px py r : Int} (hok : Cca ax ay bx bY px py r = true) : (C55 ax ay bx bY px py r).sat (fun y => y = (LsV ax ay bx bY px py r, ())) := by
 simp only [Cca, Bool.and_eq_true, Bool.not_eq_true'] at hok
 obtain ⟨k1, k2, k3, k4⟩ := hok
 have c1 := Bgl k1
 have c2 := Bgl k2
 have c3 := Bgl k3
 have c4 := Bxa k4
 unfold C55 alW mW nn2 wdV Cff
 have b := C54 (x := bx - ax) (y := px - ax) (u := bY - ay) (v := py - ay) (by omega) (by omega) (by omega) (by omega)
 have bl := C54 (x := bx - ax) (y := py - ay) (u := px - ax) (v := bY - ay) (by omega) (by omega) (by omega) (by omega)
 have hl : lft ax ay bx bY px py = (bx - ax) * (py - ay) - (px - ax) * (bY - ay) := rfl
 have ha : alg ax ay bx bY px py = (bx - ax) * (px - ax) + (bY - ay) * (py - ay) := rfl
 have br := Bc2 (a := r) (b := r) (A := 8388608) (B := 8388608) (by omega) (by omega) (by omega) (by omega)
 have rn := Bgy r
 have sb := Cb8 k1 k2
 have hs := Cwm ax ay bx bY px py
 rw [Bag (n := bx - ax) (by omega) (by omega), Bag (n := px - ax) (by omega) (by omega), Bag (n := bY - ay) (by omega) (by omega), Bag (n := py - ay) (by omega) (by omega), Bag (n := (bx - ax) * (px - ax)) (by omega) (by omega), Bag (n := (bY - ay) * (py - ay)) (by omega) (by omega),
  Bag (n := (bx - ax) * (px - ax) + (bY - ay) * (py - ay)) (by omega) (by omega), ← ha, Bag (n := r * r) (by omega) (by omega), Bag (n := 0 - lft ax ay bx bY px py) (by omega) (by omega), Int.zero_sub, Co8, Int.mul_ediv_add_emod, Int.mul_ediv_add_emod, k1, k2, k3]
 unfold LsV
 refine Bb4 (fun _ => Bb4 (fun q => ?_) (fun q => Bb4 (fun q2 => ?_) (fun q2 => Bb4 (fun _ => Bb4 (fun _ => Bb4 (fun _ => ?_) (fun q3 => ?_)) (fun q3 => ?_)) (fun q3 => by simp at q3)))) (fun q => by simp at q)
 ·have q' := of_decide_eq_true q
  rw [q, show min (sq ax ay px py) (sq bx bY px py) = sq ax ay px py by omega]
  exact Bal rfl
 ·have q2' := of_decide_eq_true q2
  rw [q, decide_eq_true (show sq ax ay bx bY ≤ alg ax ay bx bY px py from q2'), show min (sq ax ay px py) (sq bx bY px py) = sq bx bY px py by omega]
  exact Bal rfl
 ·have q2' := of_decide_eq_false q2
  rw [q, decide_eq_false (show ¬ sq ax ay bx bY ≤ alg ax ay bx bY px py from q2')]
  exact Bal rfl
 ·have := of_decide_eq_false q3; omega
 ·have := of_decide_eq_false q3; omega
abbrev Cfj : PureT := Bbb [cPt, cPt, cPt, cI] [cI] (fun x => Cca x.1.1 x.1.2.1 x.2.1.1 x.2.1.2.1 x.2.2.1.1 x.2.2.1.2.1 x.2.2.2.1) (fun x => (LsV x.1.1 x.1.2.1 x.2.1.1 x.2.1.2.1 x.2.2.1.1 x.2.2.1.2.1 x.2.2.2.1, ()))
theorem Cwn : Bai Tryz.prog 112 Cfj := Bbd (Bap Ban puLies (fns_cons is_lies Fq)) 3 (fun x => C55 x.1.1 x.1.2.1 x.2.1.1 x.2.1.2.1 x.2.2.1.1 x.2.2.1.2.1 x.2.2.2.1) (fun x => by kernel_rfl) fun _ hok _ => Ccb hok
def plSeg : List (Nat × PureT) := (112, Cfj) :: plLies
theorem puSeg : Bc7 Tryz.prog plSeg := puOk_cons is_lies.plain Cwn puLies
def LsR (ax ay bx bY px py r : Int) : Int × Int := bif fpt ax ay && (fpt bx bY && fpt px py) then bif Bb6 r 0 8388608 then (0, 3) else (LsV ax ay bx bY px py r, 0) else (0, 2)
abbrev TI2 := Tree (TCTs [cI, cI])
def Co9 {α : Type} (x y : Int) (a b : Tree α) : Tree α := bif Bpt x y then a else bif Bpu x y then a else b
def C56 (ax ay bx bY px py r : Int) : TI2 := Co9 ax ay (.leaf (0, 2, ())) (Co9 bx bY (.leaf (0, 2, ())) (Co9 px py (.leaf (0, 2, ())) (
 bif Bb6 r 0 8388608 then .leaf (0, 3, ()) else bif Cca ax ay bx bY px py r then .leaf (LsV ax ay bx bY px py r, 0, ()) else .fail)))
theorem Ccc {ax ay bx bY px py r : Int} (a1 : inK .i64 ax) (a2 : inK .i64 ay) (a3 : inK .i64 bx) (a4 : inK .i64 bY) (a5 : inK .i64 px) (a6 : inK .i64 py) : (C56 ax ay bx bY px py r).sat (fun y => y = ((LsR ax ay bx bY px py r).1, (LsR ax ay bx bY px py r).2, ())) := by
 unfold C56 Co9
 refine Bg6 a1 a2 (fun k => ?_) (fun k1 => Bg6 a3 a4 (fun k => ?_) (fun k2 => Bg6 a5 a6 (fun k => ?_) (fun k3 => Bb4 (fun k => ?_) (fun k4 => ?_))))
 ·refine Bal ?_
  unfold LsR; rw [k]; rfl
 ·refine Bal ?_
  unfold LsR; rw [k1, k]; rfl
 ·refine Bal ?_
  unfold LsR; rw [k1, k2, k]; rfl
 ·refine Bal ?_
  unfold LsR; rw [k1, k2, k3, k]; rfl
 ·have : Cca ax ay bx bY px py r = true := by unfold Cca; rw [k1, k2, k3, k4]; rfl
  rw [this]
  refine Bal ?_
  unfold LsR; rw [k1, k2, k3, k4]; rfl
abbrev Cfk : PureT := Bbb [cPt, cPt, cPt, cI] [cI, cI] (fun _ => true) (fun x => ((LsR x.1.1 x.1.2.1 x.2.1.1 x.2.1.2.1 x.2.2.1.1 x.2.2.1.2.1 x.2.2.2.1).1, (LsR x.1.1 x.1.2.1 x.2.1.1 x.2.1.2.1 x.2.2.1.1 x.2.2.1.2.1 x.2.2.2.1).2, ()))
theorem Cwo : Bai Tryz.prog 72 Cfk := Bbd (Bap Ban puSeg (fns_cons is_Lies (fns_cons is_fits Fq))) 3 (fun x => C56 x.1.1 x.1.2.1 x.2.1.1 x.2.1.2.1 x.2.2.1.1 x.2.2.1.2.1 x.2.2.2.1) (fun x => by kernel_rfl) fun _ _ hw => Ccc hw.1.1 hw.1.2.1 hw.2.1.1 hw.2.1.2.1 hw.2.2.1.1 hw.2.2.1.2.1
end V
end Go.Proofs.YtcfanlgpkefogaaGreat
