import Derived.Test.YtcfanlgpkefogaaGreatSd
import Derived.Test.YtcfanlgpkefogaaGreatTV
import Derived.Test.YtcfanlgpkefogaaGreatUj
import Derived.Test.YtcfanlgpkefogaaGreatBa
import Derived.Test.YtcfanlgpkefogaaGreatZe
namespace Go.Proofs.YtcfanlgpkefogaaGreat
open Go.RowKit
namespace V
abbrev Bwf : PureT := Bbb [cPt, cPt, cI] [cPt, cI] (fun _ => true) (fun x => (((TwR x.1.1 x.1.2.1 x.2.1.1 x.2.1.2.1 x.2.2.1).1.1, (TwR x.1.1 x.1.2.1 x.2.1.1 x.2.1.2.1 x.2.2.1).1.2, ()), (TwR x.1.1 x.1.2.1 x.2.1.1 x.2.1.2.1 x.2.2.1).2, ()))
theorem Cck : Bai Tryz.prog 23 Bwf := C7h
end V
end Go.Proofs.YtcfanlgpkefogaaGreat
namespace Go.Proofs.YtcfanlgpkefogaaGreat
open Go.RowKit
namespace V
namespace St
abbrev Bbj : TC := .st [cI, cI, cI, cI, .b]
abbrev Bc3 : TC := .st [cI, cI, cI]
abbrev Bao : TC := .st [.s, cI, cI, cI, .sl Bbj, Baf, cI, cI, .sl Bc3]
abbrev cGr : TC := .st [Bao, .sl No, Bbw]
abbrev cSt : TC := .st [.sl Bau, .sl .b, cI, cI, cI]
abbrev cBl : TC := .st [cI, cPt, cI, cI]
abbrev cKn : TC := .st [cI, cI, cI, cI, cI]
theorem is_between2 : FnIs Tryz.prog (105, Tryz.f105) := ⟨Tryz.func105, by kernel_rfl, by kernel_rfl⟩
theorem is_validHoop : FnIs Tryz.prog (118, Tryz.f118) := ⟨Tryz.func118, by kernel_rfl, by kernel_rfl⟩
theorem is_validCell : FnIs Tryz.prog (121, Tryz.f121) := ⟨Tryz.func121, by kernel_rfl, by kernel_rfl⟩
theorem is_Check1 : FnIs Tryz.prog (117, Tryz.f117) := ⟨Tryz.func117, by kernel_rfl, by kernel_rfl⟩
theorem is_Check2 : FnIs Tryz.prog (120, Tryz.f120) := ⟨Tryz.func120, by kernel_rfl, by kernel_rfl⟩
theorem is_CG1 : FnIs Tryz.prog (124, Tryz.f124) := ⟨Tryz.func124, by kernel_rfl, by kernel_rfl⟩
theorem is_still1 : FnIs Tryz.prog (94, Tryz.f94) := ⟨Tryz.func94, by kernel_rfl, by kernel_rfl⟩
theorem is_Runs1 : FnIs Tryz.prog (82, Tryz.f82) := ⟨Tryz.func82, by kernel_rfl, by kernel_rfl⟩
theorem is_tChk : FnIs Tryz.prog (43, Tryz.f43) := ⟨Tryz.func43, by kernel_rfl, by kernel_rfl⟩
def inR (x lo hi : Int) : Bool := decide (lo ≤ x) && decide (x ≤ hi)
abbrev s_inR : PureT := Bbb [cI, cI, cI] [.b] (fun _ => true) (fun x => (inR x.1 x.2.1 x.2.2.1, ()))
abbrev TBo := Tree (TCTs [.b])
def Bnn (a : Bool) (t : TBo) : TBo := bif a then t else .leaf (false, ())
theorem Ber {a b : Bool} {t : TBo} (h : t.sat (fun y => y = (b, ()))) : (Bnn a t).sat (fun y => y = (a && b, ())) := by
 unfold Bnn
 cases a with
 | true => rw [Bool.true_and]; exact h
 | false => exact rfl
theorem Bwg (b : Bool) : (Tree.leaf (b, ()) : TBo).sat (fun y => y = (b, ())) := rfl
theorem q_between2 : Bai Tryz.prog 105 s_inR := Bbd (Bap Ban puOk_nil (fns_cons is_between2 Fq)) 3 (fun x => Bnn (decide (x.2.1 ≤ x.1)) (.leaf (decide (x.1 ≤ x.2.2.1), ()))) (fun x => by kernel_rfl) fun _ _ _ => Ber (Bwg _)
def plBt : List (Nat × PureT) := [(105, s_inR)]
theorem puBt : Bc7 Tryz.prog plBt := puOk_cons is_between2.plain q_between2 (puOk_nil)
def Bej (h : TCT Bbj) : Bool := inR h.1 0 4194304 && (inR h.2.1 0 4194304 && (inR h.2.2.1 2 32768 && ((Int.tmod h.2.2.1 2 == 0) && inR h.2.2.2.1 1 8192)))
def Bf7 (c : TCT Bc3) : Bool := inR c.1 0 65536 && (inR c.2.1 (-4096) 4096 && inR c.2.2.1 (-4096) 4096)
abbrev Byd : PureT := Bbb [Bbj] [.b] (fun _ => true) (fun x => (Bej x.1, ()))
abbrev Bye : PureT := Bbb [Bc3] [.b] (fun _ => true) (fun x => (Bf7 x.1, ()))
def Byf (h : TCT Bbj) : TBo := Bnn (inR h.1 0 4194304) (Bnn (inR h.2.1 0 4194304) (Bnn (inR h.2.2.1 2 32768) (Bnn (Int.tmod h.2.2.1 2 == 0) (.leaf (inR h.2.2.2.1 1 8192, ())))))
def Byg (c : TCT Bc3) : TBo := Bnn (inR c.1 0 65536) (Bnn (inR c.2.1 (-4096) 4096) (.leaf (inR c.2.2.1 (-4096) 4096, ())))
theorem Bsc (h : TCT Bbj) : (Byf h).sat (fun y => y = (Bej h, ())) := Ber (Ber (Ber (Ber (Bwg _))))
theorem Bsd (c : TCT Bc3) : (Byg c).sat (fun y => y = (Bf7 c, ())) := Ber (Ber (Bwg _))
theorem C0s : Bai Tryz.prog 118 Byd := Bbd (Bap Ban puBt (fns_cons is_validHoop Fq)) 3 (fun x => Byf x.1) (fun x => by kernel_rfl) fun x _ _ => Bsc x.1
theorem C0t : Bai Tryz.prog 121 Bye := Bbd (Bap Ban puBt (fns_cons is_validCell Fq)) 3 (fun x => Byg x.1) (fun x => by kernel_rfl) fun x _ _ => Bsd x.1
def Bec (m : TCT Bau) : Bool := m.2.1.1 == 0 && m.2.1.2.1 == 0
def Bfn (b : TCT No) : Bool := Bgr b.1 b.2.1
abbrev D1u : PureT := Bbb [Bbj] [.b] (fun _ => true) (fun x => (!Bej x.1, ()))
abbrev D1v : PureT := Bbb [Bc3] [.b] (fun _ => true) (fun x => (!Bf7 x.1, ()))
abbrev Cv8 : PureT := Bbb [No] [.b] (fun _ => true) (fun x => (!Bfn x.1, ()))
abbrev Cv9 : PureT := Bbb [Bau] [.b] (fun _ => true) (fun x => (!Bec x.1, ()))
abbrev Cva : PureT := Bbb [cPt] [.b] (fun _ => true) (fun x => (!fpt x.1.1 x.1.2.1, ()))
theorem D5k : Bai Tryz.prog 117 D1u := Bbd (Bap Ban (puOk_cons is_validHoop.plain C0s puOk_nil) (fns_cons is_Check1 Fq)) 3 (fun x => .leaf (!Bej x.1, ())) (fun x => by kernel_rfl) fun _ _ _ => rfl
theorem D5l : Bai Tryz.prog 120 D1v := Bbd (Bap Ban (puOk_cons is_validCell.plain C0t puOk_nil) (fns_cons is_Check2 Fq)) 3 (fun x => .leaf (!Bf7 x.1, ())) (fun x => by kernel_rfl) fun _ _ _ => rfl
theorem Bse (b : Bool) : (okE b != 0) = !b := by unfold okE; cases b <;> rfl
theorem D1w : Bai Tryz.prog 124 Cv8 := Bbd (Bap Ban (puOk_cons is_CheckBall.plain Bqu puOk_nil) (fns_cons is_CG1 Fq)) 3 (fun x => .leaf (okE (Bgr x.1.1 x.1.2.1) != 0, ())) (fun x => by kernel_rfl) fun x _ _ => by
 show (okE (Bgr x.1.1 x.1.2.1) != 0, ()) = (!Bfn x.1, ())
 rw [Bse]; rfl
theorem D1x : Bai Tryz.prog 94 Cv9 := Bbd (Bap Ban puOk_nil (fns_cons is_still1 Fq)) 3 (fun x => .leaf (!(x.1.2.1.1 == 0 && (x.1.2.1.2.1 == 0 && true)), ())) (fun x => by kernel_rfl) fun x _ _ => by
 show (!(x.1.2.1.1 == 0 && (x.1.2.1.2.1 == 0 && true)), ()) = (!Bec x.1, ())
 rw [Bool.and_true]; rfl
theorem D1y : Bai Tryz.prog 82 Cva := Bbd (Bap Ban (puOk_cons is_tChk.plain Bjg puOk_nil) (fns_cons is_Runs1 Fq)) 3 (fun x => .leaf (Bfr x.1.1 x.1.2.1 != 0, ())) (fun x => by kernel_rfl) fun x _ _ => by
 show (Bfr x.1.1 x.1.2.1 != 0, ()) = (!fpt x.1.1 x.1.2.1, ())
 unfold Bfr
 cases fpt x.1.1 x.1.2.1 <;> rfl
def plCl : List (Nat × PureT) := [(117, D1u), (120, D1v), (124, Cv8), (94, Cv9), (82, Cva)]
theorem puCl : Bc7 Tryz.prog plCl := puOk_cons is_Check1.plain D5k (puOk_cons is_Check2.plain D5l (puOk_cons is_CG1.plain D1w (puOk_cons is_still1.plain D1x (puOk_cons is_Runs1.plain D1y puOk_nil))))
theorem is_ixHoop : FnIs Tryz.prog (148, Tryz.f148) := ⟨Tryz.func148, by kernel_rfl, by kernel_rfl⟩
theorem is_cfHoop : FnIs Tryz.prog (116, Tryz.f116) := ⟨Tryz.func116, by kernel_rfl, by kernel_rfl⟩
abbrev Bg0 : List SK := []
def Bcx (k : SKTs Bg0) (x : TCT (Bbj)) : Bool := !Bej x
noncomputable def Bwh : Code := (Bak (bodyOf Tryz.f148)).getD 0 .skip
def Bha : Lay := { keys := [0, 1, 7, 8], ks := [.d (.sl (Bbj)), .f 117 [] Bg0, .d cI, .d cI], bs := [], n := 19, nx := 1000, marks := [] }
def Ccl : Lay := { keys := [4], ks := [.d cI], bs := [], n := 19, nx := 1000, marks := [] }
def Ccm : Lay := { keys := [], ks := [], bs := [], n := 19, nx := 1000, marks := [] }
def Bga : XE → Lay
 | .ret => Ccl
 | _ => Ccm
def Bwi (k : SKTs Bg0) (l : List (TCT (Bbj))) (n i : Int) : Bha.T := ((l, ((), k), n, i, ()), ())
def Bno (i : Int) : Fp Bga := ⟨.ret, ((i, ()), ())⟩
def Bnp : Fp Bga := ⟨.exit 0, ((), ())⟩
def Bhs (k : SKTs Bg0) (l : List (TCT (Bbj))) (n : Int) (x : TCT (Bbj)) (i : Int) : Tree (Bha.T ⊕ Fp Bga) := bif Bcx k x then .leaf (.inr (Bno i)) else .leaf (.inl (Bwi k l n (W64 (i + 1))))
def Ccn (k : SKTs Bg0) (l : List (TCT (Bbj))) (n i : Int) : Tree (Bha.T ⊕ Fp Bga) :=
 bif decide (i < n) then bif decide (0 ≤ i ∧ i < (l.length : Int)) then Bhs k l n (Bat l i.toNat (Bar (Bbj))) i else .fail else .leaf (.inr Bnp)
def Bmp (g : Bha.T) : Tree (Fp Bga) :=
 .br (Bio g.1.2.2.1 g.1.2.2.2.1 g.1.1) (.br (g.1.1.any (Bcx g.1.2.1.2)) (.leaf (Bno (g.1.1.findIdx (Bcx g.1.2.1.2)))) (.leaf Bnp)) .fail
theorem Cgo : Baz Tryz.prog 148 Bwh (Bav Bha Bga Bmp) := by
 refine Be6 (X := ctx Tryz.prog plCl []) (Bap Ban puCl Fq) 7 148 (fun _ => none) (fun _ _ f h => by simp at h) Bha Bga (fun e => by cases e <;> exact Nat.le_refl _) Bmp (fun g => Ccn g.1.2.1.2 g.1.1 g.1.2.2.1 g.1.2.2.2.1) (fun g => by kernel_rfl) ?_
 rintro ⟨⟨l, ⟨⟨⟩, k⟩, n, i, ⟨⟩⟩, ⟨⟩⟩ R hw hf
 obtain ⟨hf, h0⟩ := hf
 by_cases hc : n = (l.length : Int) ∧ i = 0
 ·obtain ⟨rfl, rfl⟩ := hc
  have hf := hf (decide_eq_true ⟨rfl, rfl⟩)
  refine Co2 l (Bar (Bbj)) (Beb hw.1.1) (fun n i _ => Bwi k l n i) (fun x i (_ : Unit) => bif Bcx k x then .inr (Bno i) else .inl ()) (fun _ => Bnp) (fun _ => True) (fun x i _ => Bhs k l l.length x i) (fun i _ => rfl) ?_ () trivial ?_
  ·intro i _ hi Q _ _ hw1 hQ
   show (Bhs k l l.length l[i] i).sat Q
   unfold Bhs
   rw [hw1]
   cases hp : Bcx k l[i] with
   | true => rw [hp] at hQ; exact hQ
   | false => rw [hp] at hQ; exact hQ trivial
  ·rw [Bm4 (Bcx k) (fun i => Bno i) Bnp l 0, Nat.zero_add]
   cases ha : l.any (Bcx k) with
   | true => exact hf.1 ha
   | false => exact hf.2 ha
 ·exact (h0 (decide_eq_false hc)).elim
abbrev Cgp : PureT := Bia [.d (.sl (Bbj)), .f 117 [] Bg0] [cI] (fun _ => true) (fun x => (bif x.1.any (Bcx x.2.1.2) then (x.1.findIdx (Bcx x.2.1.2) : Int) else -1, ()))
noncomputable def Cgq : Ctx := Bgo Tryz.prog plCl [(148, Tryz.f148)] [((148, keyOf Bwh), Bav Bha Bga Bmp)]
theorem C0u : CtxOk Cgq := Bc8 Ban puCl (fns_cons is_ixHoop Fq) (Bbt rfl (by kernel_rfl) Cgo)
def C0v (k : SKTs Bg0) (l : List (TCT (Bbj))) : Tree (Int × Unit) := bif Bio (l.length : Int) 0 l then bif l.any (Bcx k) then .leaf ((l.findIdx (Bcx k) : Int), ()) else .leaf (-1, ()) else .fail
theorem C0w (k : SKTs Bg0) (l : List (TCT (Bbj))) : (C0v k l).sat (fun y => y = (bif l.any (Bcx k) then (l.findIdx (Bcx k) : Int) else -1, ())) := by
 refine Ble (decide_eq_true ⟨rfl, rfl⟩) ?_
 cases l.any (Bcx k) <;> exact rfl
theorem Cgr : Bai Tryz.prog 148 Cgp := Bmm C0u 8 (fun x => C0v x.2.1.2 x.1) (fun x => by kernel_rfl) fun x _ _ => C0w _ _
abbrev C0x : PureT := Bia [.d (.sl (Bbj)), .f 117 [] Bg0] [.b] (fun _ => true) (fun x => (x.1.any (Bcx x.2.1.2), ()))
theorem C0y (k : SKTs Bg0) (l : List (TCT (Bbj))) : (Tree.leaf (decide ((bif l.any (Bcx k) then (l.findIdx (Bcx k) : Int) else -1) ≥ 0), ()) : Tree (Bool × Unit)).sat (fun y => y = (l.any (Bcx k), ())) := by
 rw [Bp4]; exact rfl
theorem Cgs : Bai Tryz.prog 116 C0x := Bmm (Bap Ban (puOk_cons is_ixHoop.plain Cgr puOk_nil) (fns_cons is_cfHoop Fq)) 8 (fun x => .leaf (decide ((bif x.1.any (Bcx x.2.1.2) then (x.1.findIdx (Bcx x.2.1.2) : Int) else -1) ≥ 0), ())) (fun x => by kernel_rfl) fun x _ _ => C0y _ _
theorem is_ixCell : FnIs Tryz.prog (149, Tryz.f149) := ⟨Tryz.func149, by kernel_rfl, by kernel_rfl⟩
theorem is_cfCell : FnIs Tryz.prog (119, Tryz.f119) := ⟨Tryz.func119, by kernel_rfl, by kernel_rfl⟩
abbrev Bg1 : List SK := []
def Bcy (k : SKTs Bg1) (x : TCT (Bc3)) : Bool := !Bf7 x
noncomputable def Bwj : Code := (Bak (bodyOf Tryz.f149)).getD 0 .skip
def Bhb : Lay := { keys := [0, 1, 7, 8], ks := [.d (.sl (Bc3)), .f 120 [] Bg1, .d cI, .d cI], bs := [], n := 19, nx := 1000, marks := [] }
def Cco : Lay := { keys := [4], ks := [.d cI], bs := [], n := 19, nx := 1000, marks := [] }
def Ccp : Lay := { keys := [], ks := [], bs := [], n := 19, nx := 1000, marks := [] }
def Bgb : XE → Lay
 | .ret => Cco
 | _ => Ccp
def Bwk (k : SKTs Bg1) (l : List (TCT (Bc3))) (n i : Int) : Bhb.T := ((l, ((), k), n, i, ()), ())
def Bnq (i : Int) : Fp Bgb := ⟨.ret, ((i, ()), ())⟩
def Bnr : Fp Bgb := ⟨.exit 0, ((), ())⟩
def Bht (k : SKTs Bg1) (l : List (TCT (Bc3))) (n : Int) (x : TCT (Bc3)) (i : Int) : Tree (Bhb.T ⊕ Fp Bgb) := bif Bcy k x then .leaf (.inr (Bnq i)) else .leaf (.inl (Bwk k l n (W64 (i + 1))))
def Ccq (k : SKTs Bg1) (l : List (TCT (Bc3))) (n i : Int) : Tree (Bhb.T ⊕ Fp Bgb) :=
 bif decide (i < n) then bif decide (0 ≤ i ∧ i < (l.length : Int)) then Bht k l n (Bat l i.toNat (Bar (Bc3))) i else .fail else .leaf (.inr Bnr)
def Bmq (g : Bhb.T) : Tree (Fp Bgb) :=
 .br (Bio g.1.2.2.1 g.1.2.2.2.1 g.1.1) (.br (g.1.1.any (Bcy g.1.2.1.2)) (.leaf (Bnq (g.1.1.findIdx (Bcy g.1.2.1.2)))) (.leaf Bnr)) .fail
theorem Cgt : Baz Tryz.prog 149 Bwj (Bav Bhb Bgb Bmq) := by
 refine Be6 (X := ctx Tryz.prog plCl []) (Bap Ban puCl Fq) 7 149 (fun _ => none) (fun _ _ f h => by simp at h) Bhb Bgb (fun e => by cases e <;> exact Nat.le_refl _) Bmq (fun g => Ccq g.1.2.1.2 g.1.1 g.1.2.2.1 g.1.2.2.2.1) (fun g => by kernel_rfl) ?_
 rintro ⟨⟨l, ⟨⟨⟩, k⟩, n, i, ⟨⟩⟩, ⟨⟩⟩ R hw hf
 obtain ⟨hf, h0⟩ := hf
 by_cases hc : n = (l.length : Int) ∧ i = 0
 ·obtain ⟨rfl, rfl⟩ := hc
  have hf := hf (decide_eq_true ⟨rfl, rfl⟩)
  refine Co2 l (Bar (Bc3)) (Beb hw.1.1) (fun n i _ => Bwk k l n i) (fun x i (_ : Unit) => bif Bcy k x then .inr (Bnq i) else .inl ()) (fun _ => Bnr) (fun _ => True) (fun x i _ => Bht k l l.length x i) (fun i _ => rfl) ?_ () trivial ?_
  ·intro i _ hi Q _ _ hw1 hQ
   show (Bht k l l.length l[i] i).sat Q
   unfold Bht
   rw [hw1]
   cases hp : Bcy k l[i] with
   | true => rw [hp] at hQ; exact hQ
   | false => rw [hp] at hQ; exact hQ trivial
  ·rw [Bm4 (Bcy k) (fun i => Bnq i) Bnr l 0, Nat.zero_add]
   cases ha : l.any (Bcy k) with
   | true => exact hf.1 ha
   | false => exact hf.2 ha
 ·exact (h0 (decide_eq_false hc)).elim
abbrev Cgu : PureT := Bia [.d (.sl (Bc3)), .f 120 [] Bg1] [cI] (fun _ => true) (fun x => (bif x.1.any (Bcy x.2.1.2) then (x.1.findIdx (Bcy x.2.1.2) : Int) else -1, ()))
noncomputable def Cgv : Ctx := Bgo Tryz.prog plCl [(149, Tryz.f149)] [((149, keyOf Bwj), Bav Bhb Bgb Bmq)]
theorem C0z : CtxOk Cgv := Bc8 Ban puCl (fns_cons is_ixCell Fq) (Bbt rfl (by kernel_rfl) Cgt)
def C11 (k : SKTs Bg1) (l : List (TCT (Bc3))) : Tree (Int × Unit) := bif Bio (l.length : Int) 0 l then bif l.any (Bcy k) then .leaf ((l.findIdx (Bcy k) : Int), ()) else .leaf (-1, ()) else .fail
theorem C12 (k : SKTs Bg1) (l : List (TCT (Bc3))) : (C11 k l).sat (fun y => y = (bif l.any (Bcy k) then (l.findIdx (Bcy k) : Int) else -1, ())) := by
 refine Ble (decide_eq_true ⟨rfl, rfl⟩) ?_
 cases l.any (Bcy k) <;> exact rfl
theorem Cgw : Bai Tryz.prog 149 Cgu := Bmm C0z 8 (fun x => C11 x.2.1.2 x.1) (fun x => by kernel_rfl) fun x _ _ => C12 _ _
abbrev C14 : PureT := Bia [.d (.sl (Bc3)), .f 120 [] Bg1] [.b] (fun _ => true) (fun x => (x.1.any (Bcy x.2.1.2), ()))
theorem C15 (k : SKTs Bg1) (l : List (TCT (Bc3))) : (Tree.leaf (decide ((bif l.any (Bcy k) then (l.findIdx (Bcy k) : Int) else -1) ≥ 0), ()) : Tree (Bool × Unit)).sat (fun y => y = (l.any (Bcy k), ())) := by
 rw [Bp4]; exact rfl
theorem Cgx : Bai Tryz.prog 119 C14 := Bmm (Bap Ban (puOk_cons is_ixCell.plain Cgw puOk_nil) (fns_cons is_cfCell Fq)) 8 (fun x => .leaf (decide ((bif x.1.any (Bcy x.2.1.2) then (x.1.findIdx (Bcy x.2.1.2) : Int) else -1) ≥ 0), ())) (fun x => by kernel_rfl) fun x _ _ => C15 _ _
theorem is_ixBall : FnIs Tryz.prog (151, Tryz.f151) := ⟨Tryz.func151, by kernel_rfl, by kernel_rfl⟩
theorem is_cfBall : FnIs Tryz.prog (123, Tryz.f123) := ⟨Tryz.func123, by kernel_rfl, by kernel_rfl⟩
abbrev Bg2 : List SK := []
def Bcz (k : SKTs Bg2) (x : TCT (No)) : Bool := !Bfn x
noncomputable def Bwl : Code := (Bak (bodyOf Tryz.f151)).getD 0 .skip
def Bhc : Lay := { keys := [0, 1, 7, 8], ks := [.d (.sl (No)), .f 124 [] Bg2, .d cI, .d cI], bs := [], n := 19, nx := 1000, marks := [] }
def Ccr : Lay := { keys := [4], ks := [.d cI], bs := [], n := 19, nx := 1000, marks := [] }
def Ccs : Lay := { keys := [], ks := [], bs := [], n := 19, nx := 1000, marks := [] }
def Bgc : XE → Lay
 | .ret => Ccr
 | _ => Ccs
def Bwm (k : SKTs Bg2) (l : List (TCT (No))) (n i : Int) : Bhc.T := ((l, ((), k), n, i, ()), ())
def Bns (i : Int) : Fp Bgc := ⟨.ret, ((i, ()), ())⟩
def Bnt : Fp Bgc := ⟨.exit 0, ((), ())⟩
def Bhu (k : SKTs Bg2) (l : List (TCT (No))) (n : Int) (x : TCT (No)) (i : Int) : Tree (Bhc.T ⊕ Fp Bgc) := bif Bcz k x then .leaf (.inr (Bns i)) else .leaf (.inl (Bwm k l n (W64 (i + 1))))
def Cct (k : SKTs Bg2) (l : List (TCT (No))) (n i : Int) : Tree (Bhc.T ⊕ Fp Bgc) :=
 bif decide (i < n) then bif decide (0 ≤ i ∧ i < (l.length : Int)) then Bhu k l n (Bat l i.toNat (Bar (No))) i else .fail else .leaf (.inr Bnt)
def Bmr (g : Bhc.T) : Tree (Fp Bgc) :=
 .br (Bio g.1.2.2.1 g.1.2.2.2.1 g.1.1) (.br (g.1.1.any (Bcz g.1.2.1.2)) (.leaf (Bns (g.1.1.findIdx (Bcz g.1.2.1.2)))) (.leaf Bnt)) .fail
theorem Cgy : Baz Tryz.prog 151 Bwl (Bav Bhc Bgc Bmr) := by
 refine Be6 (X := ctx Tryz.prog plCl []) (Bap Ban puCl Fq) 7 151 (fun _ => none) (fun _ _ f h => by simp at h) Bhc Bgc (fun e => by cases e <;> exact Nat.le_refl _) Bmr (fun g => Cct g.1.2.1.2 g.1.1 g.1.2.2.1 g.1.2.2.2.1) (fun g => by kernel_rfl) ?_
 rintro ⟨⟨l, ⟨⟨⟩, k⟩, n, i, ⟨⟩⟩, ⟨⟩⟩ R hw hf
 obtain ⟨hf, h0⟩ := hf
 by_cases hc : n = (l.length : Int) ∧ i = 0
 ·obtain ⟨rfl, rfl⟩ := hc
  have hf := hf (decide_eq_true ⟨rfl, rfl⟩)
  refine Co2 l (Bar (No)) (Beb hw.1.1) (fun n i _ => Bwm k l n i) (fun x i (_ : Unit) => bif Bcz k x then .inr (Bns i) else .inl ()) (fun _ => Bnt) (fun _ => True) (fun x i _ => Bhu k l l.length x i) (fun i _ => rfl) ?_ () trivial ?_
  ·intro i _ hi Q _ _ hw1 hQ
   show (Bhu k l l.length l[i] i).sat Q
   unfold Bhu
   rw [hw1]
   cases hp : Bcz k l[i] with
   | true => rw [hp] at hQ; exact hQ
   | false => rw [hp] at hQ; exact hQ trivial
  ·rw [Bm4 (Bcz k) (fun i => Bns i) Bnt l 0, Nat.zero_add]
   cases ha : l.any (Bcz k) with
   | true => exact hf.1 ha
   | false => exact hf.2 ha
 ·exact (h0 (decide_eq_false hc)).elim
abbrev Cgz : PureT := Bia [.d (.sl (No)), .f 124 [] Bg2] [cI] (fun _ => true) (fun x => (bif x.1.any (Bcz x.2.1.2) then (x.1.findIdx (Bcz x.2.1.2) : Int) else -1, ()))
noncomputable def Ch0 : Ctx := Bgo Tryz.prog plCl [(151, Tryz.f151)] [((151, keyOf Bwl), Bav Bhc Bgc Bmr)]
theorem C16 : CtxOk Ch0 := Bc8 Ban puCl (fns_cons is_ixBall Fq) (Bbt rfl (by kernel_rfl) Cgy)
def C17 (k : SKTs Bg2) (l : List (TCT (No))) : Tree (Int × Unit) := bif Bio (l.length : Int) 0 l then bif l.any (Bcz k) then .leaf ((l.findIdx (Bcz k) : Int), ()) else .leaf (-1, ()) else .fail
theorem C18 (k : SKTs Bg2) (l : List (TCT (No))) : (C17 k l).sat (fun y => y = (bif l.any (Bcz k) then (l.findIdx (Bcz k) : Int) else -1, ())) := by
 refine Ble (decide_eq_true ⟨rfl, rfl⟩) ?_
 cases l.any (Bcz k) <;> exact rfl
theorem Ch1 : Bai Tryz.prog 151 Cgz := Bmm C16 8 (fun x => C17 x.2.1.2 x.1) (fun x => by kernel_rfl) fun x _ _ => C18 _ _
abbrev C19 : PureT := Bia [.d (.sl (No)), .f 124 [] Bg2] [.b] (fun _ => true) (fun x => (x.1.any (Bcz x.2.1.2), ()))
theorem C1a (k : SKTs Bg2) (l : List (TCT (No))) : (Tree.leaf (decide ((bif l.any (Bcz k) then (l.findIdx (Bcz k) : Int) else -1) ≥ 0), ()) : Tree (Bool × Unit)).sat (fun y => y = (l.any (Bcz k), ())) := by
 rw [Bp4]; exact rfl
theorem Ch2 : Bai Tryz.prog 123 C19 := Bmm (Bap Ban (puOk_cons is_ixBall.plain Ch1 puOk_nil) (fns_cons is_cfBall Fq)) 8 (fun x => .leaf (decide ((bif x.1.any (Bcz x.2.1.2) then (x.1.findIdx (Bcz x.2.1.2) : Int) else -1) ≥ 0), ())) (fun x => by kernel_rfl) fun x _ _ => C1a _ _
theorem is_ixMot : FnIs Tryz.prog (133, Tryz.f133) := ⟨Tryz.func133, by kernel_rfl, by kernel_rfl⟩
theorem is_cfMot : FnIs Tryz.prog (93, Tryz.f93) := ⟨Tryz.func93, by kernel_rfl, by kernel_rfl⟩
abbrev Bie : List SK := []
def Bdy (k : SKTs Bie) (x : TCT (Bau)) : Bool := !Bec x
noncomputable def C1b : Code := (Bak (bodyOf Tryz.f133)).getD 0 .skip
def Bj9 : Lay := { keys := [0, 1, 7, 8], ks := [.d (.sl (Bau)), .f 94 [] Bie, .d cI, .d cI], bs := [], n := 19, nx := 1000, marks := [] }
def Ch3 : Lay := { keys := [4], ks := [.d cI], bs := [], n := 19, nx := 1000, marks := [] }
def Ch4 : Lay := { keys := [], ks := [], bs := [], n := 19, nx := 1000, marks := [] }
def Bhv : XE → Lay
 | .ret => Ch3
 | _ => Ch4
def C1c (k : SKTs Bie) (l : List (TCT (Bau))) (n i : Int) : Bj9.T := ((l, ((), k), n, i, ()), ())
def Bro (i : Int) : Fp Bhv := ⟨.ret, ((i, ()), ())⟩
def Brp : Fp Bhv := ⟨.exit 0, ((), ())⟩
def Bja (k : SKTs Bie) (l : List (TCT (Bau))) (n : Int) (x : TCT (Bau)) (i : Int) : Tree (Bj9.T ⊕ Fp Bhv) := bif Bdy k x then .leaf (.inr (Bro i)) else .leaf (.inl (C1c k l n (W64 (i + 1))))
def Ch5 (k : SKTs Bie) (l : List (TCT (Bau))) (n i : Int) : Tree (Bj9.T ⊕ Fp Bhv) :=
 bif decide (i < n) then bif decide (0 ≤ i ∧ i < (l.length : Int)) then Bja k l n (Bat l i.toNat (Bar (Bau))) i else .fail else .leaf (.inr Brp)
def Bph (g : Bj9.T) : Tree (Fp Bhv) :=
 .br (Bio g.1.2.2.1 g.1.2.2.2.1 g.1.1) (.br (g.1.1.any (Bdy g.1.2.1.2)) (.leaf (Bro (g.1.1.findIdx (Bdy g.1.2.1.2)))) (.leaf Brp)) .fail
theorem Cp2 : Baz Tryz.prog 133 C1b (Bav Bj9 Bhv Bph) := by
 refine Be6 (X := ctx Tryz.prog plCl []) (Bap Ban puCl Fq) 7 133 (fun _ => none) (fun _ _ f h => by simp at h) Bj9 Bhv (fun e => by cases e <;> exact Nat.le_refl _) Bph (fun g => Ch5 g.1.2.1.2 g.1.1 g.1.2.2.1 g.1.2.2.2.1) (fun g => by kernel_rfl) ?_
 rintro ⟨⟨l, ⟨⟨⟩, k⟩, n, i, ⟨⟩⟩, ⟨⟩⟩ R hw hf
 obtain ⟨hf, h0⟩ := hf
 by_cases hc : n = (l.length : Int) ∧ i = 0
 ·obtain ⟨rfl, rfl⟩ := hc
  have hf := hf (decide_eq_true ⟨rfl, rfl⟩)
  refine Co2 l (Bar (Bau)) (Beb hw.1.1) (fun n i _ => C1c k l n i) (fun x i (_ : Unit) => bif Bdy k x then .inr (Bro i) else .inl ()) (fun _ => Brp) (fun _ => True) (fun x i _ => Bja k l l.length x i) (fun i _ => rfl) ?_ () trivial ?_
  ·intro i _ hi Q _ _ hw1 hQ
   show (Bja k l l.length l[i] i).sat Q
   unfold Bja
   rw [hw1]
   cases hp : Bdy k l[i] with
   | true => rw [hp] at hQ; exact hQ
   | false => rw [hp] at hQ; exact hQ trivial
  ·rw [Bm4 (Bdy k) (fun i => Bro i) Brp l 0, Nat.zero_add]
   cases ha : l.any (Bdy k) with
   | true => exact hf.1 ha
   | false => exact hf.2 ha
 ·exact (h0 (decide_eq_false hc)).elim
abbrev Cp3 : PureT := Bia [.d (.sl (Bau)), .f 94 [] Bie] [cI] (fun _ => true) (fun x => (bif x.1.any (Bdy x.2.1.2) then (x.1.findIdx (Bdy x.2.1.2) : Int) else -1, ()))
noncomputable def Cp4 : Ctx := Bgo Tryz.prog plCl [(133, Tryz.f133)] [((133, keyOf C1b), Bav Bj9 Bhv Bph)]
theorem C5l : CtxOk Cp4 := Bc8 Ban puCl (fns_cons is_ixMot Fq) (Bbt rfl (by kernel_rfl) Cp2)
def C90 (k : SKTs Bie) (l : List (TCT (Bau))) : Tree (Int × Unit) := bif Bio (l.length : Int) 0 l then bif l.any (Bdy k) then .leaf ((l.findIdx (Bdy k) : Int), ()) else .leaf (-1, ()) else .fail
theorem C5m (k : SKTs Bie) (l : List (TCT (Bau))) : (C90 k l).sat (fun y => y = (bif l.any (Bdy k) then (l.findIdx (Bdy k) : Int) else -1, ())) := by
 refine Ble (decide_eq_true ⟨rfl, rfl⟩) ?_
 cases l.any (Bdy k) <;> exact rfl
theorem Cp5 : Bai Tryz.prog 133 Cp3 := Bmm C5l 8 (fun x => C90 x.2.1.2 x.1) (fun x => by kernel_rfl) fun x _ _ => C5m _ _
abbrev C91 : PureT := Bia [.d (.sl (Bau)), .f 94 [] Bie] [.b] (fun _ => true) (fun x => (x.1.any (Bdy x.2.1.2), ()))
theorem C5n (k : SKTs Bie) (l : List (TCT (Bau))) : (Tree.leaf (decide ((bif l.any (Bdy k) then (l.findIdx (Bdy k) : Int) else -1) ≥ 0), ()) : Tree (Bool × Unit)).sat (fun y => y = (l.any (Bdy k), ())) := by
 rw [Bp4]; exact rfl
theorem Cp6 : Bai Tryz.prog 93 C91 := Bmm (Bap Ban (puOk_cons is_ixMot.plain Cp5 puOk_nil) (fns_cons is_cfMot Fq)) 8 (fun x => .leaf (decide ((bif x.1.any (Bdy x.2.1.2) then (x.1.findIdx (Bdy x.2.1.2) : Int) else -1) ≥ 0), ())) (fun x => by kernel_rfl) fun x _ _ => C5n _ _
end St
end V
end Go.Proofs.YtcfanlgpkefogaaGreat
namespace Go.Proofs.YtcfanlgpkefogaaGreat
open Go.RowKit
namespace V
namespace St
theorem is_lposts : FnIs Tryz.prog (74, Tryz.f74) := ⟨Tryz.func74, by kernel_rfl, by kernel_rfl⟩
theorem is_lwires : FnIs Tryz.prog (114, Tryz.f114) := ⟨Tryz.func114, by kernel_rfl, by kernel_rfl⟩
theorem is_turned : FnIs Tryz.prog (84, Tryz.f84) := ⟨Tryz.func84, by kernel_rfl, by kernel_rfl⟩
abbrev kLw : List SK := [.d .s, .d cI, .d cI, .d cI, .d (.sl Bbj), .d cI, .d cI, .d cI, .d cI, .d cI, .d (.sl Bc3)]
def Bka (x : SKTs kLw) : TCT Bao := (x.1, x.2.1, x.2.2.1, x.2.2.2.1, x.2.2.2.2.1, ((x.2.2.2.2.2.1, x.2.2.2.2.2.2.1, ()), x.2.2.2.2.2.2.2.1, ()), x.2.2.2.2.2.2.2.2.1, x.2.2.2.2.2.2.2.2.2.1, x.2.2.2.2.2.2.2.2.2.2.1, ())
def Bd0 (l : TCT Bao) : SKTs kLw := (l.1, l.2.1, l.2.2.1, l.2.2.2.1, l.2.2.2.2.1, l.2.2.2.2.2.1.1.1, l.2.2.2.2.2.1.1.2.1, l.2.2.2.2.2.1.2.1, l.2.2.2.2.2.2.1, l.2.2.2.2.2.2.2.1, l.2.2.2.2.2.2.2.2.1, ())
def Bay (l : TCT Bao) : List (TCT Bbj) := l.2.2.2.2.1
def Bip (l : TCT Bao) : TCT Baf := l.2.2.2.2.2.1
def dW (h : TCT Bbj) : Int := W64 (W64 (Int.tdiv h.2.2.1 2) + h.2.2.2.1)
def Bm8 (x y r : Int) : TCT Baf := ((x, y, ()), r, ())
def w2 (h : TCT Bbj) : List (TCT Baf) := bif h.2.2.2.2.1 then [Bm8 h.1 (W64 (h.2.1 - dW h)) h.2.2.2.1, Bm8 h.1 (W64 (h.2.1 + dW h)) h.2.2.2.1] else [Bm8 (W64 (h.1 - dW h)) h.2.1 h.2.2.2.1, Bm8 (W64 (h.1 + dW h)) h.2.1 h.2.2.2.1]
def Bbk (l : TCT Bao) : List (TCT Baf) := (Bay l).flatMap w2 ++ [Bip l]
noncomputable def D1z : Code := (Bak (bodyOf Tryz.f74)).getD 0 .skip
def Bvt : Lay := { keys := [1, 2, 7, 8, 9], ks := [.p 0 0 0 0, .o 33 Baf, .d (.sl Bbj), .d cI, .d cI], bs := [(0, 36, kLw)], n := 24, nx := 1000, marks := [] }
def D20 : Lay := { keys := [1, 2], ks := [.p 0 0 0 0, .o 33 Baf], bs := [(0, 36, kLw)], n := 24, nx := 1000, marks := [] }
def Byh : XE → Lay := fun _ => D20
def Ch6 (x : SKTs kLw) (hs : List (TCT Bbj)) (n : Int) (i : Int) (o : List (TCT Baf)) : Bvt.T := (((), o, hs, n, i, ()), (x, ()))
def Bwn (x : SKTs kLw) (o : List (TCT Baf)) : Fp Byh := ⟨.exit 0, (((), o, ()), (x, ()))⟩
def C5o (x : SKTs kLw) (hs : List (TCT Bbj)) (n i : Int) (o w : List (TCT Baf)) : Tree (Bvt.T ⊕ Fp Byh) := bif Bd8 o w 24 then .leaf (.inl (Ch6 x hs n (W64 (i + 1)) (o ++ w))) else .fail
def Byi (x : SKTs kLw) (hs : List (TCT Bbj)) (n i : Int) (o : List (TCT Baf)) (h : TCT Bbj) : Tree (Bvt.T ⊕ Fp Byh) :=
 bif h.2.2.2.2.1 then C5o x hs n i o [Bm8 (W64 (h.1 - 0)) (W64 (h.2.1 - dW h)) h.2.2.2.1, Bm8 (W64 (h.1 + 0)) (W64 (h.2.1 + dW h)) h.2.2.2.1]
 else C5o x hs n i o [Bm8 (W64 (h.1 - dW h)) (W64 (h.2.1 - 0)) h.2.2.2.1, Bm8 (W64 (h.1 + dW h)) (W64 (h.2.1 + 0)) h.2.2.2.1]
def C1d (g : Bvt.T) : Tree (Bvt.T ⊕ Fp Byh) :=
 bif decide (g.1.2.2.2.2.1 < g.1.2.2.2.1) then bif decide (0 ≤ g.1.2.2.2.2.1 ∧ g.1.2.2.2.2.1 < ((g.1.2.2.1 : List (TCT Bbj)).length : Int)) then Byi g.2.1 g.1.2.2.1 g.1.2.2.2.1 g.1.2.2.2.2.1 g.1.2.1 (Bat g.1.2.2.1 (Int.toNat g.1.2.2.2.2.1) (Bar Bbj)) else .fail else .leaf (.inr (Bwn g.2.1 g.1.2.1))
def Ch7 (g : Bvt.T) : Nat := (g.1.2.2.1 : List (TCT Bbj)).length + 1
noncomputable def D21 : Ctx := ctx Tryz.prog [] [(114, Tryz.f114), (84, Tryz.f84)]
theorem Ch8 : CtxOk D21 := Bap Ban puOk_nil (fns_cons is_lwires (fns_cons is_turned Fq))
theorem D5m : Baz Tryz.prog 74 D1z (Bav Bvt Byh (Bcn [.exit 0] C1d Ch7)) := Bbc Ch8 7 _ Bvt Byh (fun _ => Nat.le_refl _) [.exit 0] C1d Ch7 (fun g => by kernel_rfl)
noncomputable def D5n : Ctx := Bgo Tryz.prog [] [(74, Tryz.f74)] [((74, 2), Bav Bvt Byh (Bcn [.exit 0] C1d Ch7))]
theorem Cp7 : CtxOk D5n := Bc8 Ban puOk_nil (fns_cons is_lposts Fq) (Bbt (by kernel_rfl) (by kernel_rfl) D5m)
def Cp8 (l : TCT Bao) : Option (Fp Byh) := iter C1d ((Bay l).length + 1) (Ch6 (Bd0 l) (Bay l) (Bay l).length 0 [])
abbrev TPo := Tree (TCTs [.sl Baf])
def C5p (r : D20.T) : TPo := bif Bd8 r.1.2.1 [Bip (Bka r.2.1)] 24 then .leaf (r.1.2.1 ++ [Bip (Bka r.2.1)], ()) else .fail
def Cxd (l : TCT Bao) : TPo := bif isE (.exit 0) (Cp8 l) then C5p (Bc4 (.exit 0) (Cp8 l)) else .fail
abbrev Bjb : PureT := Bbb [Bao] [.sl Baf] (fun x => decide ((Bay x.1).length ≤ 1000)) (fun x => (Bbk x.1, ()))
theorem Bpi {α β E : Type} (w : α → List β) (ex : List β → E) : ∀ (l : List α) (i : Nat) (s : List β), Bni (fun _ x s => some (.inl (s ++ w x))) (fun s => some (ex s)) i l s = some (ex (s ++ l.flatMap w))
 | [], _, s => by simp [Bni]
 | x :: l, i, s => by simp only [Bni]; rw [Bpi w ex l (i + 1)]; simp [List.append_assoc]
theorem C5q (h : TCT Bbj) : (w2 h).length = 2 := by unfold w2; cases h.2.2.2.2.1 <;> rfl
theorem Bnu (l : List (TCT Bbj)) : (l.flatMap w2).length = 2 * l.length := by
 induction l with
 | nil => rfl
 | cons h l ih =>
  have e : ((h :: l).flatMap w2).length = (w2 h).length + (l.flatMap w2).length := by rw [List.flatMap_cons, List.length_append]
  rw [e, ih, C5q, List.length_cons]; omega
theorem Bwo {o w : List (TCT Baf)} (h : o.length + w.length ≤ 4000) : Bd8 o w 24 = true := by
 rw [Be0]; exact decide_eq_true (by omega)
theorem Cxe {h : TCT Bbj} (hw : WFD Bbj h) : W64 (h.1 - 0) = h.1 ∧ W64 (h.1 + 0) = h.1 ∧ W64 (h.2.1 - 0) = h.2.1 ∧ W64 (h.2.1 + 0) = h.2.1 := by
 obtain ⟨x, y, g, w, a, ⟨⟩⟩ := h
 obtain ⟨h1, h2, _⟩ := hw
 have h1 : -9223372036854775808 ≤ x ∧ x ≤ 9223372036854775807 := h1
 have h2 : -9223372036854775808 ≤ y ∧ y ≤ 9223372036854775807 := h2
 exact ⟨by rw [Int.sub_zero]; exact Bba h1.1 h1.2, by rw [Int.add_zero]; exact Bba h1.1 h1.2, by rw [Int.sub_zero]; exact Bba h2.1 h2.2, by rw [Int.add_zero]; exact Bba h2.1 h2.2⟩
theorem Cp9 {l : TCT Bao} (hw : ∀ h ∈ Bay l, WFD Bbj h) (hl : (Bay l).length ≤ 1000) : Cp8 l = some (Bwn (Bd0 l) ((Bay l).flatMap w2)) := by
 unfold Cp8
 have key := Bds (st := C1d) (Bay l) (fun i o => Ch6 (Bd0 l) (Bay l) (Bay l).length (i : Int) o) (fun _ h o => some (.inl (o ++ w2 h))) (fun o => some (Bwn (Bd0 l) o)) (fun i o => o.length = 2 * i)
  (fun i o hi hI => by
   simp only
   refine ⟨?_, by rw [List.length_append, hI, C5q]; omega⟩
   show (bif decide ((i : Int) < ((Bay l).length : Int)) then bif decide (0 ≤ (i : Int) ∧ (i : Int) < ((Bay l).length : Int)) then Byi (Bd0 l) (Bay l) (Bay l).length (i : Int) o (Bat (Bay l) (Int.toNat (i : Int)) (Bar Bbj)) else .fail else .leaf (.inr (Bwn (Bd0 l) o))).run = _
   rw [decide_eq_true (show (i : Int) < ((Bay l).length : Int) by omega), decide_eq_true (show 0 ≤ (i : Int) ∧ (i : Int) < ((Bay l).length : Int) by omega), show Int.toNat (i : Int) = i by omega, Bcl hi]
   obtain ⟨e1, e2, e3, e4⟩ := Cxe (hw _ (List.getElem_mem hi))
   simp only [cond_true]
   unfold Byi w2 C5o
   rw [e1, e2, e3, e4, Bba (n := (i : Int) + 1) (by omega) (by omega)]
   cases (Bay l)[i].2.2.2.2.1 with
   | true =>
    simp only [cond_true]
    rw [Bwo (by simp only [List.length_cons, List.length_nil, hI]; omega)]
    rfl
   | false =>
    simp only [cond_false]
    rw [Bwo (by simp only [List.length_cons, List.length_nil, hI]; omega)]
    rfl)
  (fun o e hI he => by
   cases he
   show (bif decide (((Bay l).length : Int) < ((Bay l).length : Int)) then _ else Tree.leaf (Sum.inr (Bwn (Bd0 l) o)) : Tree (Bvt.T ⊕ Fp Byh)).run = _
   rw [decide_eq_false (show ¬ ((Bay l).length : Int) < ((Bay l).length : Int) by omega)]
   rfl)
  (Bay l).length 0 [] (Bwn (Bd0 l) ((Bay l).flatMap w2)) ((Bay l).length + 1) (by omega) (by omega) rfl (by rw [List.drop_zero, Bpi, List.nil_append])
 exact key
theorem Byj : Bai Tryz.prog 74 Bjb := Bbd Cp7 7 (fun x => Cxd x.1) (fun x => by kernel_rfl) fun x hok hw => by
 have hl : (Bay x.1).length ≤ 1000 := of_decide_eq_true hok
 show (Cxd x.1).sat _
 unfold Cxd
 rw [Cp9 (Cur hw.1.2.2.2.2.1) hl]
 show (C5p (((), (Bay x.1).flatMap w2, ()), (Bd0 x.1, ()))).sat _
 unfold C5p
 simp only
 rw [Bwo (by rw [Bnu]; simp only [List.length_cons, List.length_nil]; omega)]
 exact rfl
end St
end V
end Go.Proofs.YtcfanlgpkefogaaGreat
namespace Go.Proofs.YtcfanlgpkefogaaGreat
open Go.RowKit
namespace V
namespace St
def Bvu : Lay := { keys := [1, 3, 4], ks := [.p 0 0 0 0, .o 33 Baf, .d cI], bs := [(0, 36, kLw)], n := 73, nx := 1000, marks := [] }
def D23 : Lay := { keys := [1, 3], ks := [.p 0 0 0 0, .o 33 Baf], bs := [(0, 36, kLw)], n := 73, nx := 1000, marks := [] }
def Byk : XE → Lay := fun _ => D23
def Ch9 (x : SKTs kLw) (i : Int) (o : List (TCT Baf)) : Bvu.T := (((), o, i, ()), (x, ()))
def Bwp (x : SKTs kLw) (o : List (TCT Baf)) : Fp Byk := ⟨.exit 0, (((), o, ()), (x, ()))⟩
def C5r (x : SKTs kLw) (i : Int) (o w : List (TCT Baf)) : Tree (Bvu.T ⊕ Fp Byk) := bif Bd8 o w 24 then .leaf (.inl (Ch9 x (W64 (i + 1)) (o ++ w))) else .fail
def Byl (x : SKTs kLw) (i : Int) (o : List (TCT Baf)) (h : TCT Bbj) : Tree (Bvu.T ⊕ Fp Byk) :=
 bif h.2.2.2.2.1 then C5r x i o [Bm8 h.1 (W64 (h.2.1 - dW h)) h.2.2.2.1, Bm8 h.1 (W64 (h.2.1 + dW h)) h.2.2.2.1]
 else C5r x i o [Bm8 (W64 (h.1 - dW h)) h.2.1 h.2.2.2.1, Bm8 (W64 (h.1 + dW h)) h.2.1 h.2.2.2.1]
def C1e (g : Bvu.T) : Tree (Bvu.T ⊕ Fp Byk) :=
 bif decide (g.1.2.2.1 < ((g.2.1.2.2.2.2.1 : List (TCT Bbj)).length : Int)) then bif decide (0 ≤ g.1.2.2.1 ∧ g.1.2.2.1 < ((g.2.1.2.2.2.2.1 : List (TCT Bbj)).length : Int)) then Byl g.2.1 g.1.2.2.1 g.1.2.1 (Bat g.2.1.2.2.2.2.1 (Int.toNat g.1.2.2.1) (Bar Bbj)) else .fail else .leaf (.inr (Bwp g.2.1 g.1.2.1))
def Cha (g : Bvu.T) : Nat := (g.2.1.2.2.2.2.1 : List (TCT Bbj)).length + 1
noncomputable def D24 : Ctx := ctx Tryz.prog [] []
theorem Chb : CtxOk D24 := Bap Ban puOk_nil Fq
def Cpb (l : TCT Bao) : Option (Fp Byk) := iter C1e ((Bay l).length + 1) (Ch9 (Bd0 l) 0 [])
def C5s (r : D23.T) : TPo := bif Bd8 r.1.2.1 [Bip (Bka r.2.1)] 24 then .leaf (r.1.2.1 ++ [Bip (Bka r.2.1)], ()) else .fail
def Cxf (l : TCT Bao) : TPo := bif isE (.exit 0) (Cpb l) then C5s (Bc4 (.exit 0) (Cpb l)) else .fail
theorem Cpc {l : TCT Bao} (hl : (Bay l).length ≤ 1000) : Cpb l = some (Bwp (Bd0 l) ((Bay l).flatMap w2)) := by
 unfold Cpb
 have key := Bds (st := C1e) (Bay l) (fun i o => Ch9 (Bd0 l) (i : Int) o) (fun _ h o => some (.inl (o ++ w2 h))) (fun o => some (Bwp (Bd0 l) o)) (fun i o => o.length = 2 * i)
  (fun i o hi hI => by
   simp only
   refine ⟨?_, by rw [List.length_append, hI, C5q]; omega⟩
   show (bif decide ((i : Int) < ((Bay l).length : Int)) then bif decide (0 ≤ (i : Int) ∧ (i : Int) < ((Bay l).length : Int)) then Byl (Bd0 l) (i : Int) o (Bat (Bay l) (Int.toNat (i : Int)) (Bar Bbj)) else .fail else .leaf (.inr (Bwp (Bd0 l) o))).run = _
   rw [decide_eq_true (show (i : Int) < ((Bay l).length : Int) by omega), decide_eq_true (show 0 ≤ (i : Int) ∧ (i : Int) < ((Bay l).length : Int) by omega), show Int.toNat (i : Int) = i by omega, Bcl hi]
   simp only [cond_true]
   unfold Byl w2 C5r
   rw [Bba (n := (i : Int) + 1) (by omega) (by omega)]
   cases (Bay l)[i].2.2.2.2.1 with
   | true =>
    simp only [cond_true]
    rw [Bwo (by simp only [List.length_cons, List.length_nil, hI]; omega)]
    rfl
   | false =>
    simp only [cond_false]
    rw [Bwo (by simp only [List.length_cons, List.length_nil, hI]; omega)]
    rfl)
  (fun o e hI he => by
   cases he
   show (bif decide (((Bay l).length : Int) < ((Bay l).length : Int)) then _ else Tree.leaf (Sum.inr (Bwp (Bd0 l) o)) : Tree (Bvu.T ⊕ Fp Byk)).run = _
   rw [decide_eq_false (show ¬ ((Bay l).length : Int) < ((Bay l).length : Int) by omega)]
   rfl)
  (Bay l).length 0 [] (Bwp (Bd0 l) ((Bay l).flatMap w2)) ((Bay l).length + 1) (by omega) (by omega) rfl (by rw [List.drop_zero, Bpi, List.nil_append])
 exact key
end St
end V
end Go.Proofs.YtcfanlgpkefogaaGreat
namespace Go.Proofs.YtcfanlgpkefogaaGreat
open Go.RowKit
namespace V
namespace St
theorem is_vname : FnIs Tryz.prog (115, Tryz.f115) := ⟨Tryz.func115, by kernel_rfl, by kernel_rfl⟩
theorem is_vname1 : FnIs Tryz.prog (147, Tryz.f147) := ⟨Tryz.func147, by kernel_rfl, by kernel_rfl⟩
theorem is_sCont : FnIs Tryz.prog (146, Tryz.f146) := ⟨Tryz.func146, by kernel_rfl, by kernel_rfl⟩
theorem is_sIdx : FnIs Tryz.prog (165, Tryz.f165) := ⟨Tryz.func165, by kernel_rfl, by kernel_rfl⟩
theorem is_sidx : FnIs Tryz.prog (170, Tryz.f170) := ⟨Tryz.func170, by kernel_rfl, by kernel_rfl⟩
def C1g (r : Int) : Bool := (decide (r < 97) || decide (r > 122)) && (decide (r < 48) || decide (r > 57))
def Chc (r : Int) : TBo := bif decide (r < 97) then bif decide (r < 48) then .leaf (true, ()) else .leaf (decide (r > 57), ()) else bif decide (r > 122) then bif decide (r < 48) then .leaf (true, ()) else .leaf (decide (r > 57), ()) else .leaf (false, ())
abbrev Chd : PureT := Bbb [.i .i32] [.b] (fun _ => true) (fun x => (C1g x.1, ()))
theorem Che (r : Int) : (Chc r).sat (fun y => y = (C1g r, ())) := by
 unfold Chc C1g
 cases decide (r < 97) <;> cases decide (r > 122) <;> cases decide (r < 48) <;> exact rfl
theorem Chf : Bai Tryz.prog 147 Chd := Bbd (Bap Ban puOk_nil (fns_cons is_vname1 Fq)) 3 (fun x => Chc x.1) (fun x => by kernel_rfl) fun x _ _ => Che x.1
def plNm : List (Nat × PureT) := [(147, Chd)]
theorem puNm : Bc7 Tryz.prog plNm := puOk_cons is_vname1.plain Chf puOk_nil
def nmT (t : ByteArray) : Nat → Nat → TBo
 | 0, _ => .fail
 | n + 1, pos => bif Nat.ble (pos + 1) t.size then
   bif Bfs .i64 (pos : Int) && Bfs .i32 ((Utf8.decode t pos).1 : Int) then
    bif C1g ((Utf8.decode t pos).1 : Int) == true then .leaf (!decide ((pos : Int) ≥ 0), ()) else nmT t n (pos + (Utf8.decode t pos).2)
   else .fail
  else .leaf (!decide ((-1 : Int) ≥ 0), ())
def Bym (t : ByteArray) : TBo := bif Bfs .i64 (t.size : Int) then bif decide ((t.size : Int) ≥ 1) then bif Bfs .i64 (t.size : Int) then bif decide ((t.size : Int) ≤ 20) then nmT t 21 0 else .leaf (false, ()) else .fail else .leaf (false, ()) else .fail
noncomputable def D25 : Ctx := Cf7 21 Tryz.prog plNm [(115, Tryz.f115), (146, Tryz.f146), (165, Tryz.f165), (170, Tryz.f170)]
theorem Cpd : CtxOk D25 := Bp5 Ban puNm (fns_cons is_vname (fns_cons is_sCont (fns_cons is_sIdx (fns_cons is_sidx Fq))))
theorem Ccu (t : ByteArray) : Bcv D25 12 (.fn 115) [.val (.string t)] Bbv 0 (Bgq Tryz.prog [.b]) = Bym t := by kernel_rfl
end St
end V
end Go.Proofs.YtcfanlgpkefogaaGreat
namespace Go.Proofs.YtcfanlgpkefogaaGreat
open Go.RowKit
namespace V
namespace St
def Bcj (t : ByteArray) : List UInt8 := t.data.toList
def Bpj (b : UInt8) : Bool := C1g ((b.toNat : Nat) : Int)
def Bhd (t : ByteArray) : Bool := decide (1 ≤ t.size ∧ t.size ≤ 20) && !(Bcj t).any Bpj
theorem Blh (t : ByteArray) : (Bcj t).length = t.size := Array.length_toList
theorem Ccv {n : Int} (h : 0 ≤ n) (h2 : n ≤ 9223372036854775807) : Bfs .i64 n = true := by
 unfold Bfs
 rw [decide_eq_true (show Bgd .i64 ≤ n by simp only [Bgd]; omega), decide_eq_true (show n ≤ Bb2 .i64 by simp only [Bb2]; omega)]; rfl
theorem D26 {n : Int} (h : 0 ≤ n) (h2 : n ≤ 2147483647) : Bfs .i32 n = true := by
 unfold Bfs
 rw [decide_eq_true (show Bgd .i32 ≤ n by simp only [Bgd]; omega), decide_eq_true (show n ≤ Bb2 .i32 by simp only [Bb2]; omega)]; rfl
theorem Cxg {t : ByteArray} {i : Nat} (h : i < t.size) : t.get! i = (Bcj t)[i]'(by rw [Blh]; exact h) := by
 have h' : i < t.data.size := h
 show t.data[i]! = _
 rw [getElem!_pos t.data i h']
 simp [Bcj]
theorem Cxh {t : ByteArray} {i : Nat} (h : (t.get! i).toNat < 128) : Utf8.decode t i = ((t.get! i).toNat, 1) := by
 unfold Utf8.decode
 simp only [Nat.add_zero]
 rw [if_pos h]
theorem Cxi {t : ByteArray} {i : Nat} (h : ¬ (t.get! i).toNat < 128) : 128 ≤ (Utf8.decode t i).1 ∧ (Utf8.decode t i).1 ≤ 2100000 := by
 have hb : (t.get! i).toNat < 256 := (t.get! i).toNat_lt
 unfold Utf8.decode
 simp only [Nat.add_zero]
 rw [if_neg h]
 have m1 := Nat.mod_lt (t.get! (i + 1)).toNat (show 0 < 64 by omega)
 have m2 := Nat.mod_lt (t.get! (i + 2)).toNat (show 0 < 64 by omega)
 have m3 := Nat.mod_lt (t.get! (i + 3)).toNat (show 0 < 64 by omega)
 have r : 128 ≤ Utf8.runeError ∧ Utf8.runeError ≤ 2100000 := by decide
 split
 ·split
  ·rename_i hc
   simp only
   omega
  ·exact r
 ·split
  ·split
   ·rename_i hc
    simp only [ge_iff_le, Bool.and_eq_true, decide_eq_true_eq] at hc
    simp only
    omega
   ·exact r
  ·split
   ·split
    ·rename_i hc
     simp only [ge_iff_le, Bool.and_eq_true, decide_eq_true_eq] at hc
     simp only
     omega
    ·exact r
   ·exact r
theorem Chg {r : Nat} (h : 128 ≤ r) : C1g (r : Int) = true := by
 unfold C1g
 rw [decide_eq_true (show (r : Int) > 122 by omega), decide_eq_true (show (r : Int) > 57 by omega)]
 simp
theorem Chh {t : ByteArray} (hs : t.size ≤ 20) : ∀ (n pos : Nat), pos ≤ t.size → t.size - pos < n → nmT t n pos = .leaf (!((Bcj t).drop pos).any Bpj, ())
 | 0, _, _, h => absurd h (Nat.not_lt_zero _)
 | n + 1, pos, hp, hn => by
  unfold nmT
  by_cases hlt : pos < t.size
  ·have hb : Nat.ble (pos + 1) t.size = true := by rw [Nat.ble_eq]; omega
   have hd : (Bcj t).drop pos = (Bcj t)[pos]'(by rw [Blh]; exact hlt) :: (Bcj t).drop (pos + 1) := List.drop_eq_getElem_cons _
   rw [hb, cond_true, hd, List.any_cons, ← Cxg hlt]
   by_cases h8 : (t.get! pos).toNat < 128
   ·rw [Cxh h8]
    simp only
    have hk : (Bfs .i64 (pos : Int) && Bfs .i32 (((t.get! pos).toNat : Nat) : Int)) = true := by
     rw [Ccv (by omega) (by omega), D26 (by omega) (by omega)]; rfl
    rw [hk, cond_true]
    show (bif Bpj (t.get! pos) == true then _ else _ : TBo) = _
    cases hbd : Bpj (t.get! pos) with
    | true =>
     rw [decide_eq_true (show (pos : Int) ≥ 0 by omega)]
     rfl
    | false =>
     show nmT t n (pos + 1) = _
     rw [Chh hs n (pos + 1) (by omega) (by omega), Bool.false_or]
   ·obtain ⟨h1, h2⟩ := Cxi h8
    have hk : (Bfs .i64 (pos : Int) && Bfs .i32 (((Utf8.decode t pos).1 : Nat) : Int)) = true := by
     rw [Ccv (by omega) (by omega), D26 (by omega) (by omega)]; rfl
    have hbu : Bpj (t.get! pos) = true := Chg (by omega)
    rw [hk, cond_true, Chg h1, hbu, decide_eq_true (show (pos : Int) ≥ 0 by omega)]
    rfl
  ·have hb : Nat.ble (pos + 1) t.size = false := by
    cases h : Nat.ble (pos + 1) t.size with
    | false => rfl
    | true => rw [Nat.ble_eq] at h; omega
   rw [hb, cond_false, List.drop_eq_nil_of_le (by rw [Blh]; omega)]
   rfl
theorem Ccw {t : ByteArray} (h64 : (t.size : Int) ≤ Bb2 .i64) : (Bym t).sat (fun y => y = (Bhd t, ())) := by
 unfold Bym Bhd
 have hk : Bfs .i64 (t.size : Int) = true := Ccv (by omega) (by simp only [Bb2] at h64; exact h64)
 rw [hk]
 simp only [cond_true]
 by_cases h1 : 1 ≤ t.size
 ·rw [decide_eq_true (show (t.size : Int) ≥ 1 by omega)]
  by_cases h2 : t.size ≤ 20
  ·rw [decide_eq_true (show (t.size : Int) ≤ 20 by omega), decide_eq_true (show 1 ≤ t.size ∧ t.size ≤ 20 from ⟨h1, h2⟩), cond_true, cond_true, Chh h2 21 0 (by omega) (by omega)]
   exact rfl
  ·rw [decide_eq_false (show ¬ (t.size : Int) ≤ 20 by omega), decide_eq_false (show ¬ (1 ≤ t.size ∧ t.size ≤ 20) from fun h => h2 h.2)]
   exact rfl
 ·rw [decide_eq_false (show ¬ (t.size : Int) ≥ 1 by omega), decide_eq_false (show ¬ (1 ≤ t.size ∧ t.size ≤ 20) from fun h => h1 h.1)]
  exact rfl
end St
end V
end Go.Proofs.YtcfanlgpkefogaaGreat
namespace Go.Proofs.YtcfanlgpkefogaaGreat
open Go.RowKit
namespace V
namespace St
abbrev Byn : PureT := Bbb [.s] [.b] (fun x => decide ((x.1.size : Int) ≤ Bb2 .i64)) (fun x => (Bhd x.1, ()))
theorem Cpe : Bai Tryz.prog 115 Byn := Bbd Cpd 12 (fun x => Bym x.1) (fun x => Ccu x.1) fun x hok _ => Ccw (of_decide_eq_true hok)
def C5t : Lay := { keys := [0, 3], ks := [.d .s, .d cI], bs := [], n := 41, nx := 1000, marks := [] }
def D5q : Lay := { keys := [], ks := [], bs := [], n := 41, nx := 1000, marks := [] }
def D28 : Lay := { keys := [2], ks := [.d .b], bs := [], n := 41, nx := 1000, marks := [] }
def C5u : XE → Lay := fun e => match e with | .ret => D28 | _ => D5q
def Bwq (t : ByteArray) (i : Int) : C5t.T := ((t, i, ()), ())
def Bsf : Fp C5u := ⟨.ret, ((false, ()), ())⟩
def C1h : Fp C5u := ⟨.exit 0, ((), ())⟩
abbrev TNm := Tree (C5t.T ⊕ Fp C5u)
def byI (t : ByteArray) (i : Int) : Int := ((((t.data.toList.getD (Int.toNat i) 0).toNat : Nat)) : Int)
def inI (t : ByteArray) (i : Int) (k : TNm) : TNm := bif decide (0 ≤ i ∧ i < (t.size : Int)) then k else .fail
def C5v (t : ByteArray) (i : Int) : TNm := inI t i (bif decide (byI t i ≥ 48) then inI t i (bif !decide (byI t i ≤ 57) then .leaf (.inr Bsf) else .leaf (.inl (Bwq t (W64 (i + 1))))) else .leaf (.inr Bsf))
def Bsg (t : ByteArray) (i : Int) : TNm :=
 bif Bfs .i64 (t.size : Int) then bif decide (i < (t.size : Int)) then
  inI t i (bif decide (byI t i ≥ 97) then inI t i (bif decide (byI t i ≤ 122) then .leaf (.inl (Bwq t (W64 (i + 1)))) else C5v t i) else C5v t i)
 else .leaf (.inr C1h) else .fail
def Bwr (g : C5t.T) : TNm := Bsg g.1.1 g.1.2.1
def Chi (g : C5t.T) : Nat := (Bcj g.1.1).length + 1
noncomputable def D29 : Ctx := ctx Tryz.prog [] []
theorem Chj : CtxOk D29 := Bap Ban puOk_nil Fq
def Chk (t : ByteArray) : Option (Fp C5u) := iter Bwr ((Bcj t).length + 1) (Bwq t 0)
def Cxj (t : ByteArray) : TBo := bif Bfs .i64 (t.size : Int) then bif decide ((t.size : Int) < 1) then .leaf (false, ()) else bif Bfs .i64 (t.size : Int) then bif decide ((t.size : Int) > 20) then .leaf (false, ()) else
 bif isE .ret (Chk t) then .leaf ((Bc4 .ret (Chk t)).1.1, ()) else bif isE (.exit 0) (Chk t) then .leaf (true, ()) else .fail else .fail else .fail
theorem Cxk {t : ByteArray} {i : Nat} (h : i < (Bcj t).length) : byI t (i : Int) = ((((Bcj t)[i]).toNat : Nat) : Int) := by
 unfold byI
 rw [show Int.toNat (i : Int) = i by omega]
 show ((((Bcj t).getD i 0).toNat : Nat) : Int) = _
 rw [List.getD_eq_getElem?_getD, List.getElem?_eq_getElem h]
 rfl
theorem Cpg {t : ByteArray} (h64 : (t.size : Int) ≤ Bb2 .i64) : Chk t = some (bif (Bcj t).any Bpj then Bsf else C1h) := by
 have h64' : (t.size : Int) ≤ 9223372036854775807 := h64
 have hlen := Blh t
 unfold Chk
 have key := Bds (st := Bwr) (Bcj t) (fun i (_ : Unit) => Bwq t (i : Int)) (fun _ b _ => bif Bpj b then some (.inr Bsf) else some (.inl ())) (fun _ => some C1h) (fun _ _ => True)
  (fun i s hi _ => by
   have hI : decide (0 ≤ (i : Int) ∧ (i : Int) < (t.size : Int)) = true := decide_eq_true (by omega)
   have hrun : (Bwr (Bwq t (i : Int))).run = some (bif Bpj (Bcj t)[i] then .inr Bsf else .inl (Bwq t ((i + 1 : Nat) : Int))) := by
    show (Bsg t (i : Int)).run = _
    unfold Bsg C5v inI Bpj C1g
    rw [Ccv (by omega) h64', decide_eq_true (show (i : Int) < (t.size : Int) by omega), hI, Cxk hi, Bba (n := (i : Int) + 1) (by omega) (by omega)]
    generalize ((((Bcj t)[i]).toNat : Nat) : Int) = b
    by_cases h1 : b < 97
    ·rw [decide_eq_true h1, decide_eq_false (show ¬ b ≥ 97 by omega)]
     by_cases h2 : b < 48
     ·rw [decide_eq_true h2, decide_eq_false (show ¬ b ≥ 48 by omega)]; simp; rfl
     ·rw [decide_eq_false h2, decide_eq_true (show b ≥ 48 by omega)]
      by_cases h3 : b > 57
      ·rw [decide_eq_true h3, decide_eq_false (show ¬ b ≤ 57 by omega)]; simp; rfl
      ·rw [decide_eq_false h3, decide_eq_true (show b ≤ 57 by omega)]; simp; rfl
    ·rw [decide_eq_false h1, decide_eq_true (show b ≥ 97 by omega)]
     by_cases h2 : b > 122
     ·rw [decide_eq_true h2, decide_eq_false (show ¬ b ≤ 122 by omega), decide_eq_false (show ¬ b < 48 by omega), decide_eq_true (show b ≥ 48 by omega), decide_eq_true (show b > 57 by omega), decide_eq_false (show ¬ b ≤ 57 by omega)]; simp; rfl
     ·rw [decide_eq_false h2, decide_eq_true (show b ≤ 122 by omega)]; simp; rfl
   cases hb : Bpj (Bcj t)[i] with
   | true =>
    rw [hb] at hrun
    simp only [cond_true]
    exact hrun
   | false =>
    rw [hb] at hrun
    simp only [cond_false]
    exact ⟨hrun, trivial⟩)
  (fun s e _ he => by
   cases he
   show (Bsg t (((Bcj t).length : Nat) : Int)).run = _
   unfold Bsg
   rw [Ccv (by omega) h64', decide_eq_false (show ¬ (((Bcj t).length : Nat) : Int) < (t.size : Int) by omega)]
   rfl)
  (Bcj t).length 0 () (bif (Bcj t).any Bpj then Bsf else C1h) ((Bcj t).length + 1) (by omega) (by omega) trivial (by rw [List.drop_zero]; exact Bp7 Bpj (fun _ => Bsf) C1h _ 0)
 exact key
theorem Cph {t : ByteArray} (h64 : (t.size : Int) ≤ Bb2 .i64) : (Cxj t).sat (fun y => y = (Bhd t, ())) := by
 unfold Cxj Bhd
 rw [Ccv (by omega) (show (t.size : Int) ≤ 9223372036854775807 from h64), Cpg h64]
 simp only [cond_true]
 by_cases h1 : 1 ≤ t.size
 ·rw [decide_eq_false (show ¬ (t.size : Int) < 1 by omega)]
  by_cases h2 : t.size ≤ 20
  ·rw [decide_eq_false (show ¬ (t.size : Int) > 20 by omega), decide_eq_true (show 1 ≤ t.size ∧ t.size ≤ 20 from ⟨h1, h2⟩)]
   cases (Bcj t).any Bpj <;> exact rfl
  ·rw [decide_eq_true (show (t.size : Int) > 20 by omega), decide_eq_false (show ¬ (1 ≤ t.size ∧ t.size ≤ 20) from fun h => h2 h.2)]
   exact rfl
 ·rw [decide_eq_true (show (t.size : Int) < 1 by omega), decide_eq_false (show ¬ (1 ≤ t.size ∧ t.size ≤ 20) from fun h => h1 h.1)]
  exact rfl
end St
end V
end Go.Proofs.YtcfanlgpkefogaaGreat
namespace Go.Proofs.YtcfanlgpkefogaaGreat
open Go.RowKit
namespace V
namespace St
theorem is_Touch : FnIs Tryz.prog (150, Tryz.f150) := ⟨Tryz.func150, by kernel_rfl, by kernel_rfl⟩
theorem is_tCD : FnIs Tryz.prog (155, Tryz.f155) := ⟨Tryz.func155, by kernel_rfl, by kernel_rfl⟩
theorem is_tsq : FnIs Tryz.prog (68, Tryz.f68) := ⟨Tryz.func68, by kernel_rfl, by kernel_rfl⟩
theorem is_cmp64 : FnIs Tryz.prog (142, Tryz.f142) := ⟨Tryz.func142, by kernel_rfl, by kernel_rfl⟩
theorem is_nan64 : FnIs Tryz.prog (161, Tryz.f161) := ⟨Tryz.func161, by kernel_rfl, by kernel_rfl⟩
theorem is_lapart : FnIs Tryz.prog (122, Tryz.f122) := ⟨Tryz.func122, by kernel_rfl, by kernel_rfl⟩
def Cpj (x y : Int) : Int := bif decide (x < y) then -1 else bif decide (x > y) then 1 else 0
def cdE (a : TCT Baf) : Int := Bts a.1.1 a.1.2.1 a.2.1
def sqD (a b : TCT Baf) : Int := W64 (W64 (W64 (b.1.1 - a.1.1) * W64 (b.1.1 - a.1.1)) + W64 (W64 (b.1.2.1 - a.1.2.1) * W64 (b.1.2.1 - a.1.2.1)))
def srD (a b : TCT Baf) : Int := W64 (W64 (a.2.1 + b.2.1) * W64 (a.2.1 + b.2.1))
def Ccx (a b : TCT Baf) : Int := bif cdE a == 0 && cdE b == 0 then Cpj (sqD a b) (srD a b) else 0
def Cxl (a b : TCT Baf) : Int := bif cdE a == 0 && cdE b == 0 then 0 else 2
abbrev C92 : PureT := Bbb [Baf, Baf] [cI, cI] (fun _ => true) (fun x => (Ccx x.1 x.2.1, Cxl x.1 x.2.1, ()))
abbrev TTo := Tree (TCTs [cI, cI])
def Cvb (x y : Int) : TTo := bif x != x then bif y != y then .leaf (0, 0, ()) else .leaf (-1, 0, ()) else bif y != y then .leaf (1, 0, ()) else bif decide (x < y) then .leaf (-1, 0, ()) else bif decide (x > y) then .leaf (1, 0, ()) else .leaf (0, 0, ())
def Byo (a b : TCT Baf) : TTo := bif cdE a != 0 then .leaf (0, 2, ()) else bif cdE b != 0 then .leaf (0, 2, ()) else Cvb (sqD a b) (srD a b)
theorem C5w (a b : TCT Baf) : (Byo a b).sat (fun y => y = (Ccx a b, Cxl a b, ())) := by
 unfold Byo Ccx Cxl Cvb Cpj
 rw [bne_self_eq_false, bne_self_eq_false]
 have e : ∀ n : Int, (n != 0) = !(n == 0) := fun _ => rfl
 rw [e, e]
 cases cdE a == 0 <;> cases cdE b == 0 <;> try exact rfl
 cases decide (sqD a b < srD a b) <;> cases decide (sqD a b > srD a b) <;> exact rfl
theorem Cpk : Bai Tryz.prog 150 C92 := Bbd (Bap Ban (puOk_cons is_tCD.plain Bqs puOk_nil) (fns_cons is_Touch (fns_cons is_tsq (fns_cons is_cmp64 (fns_cons is_nan64 Fq))))) 5 (fun x => Byo x.1 x.2.1) (fun x => by kernel_rfl) fun x _ _ => C5w _ _
def plAp : List (Nat × PureT) := [(150, C92), (105, s_inR)]
theorem puAp : Bc7 Tryz.prog plAp := puOk_cons is_Touch.plain Cpk (puOk_cons is_between2.plain q_between2 puOk_nil)
noncomputable def C93 : Code := (Bak (bodyOf Tryz.f122)).getD 0 .skip
noncomputable def C94 : Code := (Bak (bodyOf Tryz.f122)).getD 1 .skip
abbrev kD3 : List SK := [.d cI, .d cI, .d cI]
def d3 (d : SKTs kD3) : TCT Baf := ((d.1, d.2.1, ()), d.2.2.1, ())
def D2a (d : TCT Baf) : TCT Baf := ((d.1.1, d.1.2.1, ()), d.2.1, ())
def toD (d : TCT Baf) : SKTs kD3 := (d.1.1, d.1.2.1, d.2.1, ())
def Bvv : Lay := { keys := [1, 2, 6, 11, 12, 13, 46, 47, 48], ks := [.d (.sl Baf), .p 0 0 0 0, .p 1000 0 0 0, .d (.sl Baf), .d cI, .d cI, .d (.sl Baf), .d cI, .d cI], bs := [(0, 36, kLw), (1000, 33, kD3)], n := 62, nx := 2000, marks := [] }
def D2b : Lay := { keys := [1, 2, 11, 12, 13], ks := [.d (.sl Baf), .p 0 0 0 0, .d (.sl Baf), .d cI, .d cI], bs := [(0, 36, kLw)], n := 62, nx := 2000, marks := [] }
def Cvc : Lay := { keys := [4], ks := [.d .b], bs := [], n := 62, nx := 2000, marks := [] }
def Bsh : XE → Lay := fun e => match e with | .ret => Cvc | _ => D2b
def Bsi : Lay := { keys := [1, 2, 11, 12, 13], ks := [.d (.sl Baf), .p 0 0 0 0, .d (.sl Baf), .d cI, .d cI], bs := [(0, 36, kLw)], n := 62, nx := 1000, marks := [] }
def D5t : Lay := { keys := [], ks := [], bs := [], n := 62, nx := 2000, marks := [] }
def C1i : XE → Lay := fun e => match e with | .ret => Cvc | _ => D5t
def Bsj (x : SKTs kLw) (d : SKTs kD3) (p q : List (TCT Baf)) (n i : Int) (r : List (TCT Baf)) (m k : Int) : Bvv.T := ((p, (), (), q, n, i, r, m, k, ()), (x, d, ()))
def Bqj : Fp Bsh := ⟨.ret, ((false, ()), ())⟩
def Bqk (x : SKTs kLw) (p q : List (TCT Baf)) (n i : Int) : Fp Bsh := ⟨.exit 2, ((p, (), q, n, i, ()), (x, ()))⟩
def Bsk (g : Bvv.T) : Tree (Bvv.T ⊕ Fp Bsh) :=
 bif decide (g.1.2.2.2.2.2.2.2.2.1 < g.1.2.2.2.2.2.2.2.1) then bif decide (0 ≤ g.1.2.2.2.2.2.2.2.2.1 ∧ g.1.2.2.2.2.2.2.2.2.1 < ((g.1.2.2.2.2.2.2.1 : List (TCT Baf)).length : Int)) then
  bif decide (Ccx (d3 g.2.2.1) (D2a (Bat g.1.2.2.2.2.2.2.1 (Int.toNat g.1.2.2.2.2.2.2.2.2.1) (Bar Baf))) < 0) then .leaf (.inr Bqj) else .leaf (.inl (Bsj g.2.1 g.2.2.1 g.1.1 g.1.2.2.2.1 g.1.2.2.2.2.1 g.1.2.2.2.2.2.1 g.1.2.2.2.2.2.2.1 g.1.2.2.2.2.2.2.2.1 (W64 (g.1.2.2.2.2.2.2.2.2.1 + 1))))
 else .fail else .leaf (.inr (Bqk g.2.1 g.1.1 g.1.2.2.2.1 g.1.2.2.2.2.1 g.1.2.2.2.2.2.1))
def Chl (g : Bvv.T) : Nat := (g.1.2.2.2.2.2.2.1 : List (TCT Baf)).length + 1
noncomputable def C1j : Ctx := ctx Tryz.prog plAp []
theorem C1k : CtxOk C1j := Bap Ban puAp Fq
theorem D5u : Baz Tryz.prog 122 C94 (Bav Bvv Bsh (Bcn [.ret, .exit 2] Bsk Chl)) := Bbc C1k 7 _ Bvv Bsh (fun e => by cases e <;> exact Nat.le_refl _) [.ret, .exit 2] Bsk Chl (fun g => by kernel_rfl)
def Bfo {α : Type} (ok : Nat → α → Bool) : Nat → List α → Bool
 | _, [] => true
 | i, x :: l => ok i x && Bfo ok (i + 1) l
theorem Bsl {α E : Type} (ok : Nat → α → Bool) (r d : E) : ∀ (l : List α) (i : Nat), Bni (fun i x (_ : Unit) => bif ok i x then some (.inl ()) else some (.inr r)) (fun _ => some d) i l () = some (bif Bfo ok i l then d else r)
 | [], i => rfl
 | x :: l, i => by
  simp only [Bni, Bfo]
  cases ok i x with
  | true => simp only [cond_true, Bool.true_and]; exact Bsl ok r d l (i + 1)
  | false => rfl
def touB (d o : TCT Baf) : Bool := decide (Ccx d o < 0)
theorem Cpl (x : SKTs kLw) (d : TCT Baf) (p q : List (TCT Baf)) (n i : Int) (r : List (TCT Baf)) (hr : (r.length : Int) ≤ Bb2 .i64) :
  iter Bsk (r.length + 1) (Bsj x (toD d) p q n i r r.length 0) = some (bif r.any (touB d) then Bqj else Bqk x p q n i) := by
 have hr' : (r.length : Int) ≤ 9223372036854775807 := hr
 have key := Bds (st := Bsk) r (fun k (_ : Unit) => Bsj x (toD d) p q n i r r.length (k : Int)) (fun _ o _ => bif touB d o then some (.inr Bqj) else some (.inl ())) (fun _ => some (Bqk x p q n i)) (fun _ _ => True)
  (fun k s hk _ => by
   have hrun : (Bsk (Bsj x (toD d) p q n i r r.length (k : Int))).run = some (bif touB d r[k] then .inr Bqj else .inl (Bsj x (toD d) p q n i r r.length ((k + 1 : Nat) : Int))) := by
    show (bif decide ((k : Int) < (r.length : Int)) then bif decide (0 ≤ (k : Int) ∧ (k : Int) < (r.length : Int)) then bif touB d (D2a (Bat r (Int.toNat (k : Int)) (Bar Baf))) then Tree.leaf (Sum.inr Bqj) else .leaf (.inl (Bsj x (toD d) p q n i r r.length (W64 ((k : Int) + 1)))) else .fail else .leaf (.inr (Bqk x p q n i)) : Tree (Bvv.T ⊕ Fp Bsh)).run = _
    rw [decide_eq_true (show (k : Int) < (r.length : Int) by omega), decide_eq_true (show 0 ≤ (k : Int) ∧ (k : Int) < (r.length : Int) by omega), show Int.toNat (k : Int) = k by omega, Bcl hk, Bba (n := (k : Int) + 1) (by omega) (by omega)]
    show (bif touB d r[k] then _ else _ : Tree (Bvv.T ⊕ Fp Bsh)).run = _
    cases touB d r[k] <;> rfl
   cases hb : touB d r[k] with
   | true => rw [hb] at hrun; simp only [cond_true]; exact hrun
   | false => rw [hb] at hrun; simp only [cond_false]; exact ⟨hrun, trivial⟩)
  (fun s e _ he => by
   cases he
   show (bif decide ((r.length : Int) < (r.length : Int)) then _ else Tree.leaf (Sum.inr (Bqk x p q n i)) : Tree (Bvv.T ⊕ Fp Bsh)).run = _
   rw [decide_eq_false (show ¬ (r.length : Int) < (r.length : Int) by omega)]
   rfl)
  r.length 0 () (bif r.any (touB d) then Bqj else Bqk x p q n i) (r.length + 1) (by omega) (by omega) trivial (by rw [List.drop_zero]; exact Bp7 (touB d) (fun _ => Bqj) (Bqk x p q n i) _ 0)
 exact key
end St
end V
end Go.Proofs.YtcfanlgpkefogaaGreat
namespace Go.Proofs.YtcfanlgpkefogaaGreat
open Go.RowKit
namespace V
namespace St
def Bws (x : SKTs kLw) (p q : List (TCT Baf)) (n i : Int) : Bsi.T := ((p, (), q, n, i, ()), (x, ()))
def Bnv (b : Bool) : Fp C1i := ⟨.ret, ((b, ()), ())⟩
def Bql : Fp C1i := ⟨.exit 0, ((), ())⟩
abbrev TAo := Tree (Bsi.T ⊕ Fp C1i)
def D2c (x : SKTs kLw) (d : SKTs kD3) (p q : List (TCT Baf)) (n i : Int) (r : List (TCT Baf)) : Option (Fp Bsh) := iter Bsk (r.length + 1) (Bsj x d p q n i r r.length 0)
def D2d (r : D2b.T) : Bsi.T := Bws r.2.1 r.1.1 r.1.2.2.1 r.1.2.2.2.1 (W64 (r.1.2.2.2.2.1 + 1))
def D2e (y : Option (Fp Bsh)) : TAo := bif isE .ret y then .leaf (.inr (Bnv (Bc4 .ret y).1.1)) else bif isE (.exit 2) y then .leaf (.inl (D2d (Bc4 (.exit 2) y))) else .fail
def Chm (x : SKTs kLw) (p q : List (TCT Baf)) (n i : Int) (d : TCT Baf) : TAo :=
 bif !inR d.1.1 d.2.1 (W64 (x.2.1 - d.2.1)) then .leaf (.inr (Bnv false)) else bif !inR d.1.2.1 d.2.1 (W64 (x.2.2.1 - d.2.1)) then .leaf (.inr (Bnv false)) else
 bif decide (0 ≤ i ∧ i ≤ (p.length : Int)) then D2e (D2c x (toD d) p q n i (p.take (Int.toNat i))) else .fail
def Bsm (g : Bsi.T) : TAo :=
 bif decide (g.1.2.2.2.2.1 < g.1.2.2.2.1) then bif decide (0 ≤ g.1.2.2.2.2.1 ∧ g.1.2.2.2.2.1 < ((g.1.2.2.1 : List (TCT Baf)).length : Int)) then
  Chm g.2.1 g.1.1 g.1.2.2.1 g.1.2.2.2.1 g.1.2.2.2.2.1 (Bat g.1.2.2.1 (Int.toNat g.1.2.2.2.2.1) (Bar Baf)) else .fail else .leaf (.inr Bql)
def Chn (g : Bsi.T) : Nat := (g.1.2.2.1 : List (TCT Baf)).length + 1
def Cvd : Bi2 := fun k => bif Nat.beq k 7 then some (Bav Bvv Bsh (Bcn [.ret, .exit 2] Bsk Chl)) else none
theorem D5v (g : Bsi.T) : evC C1j.P (Bcv C1j 7) C1j.pures 122 C1j.u Cvd C93 (Bsi.of g) (Bev Bsi C1i) = Bsm g := by kernel_rfl
theorem Cho : Bak C93 = [C94] := by kernel_rfl
theorem Chp : keyOf C94 = 7 := by kernel_rfl
theorem D5w : Baz Tryz.prog 122 C93 (Bav Bsi C1i (Bcn [.ret, .exit 0] Bsm Chn)) :=
 Bp6 C1k 7 _ Cvd (fun d hd f hf => by
  rw [Cho, List.mem_singleton] at hd
  subst hd
  rw [Chp] at hf
  cases hf
  exact D5u) Bsi C1i (fun e => by cases e <;> exact (by decide : (1000 : Nat) ≤ 2000)) [.ret, .exit 0] Bsm Chn D5v
theorem loops_in {P : Program} {f : Nat} {fn : Func} {la : Code} {sum : St → Tree (XE × St)} {k : Nat} (h1 : ∀ d ∈ Bak (bodyOf fn), keyOf d = k → d = la) (h2 : Baz P f la sum) :
  ∀ p ∈ [(f, fn)], ∀ d ∈ Bak (bodyOf p.2), ∀ g, Bbx [((f, k), sum)] p.1 (keyOf d) = some g → Baz P p.1 d g := by
 intro p hp d hd g hg
 simp only [List.mem_singleton] at hp
 subst hp
 simp only at hd hg
 by_cases hk : keyOf d = k
 ·rw [h1 d hd hk]
  rw [hk] at hg
  simp [Bbx] at hg
  subst hg
  exact h2
 ·have : Nat.beq k (keyOf d) = false := by
   cases h : Nat.beq k (keyOf d) with
   | false => rfl
   | true => exact absurd (Nat.eq_of_beq_eq_true h).symm hk
  simp only [Bbx, this, Bool.and_false, cond_false] at hg
  cases hg
theorem Chq : Bak (bodyOf Tryz.f122) = [C93, C94] := by kernel_rfl
noncomputable def D5x : Ctx := Bgo Tryz.prog plAp [(122, Tryz.f122)] [((122, 2), Bav Bsi C1i (Bcn [.ret, .exit 0] Bsm Chn))]
theorem Cpm : CtxOk D5x := Bc8 Ban puAp (fns_cons is_lapart Fq) (loops_in (fun d hd hk => by
 rw [Chq, List.mem_cons, List.mem_singleton] at hd
 rcases hd with rfl | rfl
 ·rfl
 ·rw [Chp] at hk; cases hk) D5w)
def Bms (w l : Int) (d : TCT Baf) : Bool := inR d.1.1 d.2.1 (W64 (w - d.2.1)) && inR d.1.2.1 d.2.1 (W64 (l - d.2.1))
def apF (w l : Int) (p : List (TCT Baf)) : Bool := Bfo (fun i d => Bms w l d && !(p.take i).any (touB d)) 0 p
def Chr (l : TCT Bao) (p : List (TCT Baf)) : Option (Fp C1i) := iter Bsm (p.length + 1) (Bws (Bd0 l) p p p.length 0)
def Cxm (l : TCT Bao) (p : List (TCT Baf)) : TBo := bif isE .ret (Chr l p) then .leaf ((Bc4 .ret (Chr l p)).1.1, ()) else bif isE (.exit 0) (Chr l p) then .leaf (true, ()) else .fail
theorem Cpn (l : TCT Bao) (p : List (TCT Baf)) (hp : (p.length : Int) ≤ Bb2 .i64) : Chr l p = some (bif apF l.2.1 l.2.2.1 p then Bql else Bnv false) := by
 have hp' : (p.length : Int) ≤ 9223372036854775807 := hp
 unfold Chr
 have key := Bds (st := Bsm) p (fun i (_ : Unit) => Bws (Bd0 l) p p p.length (i : Int)) (fun i d _ => bif Bms l.2.1 l.2.2.1 d && !(p.take i).any (touB d) then some (.inl ()) else some (.inr (Bnv false))) (fun _ => some Bql) (fun _ _ => True)
  (fun i s hi _ => by
   have hrun : (Bsm (Bws (Bd0 l) p p p.length (i : Int))).run = some (bif Bms l.2.1 l.2.2.1 p[i] && !(p.take i).any (touB p[i]) then .inl (Bws (Bd0 l) p p p.length ((i + 1 : Nat) : Int)) else .inr (Bnv false)) := by
    show (bif decide ((i : Int) < (p.length : Int)) then bif decide (0 ≤ (i : Int) ∧ (i : Int) < (p.length : Int)) then Chm (Bd0 l) p p p.length (i : Int) (Bat p (Int.toNat (i : Int)) (Bar Baf)) else .fail else .leaf (.inr Bql) : TAo).run = _
    rw [decide_eq_true (show (i : Int) < (p.length : Int) by omega), decide_eq_true (show 0 ≤ (i : Int) ∧ (i : Int) < (p.length : Int) by omega), show Int.toNat (i : Int) = i by omega, Bcl hi]
    simp only [cond_true]
    unfold Chm Bms
    have hw : (Bd0 l).2.1 = l.2.1 := rfl
    have hl : (Bd0 l).2.2.1 = l.2.2.1 := rfl
    rw [hw, hl]
    cases inR p[i].1.1 p[i].2.1 (W64 (l.2.1 - p[i].2.1)) with
    | false => rfl
    | true =>
     cases inR p[i].1.2.1 p[i].2.1 (W64 (l.2.2.1 - p[i].2.1)) with
     | false => rfl
     | true =>
      simp only [Bool.not_true, cond_false, Bool.true_and]
      have ht : (p.take i).length = i := by rw [List.length_take]; omega
      have hy : D2c (Bd0 l) (toD p[i]) p p p.length (i : Int) (p.take i) = some (bif (p.take i).any (touB p[i]) then Bqj else Bqk (Bd0 l) p p p.length (i : Int)) :=
       Cpl (Bd0 l) p[i] p p p.length (i : Int) (p.take i) (by rw [ht]; show (i : Int) ≤ 9223372036854775807; omega)
      rw [decide_eq_true (show 0 ≤ (i : Int) ∧ (i : Int) ≤ (p.length : Int) by omega), cond_true, show Int.toNat (i : Int) = i by omega, hy]
      cases (p.take i).any (touB p[i]) with
      | true => rfl
      | false =>
       show (Tree.leaf (Sum.inl (Bws (Bd0 l) p p p.length (W64 ((i : Int) + 1)))) : TAo).run = _
       rw [Bba (n := (i : Int) + 1) (by omega) (by omega)]
       rfl
   cases hb : Bms l.2.1 l.2.2.1 p[i] && !(p.take i).any (touB p[i]) with
   | true => rw [hb] at hrun; simp only [cond_true]; exact ⟨hrun, trivial⟩
   | false => rw [hb] at hrun; simp only [cond_false]; exact hrun)
  (fun s e _ he => by
   cases he
   show (bif decide ((p.length : Int) < (p.length : Int)) then _ else Tree.leaf (Sum.inr Bql) : TAo).run = _
   rw [decide_eq_false (show ¬ (p.length : Int) < (p.length : Int) by omega)]
   rfl)
  p.length 0 () (bif apF l.2.1 l.2.2.1 p then Bql else Bnv false) (p.length + 1) (by omega) (by omega) trivial (by
   rw [List.drop_zero]
   exact Bsl (fun i d => Bms l.2.1 l.2.2.1 d && !(p.take i).any (touB d)) (Bnv false) Bql p 0)
 exact key
abbrev C95 : PureT := Bbb [Bao, .sl Baf] [.b] (fun _ => true) (fun x => (apF x.1.2.1 x.1.2.2.1 x.2.1, ()))
theorem Cpo : Bai Tryz.prog 122 C95 := Bbd Cpm 7 (fun x => Cxm x.1 x.2.1) (fun x => by kernel_rfl) fun x _ hw => by
 show (Cxm x.1 x.2.1).sat _
 unfold Cxm
 rw [Cpn x.1 x.2.1 (Beb hw.2.1)]
 show ((bif isE .ret (some (bif apF x.1.2.1 x.1.2.2.1 x.2.1 then Bql else Bnv false)) then _ else _ : TBo)).sat (fun y => y = (apF x.1.2.1 x.1.2.2.1 x.2.1, ()))
 cases apF x.1.2.1 x.1.2.2.1 x.2.1 <;> exact rfl
end St
end V
end Go.Proofs.YtcfanlgpkefogaaGreat
namespace Go.Proofs.YtcfanlgpkefogaaGreat
open Go.RowKit
namespace V
namespace St
theorem is_lCheck : FnIs Tryz.prog (75, Tryz.f75) := ⟨Tryz.func75, by kernel_rfl, by kernel_rfl⟩
def nxL (l : TCT Bao) : Int := l.2.2.2.2.2.2.1
def nyL (l : TCT Bao) : Int := l.2.2.2.2.2.2.2.1
def Bca (l : TCT Bao) : List (TCT Bc3) := l.2.2.2.2.2.2.2.2.1
def Bk3 (l : TCT Bao) : Bool := decide (((Bay l).length : Int) < 1) || (decide (((Bay l).length : Int) > 12) || decide (((Bca l).length : Int) > 256))
def C5x (l : TCT Bao) : Bool := Bhd l.1 && (inR l.2.1 65536 4194304 && (inR l.2.2.1 65536 4194304 && inR l.2.2.2.1 0 (W64 (Int.tdiv (min l.2.1 l.2.2.1) 4))))
def C5y (l : TCT Bao) : Bool := !decide (nxL l < 1) && (!decide (nxL l > 16) && (!decide (nyL l < 1) && (!decide (nyL l > 16) && !(((Bca l).length : Int) != W64 (nxL l * nyL l)))))
def okL (l : TCT Bao) : Bool := C5x l && (inR (Bip l).2.1 1 8192 && (C5y l && ((Bay l).all Bej && ((Bca l).all Bf7 && apF l.2.1 l.2.2.1 (Bbk l)))))
def Bc1 (l : TCT Bao) : Int := bif Bk3 l then 6 else bif okL l then 0 else 2
abbrev Bqm : PureT := Bbb [Bao] [cI] (fun x => decide ((x.1.1.size : Int) ≤ Bb2 .i64)) (fun x => (Bc1 x.1, ()))
def plLc : List (Nat × PureT) := [(115, Byn), (105, s_inR), (74, Bjb), (122, C95), (116, C0x), (119, C14)]
theorem puLc : Bc7 Tryz.prog plLc := puOk_cons is_vname.plain Cpe (puOk_cons is_between2.plain q_between2 (puOk_cons is_lposts.plain Byj (puOk_cons is_lapart.plain Cpo (puOk_cons is_cfHoop.plain Cgs (puOk_cons is_cfCell.plain Cgx puOk_nil)))))
abbrev TEr := Tree (TCTs [cI])
def er (c : Bool) (e : Int) (k : TEr) : TEr := bif c then .leaf (e, ()) else k
theorem Bk4 {a b : Bool} {e : Int} {k : TEr} : er (a || b) e k = er a e (er b e k) := by cases a <;> cases b <;> rfl
def Cxn (l : TCT Bao) : TEr :=
 er (decide (((Bay l).length : Int) < 1)) 6 (er (decide (((Bay l).length : Int) > 12)) 6 (er (decide (((Bca l).length : Int) > 256)) 6 (
 bif decide ((l.1.size : Int) ≤ Bb2 .i64) then er (!Bhd l.1) 2 (er (!inR l.2.1 65536 4194304) 2 (er (!inR l.2.2.1 65536 4194304) 2 (er (!inR l.2.2.2.1 0 (W64 (Int.tdiv (min l.2.1 l.2.2.1) 4))) 2 (er (!inR (Bip l).2.1 1 8192) 2 (
  er (decide (nxL l < 1)) 2 (er (decide (nxL l > 16)) 2 (er (decide (nyL l < 1)) 2 (er (decide (nyL l > 16)) 2 (er (((Bca l).length : Int) != W64 (nxL l * nyL l)) 2 (
  er ((Bay l).any (Bcx ())) 2 (er ((Bca l).any (Bcy ())) 2 (
  bif decide ((Bay l).length ≤ 1000) then er (!apF l.2.1 l.2.2.1 (Bbk l)) 2 (.leaf (0, ())) else .fail))))))))))))
 else .fail)))
theorem Bhw {α : Type} (p : α → Bool) (l : List α) : l.any (fun x => !p x) = !l.all p := by
 induction l with
 | nil => rfl
 | cons x l ih => simp only [List.any_cons, List.all_cons, ih, Bool.not_and]
theorem Cpp {l : TCT Bao} (hs : (l.1.size : Int) ≤ Bb2 .i64) : (Cxn l).sat (fun y => y = (Bc1 l, ())) := by
 unfold Cxn Bc1
 rw [← Bk4, ← Bk4, Bool.or_assoc]
 show (er (Bk3 l) 6 _).sat _
 cases hm : Bk3 l with
 | true => exact rfl
 | false =>
  have h12 : (Bay l).length ≤ 1000 := by
   unfold Bk3 at hm
   simp only [Bool.or_eq_false_iff, decide_eq_false_iff_not] at hm
   omega
  rw [decide_eq_true hs, decide_eq_true h12]
  show (er (!Bhd l.1) 2 _).sat (fun y => y = ((bif okL l then 0 else 2), ()))
  have hh : (Bay l).any (Bcx ()) = !(Bay l).all Bej := Bhw Bej _
  have hc : (Bca l).any (Bcy ()) = !(Bca l).all Bf7 := Bhw Bf7 _
  rw [hh, hc]
  unfold okL C5x C5y
  simp only [cond_true]
  generalize Bhd l.1 = b1
  generalize inR l.2.1 65536 4194304 = b2
  generalize inR l.2.2.1 65536 4194304 = b3
  generalize inR l.2.2.2.1 0 (W64 (Int.tdiv (min l.2.1 l.2.2.1) 4)) = b4
  generalize inR (Bip l).2.1 1 8192 = b5
  generalize decide (nxL l < 1) = b6
  generalize decide (nxL l > 16) = b7
  generalize decide (nyL l < 1) = b8
  generalize decide (nyL l > 16) = b9
  generalize (((Bca l).length : Int) != W64 (nxL l * nyL l)) = b10
  generalize (Bay l).all Bej = b11
  generalize (Bca l).all Bf7 = b12
  generalize apF l.2.1 l.2.2.1 (Bbk l) = b13
  cases b1 <;> try exact rfl
  cases b2 <;> try exact rfl
  cases b3 <;> try exact rfl
  cases b4 <;> try exact rfl
  cases b5 <;> try exact rfl
  cases b6 <;> try exact rfl
  cases b7 <;> try exact rfl
  cases b8 <;> try exact rfl
  cases b9 <;> try exact rfl
  cases b10 <;> try exact rfl
  cases b11 <;> try exact rfl
  cases b12 <;> try exact rfl
  cases b13 <;> exact rfl
theorem Bnw : Bai Tryz.prog 75 Bqm := Bbd (Bap Ban puLc (fns_cons is_lCheck Fq)) 7 (fun x => Cxn x.1) (fun x => by kernel_rfl) fun x hok _ => Cpp (of_decide_eq_true hok)
end St
end V
end Go.Proofs.YtcfanlgpkefogaaGreat
namespace Go.Proofs.YtcfanlgpkefogaaGreat
open Go.RowKit
namespace V
namespace St
theorem Bkk {G E α : Type} {st : G → Tree (G ⊕ E)} (l : List α) (d : α) (hd : Int → G) (bad : α → Bool) (rt ex : E) (hl : (l.length : Int) ≤ Bb2 .i64)
  (h : ∀ i : Int, st (hd i) = bif decide (i < (l.length : Int)) then bif decide (0 ≤ i ∧ i < (l.length : Int)) then bif bad (Bat l (Int.toNat i) d) then .leaf (.inr rt) else .leaf (.inl (hd (W64 (i + 1)))) else .fail else .leaf (.inr ex)) :
  iter st (l.length + 1) (hd 0) = some (bif l.any bad then rt else ex) := by
 have hl' : (l.length : Int) ≤ 9223372036854775807 := hl
 have key := Bds (st := st) l (fun i (_ : Unit) => hd (i : Int)) (fun _ x _ => bif bad x then some (.inr rt) else some (.inl ())) (fun _ => some ex) (fun _ _ => True)
  (fun i s hi _ => by
   have hrun : (st (hd (i : Int))).run = some (bif bad l[i] then .inr rt else .inl (hd ((i + 1 : Nat) : Int))) := by
    rw [h, decide_eq_true (show (i : Int) < (l.length : Int) by omega), decide_eq_true (show 0 ≤ (i : Int) ∧ (i : Int) < (l.length : Int) by omega), show Int.toNat (i : Int) = i by omega, Bcl hi, Bba (n := (i : Int) + 1) (by omega) (by omega)]
    cases bad l[i] <;> rfl
   cases hb : bad l[i] with
   | true => rw [hb] at hrun; simp only [cond_true]; exact hrun
   | false => rw [hb] at hrun; simp only [cond_false]; exact ⟨hrun, trivial⟩)
  (fun s e _ he => by
   cases he
   rw [h, decide_eq_false (show ¬ (l.length : Int) < (l.length : Int) by omega)]
   rfl)
  l.length 0 () (bif l.any bad then rt else ex) (l.length + 1) (by omega) (by omega) trivial (by rw [List.drop_zero]; exact Bp7 bad (fun _ => rt) ex _ 0)
 exact key
theorem Bsn {G E α : Type} {st : G → Tree (G ⊕ E)} (l : List α) (d : α) (hd : Int → G) (ok : Nat → α → Bool) (body : Int → α → Tree (G ⊕ E)) (rt ex : E) (hl : (l.length : Int) ≤ Bb2 .i64)
  (h : ∀ i : Int, st (hd i) = bif decide (i < (l.length : Int)) then bif decide (0 ≤ i ∧ i < (l.length : Int)) then body i (Bat l (Int.toNat i) d) else .fail else .leaf (.inr ex))
  (hb : ∀ (i : Nat) (hi : i < l.length), (body (i : Int) l[i]).run = some (bif ok i l[i] then .inl (hd ((i + 1 : Nat) : Int)) else .inr rt)) :
  iter st (l.length + 1) (hd 0) = some (bif Bfo ok 0 l then ex else rt) := by
 have hl' : (l.length : Int) ≤ 9223372036854775807 := hl
 have key := Bds (st := st) l (fun i (_ : Unit) => hd (i : Int)) (fun i x _ => bif ok i x then some (.inl ()) else some (.inr rt)) (fun _ => some ex) (fun _ _ => True)
  (fun i s hi _ => by
   have hrun : (st (hd (i : Int))).run = some (bif ok i l[i] then .inl (hd ((i + 1 : Nat) : Int)) else .inr rt) := by
    rw [h, decide_eq_true (show (i : Int) < (l.length : Int) by omega), decide_eq_true (show 0 ≤ (i : Int) ∧ (i : Int) < (l.length : Int) by omega), show Int.toNat (i : Int) = i by omega, Bcl hi]
    exact hb i hi
   cases hk : ok i l[i] with
   | true => rw [hk] at hrun; simp only [cond_true]; exact ⟨hrun, trivial⟩
   | false => rw [hk] at hrun; simp only [cond_false]; exact hrun)
  (fun s e _ he => by
   cases he
   rw [h, decide_eq_false (show ¬ (l.length : Int) < (l.length : Int) by omega)]
   rfl)
  l.length 0 () (bif Bfo ok 0 l then ex else rt) (l.length + 1) (by omega) (by omega) trivial (by rw [List.drop_zero]; exact Bsl ok rt ex _ 0)
 exact key
def plRc : List (Nat × PureT) := []
theorem puRc : Bc7 Tryz.prog plRc := puOk_nil
abbrev bL : BK := (0, 36, kLw)
def C5z : Lay := { keys := [1, 3], ks := [.p 0 0 0 0, .d cI], bs := [bL], n := 224, nx := 1000, marks := [] }
def C1n : Lay := { keys := [1], ks := [.p 0 0 0 0], bs := [bL], n := 224, nx := 1000, marks := [] }
def D5y : Lay := { keys := [2], ks := [.d cI], bs := [], n := 224, nx := 1000, marks := [] }
def Bpk : XE → Lay := fun e => match e with | .ret => D5y | _ => C1n
def Chu (x : SKTs kLw) (i : Int) : C5z.T := (((), i, ()), (x, ()))
def Bwt : Fp Bpk := ⟨.ret, ((2, ()), ())⟩
def Chv (x : SKTs kLw) : Fp Bpk := ⟨.exit 0, (((), ()), (x, ()))⟩
def D5z (h : TCT Bbj) : TCT Bbj := (h.1, h.2.1, h.2.2.1, h.2.2.2.1, h.2.2.2.2.1, ())
def hsX (x : SKTs kLw) : List (TCT Bbj) := x.2.2.2.2.1
def csX (x : SKTs kLw) : List (TCT Bc3) := x.2.2.2.2.2.2.2.2.2.2.1
def C97 (g : C5z.T) : Tree (C5z.T ⊕ Fp Bpk) := bif decide (g.1.2.1 < ((hsX g.2.1).length : Int)) then bif decide (0 ≤ g.1.2.1 ∧ g.1.2.1 < ((hsX g.2.1).length : Int)) then
 bif !Bej (D5z (Bat (hsX g.2.1) (Int.toNat g.1.2.1) (Bar Bbj))) then .leaf (.inr Bwt) else .leaf (.inl (Chu g.2.1 (W64 (g.1.2.1 + 1)))) else .fail else .leaf (.inr (Chv g.2.1))
def Chw (g : C5z.T) : Nat := (hsX g.2.1).length + 1
def C60 : Lay := { keys := [1, 4], ks := [.p 0 0 0 0, .d cI], bs := [bL], n := 224, nx := 1000, marks := [] }
def Chx (x : SKTs kLw) (i : Int) : C60.T := (((), i, ()), (x, ()))
def Chy (x : SKTs kLw) : Fp Bpk := ⟨.exit 2, (((), ()), (x, ()))⟩
def C98 (g : C60.T) : Tree (C60.T ⊕ Fp Bpk) := bif decide (g.1.2.1 < ((csX g.2.1).length : Int)) then bif decide (0 ≤ g.1.2.1 ∧ g.1.2.1 < ((csX g.2.1).length : Int)) then
 bif !Bf7 (Bat (csX g.2.1) (Int.toNat g.1.2.1) (Bar Bc3)) then .leaf (.inr Bwt) else .leaf (.inl (Chx g.2.1 (W64 (g.1.2.1 + 1)))) else .fail else .leaf (.inr (Chy g.2.1))
def Chz (g : C60.T) : Nat := (csX g.2.1).length + 1
end St
end V
end Go.Proofs.YtcfanlgpkefogaaGreat
namespace Go.Proofs.YtcfanlgpkefogaaGreat
open Go.RowKit
namespace V
namespace St
def C1o : Lay := { keys := [1, 5, 6, 7], ks := [.p 0 0 0 0, .d (.sl Baf), .d cI, .d cI], bs := [bL], n := 224, nx := 2000, marks := [] }
def D2f : Lay := { keys := [1, 5, 6], ks := [.p 0 0 0 0, .d (.sl Baf), .d cI], bs := [bL], n := 224, nx := 2000, marks := [] }
def Cve : Lay := { keys := [2], ks := [.d cI], bs := [], n := 224, nx := 2000, marks := [] }
def Byp : XE → Lay := fun e => match e with | .ret => Cve | _ => D2f
def Bso : Lay := { keys := [1, 5, 6], ks := [.p 0 0 0 0, .d (.sl Baf), .d cI], bs := [bL], n := 224, nx := 1000, marks := [] }
def D62 : Lay := { keys := [], ks := [], bs := [], n := 224, nx := 2000, marks := [] }
def C1p : XE → Lay := fun e => match e with | .ret => Cve | _ => D62
def sqR (a b : TCT Baf) : Int := W64 (W64 (W64 (a.1.1 - b.1.1) * W64 (a.1.1 - b.1.1)) + W64 (W64 (a.1.2.1 - b.1.2.1) * W64 (a.1.2.1 - b.1.2.1)))
def Bvw (d o : TCT Baf) : Bool := decide (sqR d o < srD d o)
def inP {β : Type} (p : List (TCT Baf)) (i : Int) (k : Tree β) : Tree β := bif decide (0 ≤ i ∧ i < (p.length : Int)) then k else .fail
theorem Bf8 {β : Type} {p : List (TCT Baf)} {i : Int} {k : Tree β} (h : 0 ≤ i ∧ i < (p.length : Int)) : inP p i k = k := by unfold inP; rw [decide_eq_true h]; rfl
def gD (p : List (TCT Baf)) (i : Int) : TCT Baf := Bat p (Int.toNat i) (Bar Baf)
def C99 (x : SKTs kLw) (p : List (TCT Baf)) (i k : Int) : C1o.T := (((), p, i, k, ()), (x, ()))
def C9a : Fp Byp := ⟨.ret, ((2, ()), ())⟩
def C9b (x : SKTs kLw) (p : List (TCT Baf)) (i : Int) : Fp Byp := ⟨.exit 6, (((), p, i, ()), (x, ()))⟩
def C61 (x : SKTs kLw) (p : List (TCT Baf)) (i k : Int) : Tree (C1o.T ⊕ Fp Byp) := bif decide (k < i) then
 inP p i (inP p k (inP p i (inP p k (inP p i (inP p k (inP p i (inP p k (bif Bvw (gD p i) (gD p k) then .leaf (.inr C9a) else .leaf (.inl (C99 x p i (W64 (k + 1)))))))))))) else .leaf (.inr (C9b x p i))
def C1q (g : C1o.T) : Tree (C1o.T ⊕ Fp Byp) := C61 g.2.1 g.1.2.1 g.1.2.2.1 g.1.2.2.2.1
def Ci0 (g : C1o.T) : Nat := (List.take (Int.toNat g.1.2.2.1) (g.1.2.1 : List (TCT Baf))).length + 1
theorem Cpq (x : SKTs kLw) (p : List (TCT Baf)) (i : Nat) (hi : i < p.length) (hp : (p.length : Int) ≤ Bb2 .i64) :
  iter C1q ((p.take i).length + 1) (C99 x p i 0) = some (bif (p.take i).any (Bvw p[i]) then C9a else C9b x p i) := by
 have ht : (p.take i).length = i := by rw [List.length_take]; omega
 have hp' : (p.length : Int) ≤ 9223372036854775807 := hp
 refine Bkk (p.take i) (Bar Baf) (fun k => C99 x p i k) (Bvw p[i]) C9a (C9b x p i) (by rw [ht]; show (i : Int) ≤ 9223372036854775807; omega) fun k => ?_
 show C61 x p i k = _
 unfold C61
 rw [ht]
 by_cases hk : k < (i : Int)
 ·rw [decide_eq_true hk, cond_true, cond_true]
  by_cases h0 : 0 ≤ k
  ·have hki : 0 ≤ k ∧ k < (p.length : Int) := by omega
   have hii : 0 ≤ (i : Int) ∧ (i : Int) < (p.length : Int) := by omega
   have e1 : gD p (i : Int) = p[i] := by unfold gD; rw [show Int.toNat (i : Int) = i by omega, Bcl hi]
   have e2 : gD p k = Bat (p.take i) (Int.toNat k) (Bar Baf) := by
    unfold gD
    have h1 : Int.toNat k < p.length := by omega
    have h2 : Int.toNat k < (p.take i).length := by omega
    rw [Bcl h1, Bcl h2, List.getElem_take]
   rw [Bf8 hii, Bf8 hki, Bf8 hii, Bf8 hki, Bf8 hii, Bf8 hki, Bf8 hii, Bf8 hki, e1, e2, decide_eq_true (show 0 ≤ k ∧ k < (i : Int) by omega)]
   rfl
  ·have hii : 0 ≤ (i : Int) ∧ (i : Int) < (p.length : Int) := by omega
   rw [Bf8 hii, decide_eq_false (show ¬ (0 ≤ k ∧ k < (i : Int)) by omega)]
   unfold inP
   rw [decide_eq_false (show ¬ (0 ≤ k ∧ k < (p.length : Int)) by omega)]
   rfl
 ·rw [decide_eq_false hk]; rfl
def C9c (x : SKTs kLw) (p : List (TCT Baf)) (i : Int) : Bso.T := (((), p, i, ()), (x, ()))
def Bwu (e : Int) : Fp C1p := ⟨.ret, ((e, ()), ())⟩
def C9d : Fp C1p := ⟨.exit 4, ((), ())⟩
abbrev TC3 := Tree (Bso.T ⊕ Fp C1p)
def Cxo (x : SKTs kLw) (p : List (TCT Baf)) (i : Int) : Option (Fp Byp) := iter C1q ((p.take (Int.toNat i)).length + 1) (C99 x p i 0)
def D2g (r : D2f.T) : Bso.T := C9c r.2.1 r.1.2.1 (W64 (r.1.2.2.1 + 1))
def D2h (y : Option (Fp Byp)) : TC3 := bif isE .ret y then .leaf (.inr (Bwu (Bc4 .ret y).1.1)) else bif isE (.exit 6) y then .leaf (.inl (D2g (Bc4 (.exit 6) y))) else .fail
def Ci1 (x : SKTs kLw) (p : List (TCT Baf)) (i : Int) (d : TCT Baf) : TC3 :=
 inP p i (inP p i (bif !inR d.1.1 d.2.1 (W64 (x.2.1 - d.2.1)) then .leaf (.inr (Bwu 2)) else inP p i (inP p i (inP p i (bif !inR d.1.2.1 d.2.1 (W64 (x.2.2.1 - d.2.1)) then .leaf (.inr (Bwu 2)) else D2h (Cxo x p i))))))
def C1r (g : Bso.T) : TC3 := bif decide (g.1.2.2.1 < ((g.1.2.1 : List (TCT Baf)).length : Int)) then bif decide (0 ≤ g.1.2.2.1 ∧ g.1.2.2.1 < ((g.1.2.1 : List (TCT Baf)).length : Int)) then Ci1 g.2.1 g.1.2.1 g.1.2.2.1 (gD g.1.2.1 g.1.2.2.1) else .fail else .leaf (.inr C9d)
def Ci2 (g : Bso.T) : Nat := (g.1.2.1 : List (TCT Baf)).length + 1
def Cvf : Bi2 := fun k => bif Nat.beq k 24 then some (Bav C1o Byp (Bcn [.ret, .exit 6] C1q Ci0)) else none
end St
end V
end Go.Proofs.YtcfanlgpkefogaaGreat
namespace Go.Proofs.YtcfanlgpkefogaaGreat
open Go.RowKit
namespace V
namespace St
def Ci7 (x : SKTs kLw) : Option (Fp Bpk) := iter C97 ((hsX x).length + 1) (Chu x 0)
def Ci8 (x : SKTs kLw) : Option (Fp Bpk) := iter C98 ((csX x).length + 1) (Chx x 0)
def Ci9 (x : SKTs kLw) (p : List (TCT Baf)) : Option (Fp C1p) := iter C1r (p.length + 1) (C9c x p 0)
def Cia (r : C1n.T) : TEr := bif decide ((hsX r.2.1).length ≤ 1000) then
 bif isE .ret (Ci9 r.2.1 (Bbk (Bka r.2.1))) then .leaf ((Bc4 .ret (Ci9 r.2.1 (Bbk (Bka r.2.1)))).1.1, ()) else bif isE (.exit 4) (Ci9 r.2.1 (Bbk (Bka r.2.1))) then .leaf (0, ()) else .fail else .fail
def Cib (r : C1n.T) : TEr := er (!inR (Bip (Bka r.2.1)).2.1 1 8192) 2 (er (!inR (Bip (Bka r.2.1)).1.1 0 4194304) 2 (er (!inR (Bip (Bka r.2.1)).1.2.1 0 4194304) 2 (
 er (decide (nxL (Bka r.2.1) < 1)) 2 (er (decide (nxL (Bka r.2.1) > 16)) 2 (er (decide (nyL (Bka r.2.1) < 1)) 2 (er (decide (nyL (Bka r.2.1) > 16)) 2 (er (((csX r.2.1).length : Int) != W64 (nxL (Bka r.2.1) * nyL (Bka r.2.1))) 2 (
 bif isE .ret (Ci8 r.2.1) then .leaf ((Bc4 .ret (Ci8 r.2.1)).1.1, ()) else bif isE (.exit 2) (Ci8 r.2.1) then Cia (Bc4 (.exit 2) (Ci8 r.2.1)) else .fail))))))))
def Cps (l : TCT Bao) : TEr :=
 er (decide (((Bay l).length : Int) < 1)) 6 (er (decide (((Bay l).length : Int) > 12)) 6 (er (decide (((Bca l).length : Int) > 256)) 6 (
 bif decide ((l.1.size : Int) ≤ Bb2 .i64) then er (!Bhd l.1) 2 (er (!inR l.2.1 65536 4194304) 2 (er (!inR l.2.2.1 65536 4194304) 2 (er (!inR l.2.2.2.1 0 (W64 (Int.tdiv (min l.2.1 l.2.2.1) 4))) 2 (
  bif isE .ret (Ci7 (Bd0 l)) then .leaf ((Bc4 .ret (Ci7 (Bd0 l))).1.1, ()) else bif isE (.exit 0) (Ci7 (Bd0 l)) then Cib (Bc4 (.exit 0) (Ci7 (Bd0 l))) else .fail))))
 else .fail)))
end St
end V
end Go.Proofs.YtcfanlgpkefogaaGreat
namespace Go.Proofs.YtcfanlgpkefogaaGreat
open Go.RowKit
namespace V
namespace St
def apR (w l : Int) (p : List (TCT Baf)) : Bool := Bfo (fun i d => Bms w l d && !(p.take i).any (Bvw d)) 0 p
theorem Cpu (x : SKTs kLw) (hl : ((hsX x).length : Int) ≤ Bb2 .i64) : Ci7 x = some (bif (hsX x).any (fun h => !Bej h) then Bwt else Chv x) :=
 Bkk (hsX x) (Bar Bbj) (Chu x) (fun h => !Bej h) Bwt (Chv x) hl (fun _ => rfl)
theorem Cpv (x : SKTs kLw) (hl : ((csX x).length : Int) ≤ Bb2 .i64) : Ci8 x = some (bif (csX x).any (fun h => !Bf7 h) then Bwt else Chy x) :=
 Bkk (csX x) (Bar Bc3) (Chx x) (fun h => !Bf7 h) Bwt (Chy x) hl (fun _ => rfl)
theorem Cpw (x : SKTs kLw) (p : List (TCT Baf)) (hp : (p.length : Int) ≤ Bb2 .i64) : Ci9 x p = some (bif apR x.2.1 x.2.2.1 p then C9d else Bwu 2) := by
 have hp' : (p.length : Int) ≤ 9223372036854775807 := hp
 refine Bsn p (Bar Baf) (C9c x p) (fun i d => Bms x.2.1 x.2.2.1 d && !(p.take i).any (Bvw d)) (Ci1 x p) (Bwu 2) C9d hp (fun _ => rfl) fun i hi => ?_
 have hii : 0 ≤ (i : Int) ∧ (i : Int) < (p.length : Int) := by omega
 unfold Ci1 Bms
 rw [Bf8 hii, Bf8 hii, Bf8 hii, Bf8 hii, Bf8 hii]
 cases inR p[i].1.1 p[i].2.1 (W64 (x.2.1 - p[i].2.1)) with
 | false => rfl
 | true =>
  cases inR p[i].1.2.1 p[i].2.1 (W64 (x.2.2.1 - p[i].2.1)) with
  | false => rfl
  | true =>
   have hy : Cxo x p (i : Int) = some (bif (p.take i).any (Bvw p[i]) then C9a else C9b x p i) := by
    unfold Cxo
    rw [show Int.toNat (i : Int) = i by omega]
    exact Cpq x p i hi hp
   simp only [Bool.not_true, cond_false, Bool.true_and]
   rw [hy]
   cases (p.take i).any (Bvw p[i]) with
   | true => rfl
   | false =>
    show (Tree.leaf (Sum.inl (C9c x p (W64 ((i : Int) + 1)))) : TC3).run = _
    rw [Bba (n := (i : Int) + 1) (by omega) (by omega)]
    rfl
def Cpx (l : TCT Bao) : Bool := inR (Bip l).2.1 1 8192 && (inR (Bip l).1.1 0 4194304 && inR (Bip l).1.2.1 0 4194304)
def okR (l : TCT Bao) : Bool := C5x l && ((Bay l).all Bej && (Cpx l && (C5y l && ((Bca l).all Bf7 && apR l.2.1 l.2.2.1 (Bbk l)))))
def Cpy (l : TCT Bao) : Int := bif Bk3 l then 6 else bif okR l then 0 else 2
theorem Bwv {l : TCT Bao} : (Bbk l).length = 2 * (Bay l).length + 1 := by
 unfold Bbk
 rw [List.length_append, Bnu]
 rfl
theorem D2j {l : TCT Bao} (h12 : (Bay l).length ≤ 1000) : (Cia (((), ()), (Bd0 l, ()))).sat (fun y => y = ((bif apR l.2.1 l.2.2.1 (Bbk l) then (0 : Int) else 2), ())) := by
 unfold Cia
 have e : Bka (((((), ()), (Bd0 l, ())) : C1n.T).2.1) = l := rfl
 have e2 : hsX (((((), ()), (Bd0 l, ())) : C1n.T).2.1) = Bay l := rfl
 have hy : Ci9 (((((), ()), (Bd0 l, ())) : C1n.T).2.1) (Bbk l) = some (bif apR l.2.1 l.2.2.1 (Bbk l) then C9d else Bwu 2) := Cpw (Bd0 l) (Bbk l) (by rw [Bwv]; simp only [Bb2]; omega)
 rw [e, e2, decide_eq_true h12, hy]
 cases apR l.2.1 l.2.2.1 (Bbk l) <;> exact rfl
theorem Bjc {a b : Bool} {k : TEr} (h : k.sat (fun y => y = ((bif b then (0 : Int) else 2), ()))) : (er (!a) 2 k).sat (fun y => y = ((bif a && b then (0 : Int) else 2), ())) := by
 cases a with
 | true => exact h
 | false => exact rfl
theorem Bkl {a b : Bool} {k : TEr} (h : k.sat (fun y => y = ((bif b then (0 : Int) else 2), ()))) : (er a 2 k).sat (fun y => y = ((bif !a && b then (0 : Int) else 2), ())) := by
 cases a with
 | true => exact rfl
 | false => exact h
theorem D2k {l : TCT Bao} (h12 : (Bay l).length ≤ 1000) (hc : ((Bca l).length : Int) ≤ Bb2 .i64) : (Cib (((), ()), (Bd0 l, ()))).sat (fun y => y = ((bif Cpx l && (C5y l && ((Bca l).all Bf7 && apR l.2.1 l.2.2.1 (Bbk l))) then (0 : Int) else 2), ())) := by
 unfold Cib Cpx C5y
 have e : Bka (((((), ()), (Bd0 l, ())) : C1n.T).2.1) = l := rfl
 have e2 : csX (((((), ()), (Bd0 l, ())) : C1n.T).2.1) = Bca l := rfl
 rw [e, e2]
 simp only [Bool.and_assoc]
 refine Bjc (Bjc (Bjc (Bkl (Bkl (Bkl (Bkl (Bkl ?_)))))))
 rw [Cpv (Bd0 l) hc]
 have hq : (csX (Bd0 l)).any (fun h => !Bf7 h) = !(Bca l).all Bf7 := Bhw Bf7 _
 rw [hq]
 cases (Bca l).all Bf7 with
 | false => exact rfl
 | true => exact D2j h12
theorem Cpz {l : TCT Bao} (hs : (l.1.size : Int) ≤ Bb2 .i64) (hh : ((Bay l).length : Int) ≤ Bb2 .i64) (hc : ((Bca l).length : Int) ≤ Bb2 .i64) : (Cps l).sat (fun y => y = (Cpy l, ())) := by
 unfold Cps Cpy
 rw [← Bk4, ← Bk4, Bool.or_assoc]
 show (er (Bk3 l) 6 _).sat _
 cases hm : Bk3 l with
 | true => exact rfl
 | false =>
  have h12 : (Bay l).length ≤ 1000 := by
   unfold Bk3 at hm
   simp only [Bool.or_eq_false_iff, decide_eq_false_iff_not] at hm
   omega
  rw [decide_eq_true hs]
  show (er (!Bhd l.1) 2 _).sat (fun y => y = ((bif okR l then (0 : Int) else 2), ()))
  unfold okR C5x
  simp only [Bool.and_assoc]
  refine Bjc (Bjc (Bjc (Bjc ?_)))
  rw [Cpu (Bd0 l) hh]
  have hq : (hsX (Bd0 l)).any (fun h => !Bej h) = !(Bay l).all Bej := Bhw Bej _
  rw [hq]
  cases (Bay l).all Bej with
  | false => exact rfl
  | true => exact D2k h12 hc
end St
end V
end Go.Proofs.YtcfanlgpkefogaaGreat
namespace Go.Proofs.YtcfanlgpkefogaaGreat
open Go.RowKit
namespace V
namespace St
theorem Bgx {x lo hi : Int} : inR x lo hi = true ↔ lo ≤ x ∧ x ≤ hi := by unfold inR; simp only [Bool.and_eq_true, decide_eq_true_eq]
theorem C9e {α : Type} {p : List α} {ok1 ok2 : Nat → α → Bool} (ins : α → Bool) (h : ∀ (i : Nat) (hi : i < p.length), (∀ o ∈ p.take i, ins o = true) → ok1 i p[i] = ok2 i p[i]) (h1 : ∀ i x, ok1 i x = true → ins x = true) :
  ∀ (k i : Nat), i + k = p.length → (∀ o ∈ p.take i, ins o = true) → Bfo ok1 i (p.drop i) = Bfo ok2 i (p.drop i)
 | 0, i, hk, _ => by
  rw [List.drop_eq_nil_of_le (by omega)]; rfl
 | k + 1, i, hk, hp => by
  have hi : i < p.length := by omega
  rw [List.drop_eq_getElem_cons hi]
  simp only [Bfo]
  rw [← h i hi hp]
  cases ho : ok1 i p[i] with
  | false => rfl
  | true =>
   rw [Bool.true_and, Bool.true_and]
   refine C9e ins h h1 k (i + 1) (by omega) fun o hm => ?_
   rw [List.take_succ_eq_append_getElem hi, List.mem_append, List.mem_singleton] at hm
   rcases hm with hm | rfl
   ·exact hp o hm
   ·exact h1 i _ ho
theorem C1s {α : Type} {ok : Nat → α → Bool} : ∀ (l : List α) (i : Nat), Bfo ok i l = true → ∀ x ∈ l, ∃ j, ok j x = true
 | y :: l, i, h, x, hx => by
  simp only [Bfo, Bool.and_eq_true] at h
  rcases List.mem_cons.1 hx with rfl | hx
  ·exact ⟨i, h.1⟩
  ·exact C1s l (i + 1) h.2 x hx
structure On (d : TCT Baf) : Prop where
 x : 0 ≤ d.1.1 ∧ d.1.1 ≤ 4194304
 y : 0 ≤ d.1.2.1 ∧ d.1.2.1 ≤ 4194304
 r : 1 ≤ d.2.1 ∧ d.2.1 ≤ 8192
theorem Cq0 {x y r w l : Int} (hw : 0 ≤ w ∧ w ≤ 4194304) (hl : 0 ≤ l ∧ l ≤ 4194304) (hr : 1 ≤ r ∧ r ≤ 8192) (h : (r ≤ x ∧ x ≤ W64 (w - r)) ∧ r ≤ y ∧ y ≤ W64 (l - r)) : (0 ≤ x ∧ x ≤ 4194304) ∧ 0 ≤ y ∧ y ≤ 4194304 := by
 rw [Bba (n := w - r) (by omega) (by omega), Bba (n := l - r) (by omega) (by omega)] at h
 omega
theorem Cic {w l : Int} (hw : 0 ≤ w ∧ w ≤ 4194304) (hl : 0 ≤ l ∧ l ≤ 4194304) {d : TCT Baf} (hr : 1 ≤ d.2.1 ∧ d.2.1 ≤ 8192) (h : Bms w l d = true) : On d := by
 unfold Bms at h
 simp only [Bool.and_eq_true, Bgx] at h
 obtain ⟨h1, h2⟩ := Cq0 hw hl hr h
 exact ⟨h1, h2, hr⟩
theorem Cid {x y r : Int} (hx : 0 ≤ x ∧ x ≤ 4194304) (hy : 0 ≤ y ∧ y ≤ 4194304) (hr : 1 ≤ r ∧ r ≤ 8192) : Bts x y r = 0 := by
 unfold Bts Bii fpt Bb6
 rw [decide_eq_true (show -4194304 ≤ x ∧ x ≤ 4194304 ∧ -4194304 ≤ y ∧ y ≤ 4194304 by omega), decide_eq_false (show ¬ r < 1 by omega), decide_eq_false (show ¬ 65536 < r by omega)]
 rfl
theorem Cie {a b : Int} (ha : 0 ≤ a ∧ a ≤ 4194304) (hb : 0 ≤ b ∧ b ≤ 4194304) : W64 (b - a) * W64 (b - a) = W64 (a - b) * W64 (a - b) := by
 rw [Bba (n := b - a) (by omega) (by omega), Bba (n := a - b) (by omega) (by omega)]
 grind
theorem Cxs {d o : TCT Baf} (hd : On d) (ho : On o) : touB d o = Bvw d o := by
 have e : sqD d o = sqR d o := by
  unfold sqD sqR
  rw [Cie hd.x ho.x, Cie hd.y ho.y]
 have c1 : cdE d = 0 := Cid hd.x hd.y hd.r
 have c2 : cdE o = 0 := Cid ho.x ho.y ho.r
 unfold touB Bvw Ccx
 rw [c1, c2, e]
 show decide (Cpj (sqR d o) (srD d o) < 0) = _
 unfold Cpj
 by_cases h : sqR d o < srD d o
 ·rw [decide_eq_true h]; rfl
 ·rw [decide_eq_false h, cond_false]
  cases decide (sqR d o > srD d o) <;> rfl
theorem Bli {α : Type} {p q : α → Bool} : ∀ {l : List α}, (∀ x ∈ l, p x = q x) → l.any p = l.any q
 | [], _ => rfl
 | x :: l, h => by rw [List.any_cons, List.any_cons, h x (List.mem_cons_self ..), Bli fun y hy => h y (List.mem_cons_of_mem _ hy)]
theorem D2l {w l : Int} (hw : 0 ≤ w ∧ w ≤ 4194304) (hl : 0 ≤ l ∧ l ≤ 4194304) {p : List (TCT Baf)} (hr : ∀ d ∈ p, 1 ≤ d.2.1 ∧ d.2.1 ≤ 8192) : apF w l p = apR w l p := by
 have key := C9e (p := p) (ok1 := fun i d => Bms w l d && !(p.take i).any (touB d)) (ok2 := fun i d => Bms w l d && !(p.take i).any (Bvw d)) (Bms w l)
  (fun i hi hp => by
   cases hi' : Bms w l p[i] with
   | false => rfl
   | true =>
    have hd := Cic hw hl (hr _ (List.getElem_mem hi)) hi'
    rw [Bli fun o ho => Cxs hd (Cic hw hl (hr o (List.mem_of_mem_take ho)) (hp o ho))])
  (fun i x h => by simp only [Bool.and_eq_true] at h; exact h.1) p.length 0 (by omega) (fun o ho => by rw [List.take_zero] at ho; cases ho)
 rw [List.drop_zero] at key
 exact key
theorem D66 {h : TCT Bbj} {d : TCT Baf} (hd : d ∈ w2 h) : d.2.1 = h.2.2.2.1 := by
 unfold w2 at hd
 cases hb : h.2.2.2.2.1 with
 | true =>
  rw [hb] at hd
  have hd : d ∈ [Bm8 h.1 (W64 (h.2.1 - dW h)) h.2.2.2.1, Bm8 h.1 (W64 (h.2.1 + dW h)) h.2.2.2.1] := hd
  rcases List.mem_cons.1 hd with rfl | hd
  ·rfl
  ·rw [List.mem_singleton] at hd; subst hd; rfl
 | false =>
  rw [hb] at hd
  have hd : d ∈ [Bm8 (W64 (h.1 - dW h)) h.2.1 h.2.2.2.1, Bm8 (W64 (h.1 + dW h)) h.2.1 h.2.2.2.1] := hd
  rcases List.mem_cons.1 hd with rfl | hd
  ·rfl
  ·rw [List.mem_singleton] at hd; subst hd; rfl
theorem Cq1 {l : TCT Bao} (hh : (Bay l).all Bej = true) (hp : inR (Bip l).2.1 1 8192 = true) : ∀ d ∈ Bbk l, 1 ≤ d.2.1 ∧ d.2.1 ≤ 8192 := by
 intro d hd
 unfold Bbk at hd
 rw [List.mem_append, List.mem_singleton, List.mem_flatMap] at hd
 rcases hd with ⟨h, hm, hd⟩ | rfl
 ·have := List.all_eq_true.1 hh h hm
  unfold Bej at this
  simp only [Bool.and_eq_true, Bgx] at this
  rw [D66 hd]
  exact this.2.2.2.2
 ·exact Bgx.1 hp
theorem Cif (l : TCT Bao) : Cpy l = Bc1 l := by
 unfold Cpy Bc1
 congr 2
 unfold okR okL
 cases hd : C5x l with
 | false => rfl
 | true =>
  have hd' := hd
  unfold C5x at hd'
  simp only [Bool.and_eq_true, Bgx] at hd'
  obtain ⟨_, ⟨w1, w2'⟩, ⟨l1, l2⟩, _⟩ := hd'
  have hw : 0 ≤ l.2.1 ∧ l.2.1 ≤ 4194304 := ⟨Int.le_trans (by decide) w1, w2'⟩
  have hl : 0 ≤ l.2.2.1 ∧ l.2.2.1 ≤ 4194304 := ⟨Int.le_trans (by decide) l1, l2⟩
  unfold Cpx
  cases hh : (Bay l).all Bej with
  | false => cases inR (Bip l).2.1 1 8192 <;> cases C5y l <;> rfl
  | true =>
   cases hp : inR (Bip l).2.1 1 8192 with
   | false => rfl
   | true =>
    have hr := Cq1 hh hp
    rw [← D2l hw hl hr]
    cases ha : apF l.2.1 l.2.2.1 (Bbk l) with
    | false => simp
    | true =>
     obtain ⟨j, hj⟩ := C1s (Bbk l) 0 ha (Bip l) (by unfold Bbk; simp)
     simp only [Bool.and_eq_true] at hj
     have on := Cic hw hl (Bgx.1 hp) hj.1
     have e1 : inR (Bip l).1.1 0 4194304 = true := Bgx.2 on.x
     have e2 : inR (Bip l).1.2.1 0 4194304 = true := Bgx.2 on.y
     rw [e1, e2]
     simp
end St
end V
end Go.Proofs.YtcfanlgpkefogaaGreat
namespace Go.Proofs.YtcfanlgpkefogaaGreat
open Go.RowKit
namespace V
namespace St
theorem is_Posts : FnIs Tryz.prog (25, Tryz.f25) := ⟨Tryz.func25, by kernel_rfl, by kernel_rfl⟩
def plPs : List (Nat × PureT) := [(75, Bqm), (74, Bjb)]
theorem puPs : Bc7 Tryz.prog plPs := puOk_cons is_lCheck.plain Bnw (puOk_cons is_lposts.plain Byj (puOk_nil))
def Bgj (l : TCT Bao) : List (TCT Baf) := bif Bc1 l == 0 then Bbk l else []
abbrev Byq : PureT := Bbb [Bao] [.sl Baf, cI] (fun x => decide ((x.1.1.size : Int) ≤ Bb2 .i64)) (fun x => (Bgj x.1, Bc1 x.1, ()))
abbrev TPs := Tree (TCTs [.sl Baf, cI])
def szT {β : Type} (l : TCT Bao) (k : Tree β) : Tree β := bif decide ((l.1.size : Int) ≤ Bb2 .i64) then k else .fail
theorem Bco {β : Type} {l : TCT Bao} {k : Tree β} (h : (l.1.size : Int) ≤ Bb2 .i64) : szT l k = k := by unfold szT; rw [decide_eq_true h]; rfl
def C9f (l : TCT Bao) : TPs := bif decide ((Bay l).length ≤ 1000) then .leaf (Bbk l, 0, ()) else .fail
def Cxt (l : TCT Bao) : TPs := szT l (bif Bc1 l != 0 then .leaf ([], Bc1 l, ()) else C9f l)
theorem Bny {l : TCT Bao} (h : Bc1 l = 0) : (Bay l).length ≤ 12 ∧ 1 ≤ (Bay l).length := by
 unfold Bc1 at h
 cases hm : Bk3 l with
 | true => rw [hm] at h; cases h
 | false =>
  unfold Bk3 at hm
  simp only [Bool.or_eq_false_iff, decide_eq_false_iff_not] at hm
  omega
theorem Cih {l : TCT Bao} (h : Bc1 l = 0) : (C9f l).sat (fun y => y = (Bgj l, Bc1 l, ())) := by
 have := Bny h
 unfold C9f Bgj
 rw [decide_eq_true (show (Bay l).length ≤ 1000 by omega), h]
 exact rfl
theorem D2m {l : TCT Bao} : (bif Bc1 l != 0 then .leaf ([], Bc1 l, ()) else C9f l : TPs).sat (fun y => y = (Bgj l, Bc1 l, ())) := by
 cases h : Bc1 l == 0 with
 | true =>
  have h' : Bc1 l = 0 := by simpa using h
  rw [show (Bc1 l != 0) = false by simp [h']]
  exact Cih h'
 | false =>
  rw [show (Bc1 l != 0) = true by simpa using h]
  unfold Bgj
  rw [h]
  exact rfl
theorem C9g : Bai Tryz.prog 25 Byq := Bbd (Bap Ban puPs (fns_cons is_Posts Fq)) 7 (fun x => Cxt x.1) (fun x => by kernel_rfl) fun x hok _ => by
 show (Cxt x.1).sat _
 unfold Cxt
 rw [Bco (of_decide_eq_true hok)]
 exact D2m
end St
end V
end Go.Proofs.YtcfanlgpkefogaaGreat
namespace Go.Proofs.YtcfanlgpkefogaaGreat
open Go.RowKit
namespace V
namespace St
theorem is_CellAt : FnIs Tryz.prog (18, Tryz.f18) := ⟨Tryz.func18, by kernel_rfl, by kernel_rfl⟩
theorem is_lchk : FnIs Tryz.prog (57, Tryz.f57) := ⟨Tryz.func57, by kernel_rfl, by kernel_rfl⟩
theorem is_lon : FnIs Tryz.prog (58, Tryz.f58) := ⟨Tryz.func58, by kernel_rfl, by kernel_rfl⟩
def onB (l : TCT Bao) (p : TCT cPt) : Bool := inR p.1 0 l.2.1 && inR p.2.1 0 l.2.2.1
def Bqn (l : TCT Bao) (p : TCT cPt) : Int := W64 (W64 (min (W64 (Int.tdiv (W64 (p.2.1 * nyL l)) l.2.2.1)) (W64 (nyL l - 1)) * nxL l) + min (W64 (Int.tdiv (W64 (p.1 * nxL l)) l.2.1)) (W64 (nxL l - 1)))
def Cq2 (c : TCT Bc3) : TCT Bc3 := (c.1, c.2.1, c.2.2.1, ())
def zCe : TCT Bc3 := (0, 0, 0, ())
def Byr (l : TCT Bao) (p : TCT cPt) : Int := bif Bc1 l != 0 then Bc1 l else bif fpt p.1 p.2.1 then 0 else 2
def Bed (l : TCT Bao) (p : TCT cPt) : Int := bif Byr l p != 0 then Byr l p else bif onB l p then 0 else 5
def Bhx (l : TCT Bao) (p : TCT cPt) : TCT Bc3 := bif Bed l p == 0 then Cq2 (Bat (Bca l) (Int.toNat (Bqn l p)) (Bar Bc3)) else zCe
abbrev C1t : PureT := Bbb [Bao, cPt] [Bc3, cI] (fun x => decide ((x.1.1.size : Int) ≤ Bb2 .i64)) (fun x => (((Bhx x.1 x.2.1).1, (Bhx x.1 x.2.1).2.1, (Bhx x.1 x.2.1).2.2.1, ()), Bed x.1 x.2.1, ()))
abbrev TCe := Tree (TCTs [Bc3, cI])
def Bpl (e : Int) : TCe := .leaf (zCe, e, ())
def Cii (l : TCT Bao) (p : TCT cPt) : TCe := bif l.2.1 != 0 then bif l.2.2.1 != 0 then bif decide (0 ≤ Bqn l p ∧ Bqn l p < ((Bca l).length : Int)) then .leaf (Cq2 (Bat (Bca l) (Int.toNat (Bqn l p)) (Bar Bc3)), 0, ()) else .fail else .fail else .fail
def Bww (l : TCT Bao) (p : TCT cPt) : TCe := bif inR p.1 0 l.2.1 then bif !inR p.2.1 0 l.2.2.1 then Bpl 5 else Cii l p else Bpl 5
def Cq3 (l : TCT Bao) (p : TCT cPt) : TCe := szT l (bif Bc1 l != 0 then bif Bc1 l != 0 then Bpl (Bc1 l) else Bww l p else bif Bfr p.1 p.2.1 != 0 then Bpl 2 else Bww l p)
theorem Cq4 (x : TCTs [Bao, cPt]) : Bcv (Cf7 2 Tryz.prog ((43, Bhz) :: (105, s_inR) :: plPs) [(18, Tryz.f18), (57, Tryz.f57), (58, Tryz.f58)]) 7 (.fn 18) (Bde [Bao, cPt] x) Bbv 0 (Bgq Tryz.prog [Bc3, cI]) = Cq3 x.1 x.2.1 := by kernel_rfl
theorem C9h {a b c d : Int} (h0 : 0 ≤ a) (h1 : a ≤ c) (h2 : 0 ≤ b) (h3 : b ≤ d) : a * b ≤ c * d := Int.mul_le_mul h1 h3 h2 (by omega)
theorem C1u {y ny l : Int} (hl : 1 ≤ l ∧ l ≤ 4194304) (hy : 0 ≤ y ∧ y ≤ l) (hn : 1 ≤ ny ∧ ny ≤ 16) : 0 ≤ min (W64 (Int.tdiv (W64 (y * ny)) l)) (W64 (ny - 1)) ∧ min (W64 (Int.tdiv (W64 (y * ny)) l)) (W64 (ny - 1)) ≤ ny - 1 := by
 have h1 : 0 ≤ y * ny := Int.mul_nonneg hy.1 (by omega)
 have h2 : y * ny ≤ 4194304 * 16 := C9h hy.1 (by omega) (by omega) hn.2
 rw [Bba (n := y * ny) (by omega) (by omega), Int.tdiv_eq_ediv_of_nonneg h1]
 have h3 := Int.ediv_nonneg h1 (show 0 ≤ l by omega)
 have h4 := Int.ediv_le_self l h1
 rw [Bba (n := y * ny / l) (by omega) (by omega), Bba (n := ny - 1) (by omega) (by omega)]
 omega
theorem Cij {i k nx ny : Int} (hx : 1 ≤ nx ∧ nx ≤ 16) (hy : 1 ≤ ny ∧ ny ≤ 16) (hi : 0 ≤ i ∧ i ≤ nx - 1) (hk : 0 ≤ k ∧ k ≤ ny - 1) : 0 ≤ W64 (W64 (k * nx) + i) ∧ W64 (W64 (k * nx) + i) < W64 (nx * ny) := by
 have h1 : 0 ≤ k * nx := Int.mul_nonneg hk.1 (by omega)
 have h2 : k * nx ≤ (ny - 1) * nx := Int.mul_le_mul_of_nonneg_right hk.2 (by omega)
 have h3 : nx * ny ≤ 16 * 16 := C9h (by omega) hx.2 (by omega) hy.2
 have h4 : (ny - 1) * nx = nx * ny - nx := by grind
 rw [Bba (n := k * nx) (by omega) (by omega), Bba (n := k * nx + i) (by omega) (by omega), Bba (n := nx * ny) (by omega) (by omega)]
 omega
structure LawOk (l : TCT Bao) : Prop where
 w : 65536 ≤ l.2.1 ∧ l.2.1 ≤ 4194304
 lg : 65536 ≤ l.2.2.1 ∧ l.2.2.1 ≤ 4194304
 nx : 1 ≤ nxL l ∧ nxL l ≤ 16
 ny : 1 ≤ nyL l ∧ nyL l ≤ 16
 n : ((Bca l).length : Int) = W64 (nxL l * nyL l)
 hs : (Bay l).all Bej = true
 cs : (Bca l).all Bf7 = true
 ap : apF l.2.1 l.2.2.1 (Bbk l) = true
 hn : 1 ≤ (Bay l).length ∧ (Bay l).length ≤ 12
theorem C62 {l : TCT Bao} (h : Bc1 l = 0) : LawOk l := by
 have hn := Bny h
 unfold Bc1 at h
 cases hm : Bk3 l with
 | true => rw [hm] at h; cases h
 | false =>
  rw [hm, cond_false] at h
  cases ho : okL l with
  | false => rw [ho] at h; cases h
  | true =>
   unfold okL C5x C5y at ho
   simp only [Bool.and_eq_true, Bgx, Bool.not_eq_true', decide_eq_false_iff_not, bne_eq_false_iff_eq] at ho
   obtain ⟨⟨_, hw, hl, _⟩, hp, ⟨n1, n2, n3, n4, n5⟩, h1, h2, h3⟩ := ho
   exact ⟨hw, hl, ⟨Int.not_lt.1 n1, Int.not_lt.1 n2⟩, ⟨Int.not_lt.1 n3, Int.not_lt.1 n4⟩, n5, h1, h2, h3, hn.2, hn.1⟩
theorem Cik {l : TCT Bao} {p : TCT cPt} (h : Bc1 l = 0) (ho : onB l p = true) : Cii l p = .leaf (Cq2 (Bat (Bca l) (Int.toNat (Bqn l p)) (Bar Bc3)), 0, ()) := by
 have k := C62 h
 unfold onB at ho
 simp only [Bool.and_eq_true, Bgx] at ho
 have hw : 1 ≤ l.2.1 ∧ l.2.1 ≤ 4194304 := ⟨Int.le_trans (by decide) k.w.1, k.w.2⟩
 have hl : 1 ≤ l.2.2.1 ∧ l.2.2.1 ≤ 4194304 := ⟨Int.le_trans (by decide) k.lg.1, k.lg.2⟩
 have hc := Cij k.nx k.ny (C1u hw ho.1 k.nx) (C1u hl ho.2 k.ny)
 rw [← k.n] at hc
 have e1 : (l.2.1 != 0) = true := by
  rw [bne_iff_ne]; intro e; rw [e] at hw; exact absurd hw.1 (by decide)
 have e2 : (l.2.2.1 != 0) = true := by
  rw [bne_iff_ne]; intro e; rw [e] at hl; exact absurd hl.1 (by decide)
 unfold Cii
 rw [e1, e2, decide_eq_true (show 0 ≤ Bqn l p ∧ Bqn l p < ((Bca l).length : Int) from hc)]
 rfl
theorem Cil {l : TCT Bao} {p : TCT cPt} (h : Bc1 l = 0) : Bww l p = bif onB l p then .leaf (Cq2 (Bat (Bca l) (Int.toNat (Bqn l p)) (Bar Bc3)), 0, ()) else Bpl 5 := by
 cases ho : onB l p with
 | true =>
  have := Cik h ho
  unfold Bww
  unfold onB at ho
  simp only [Bool.and_eq_true] at ho
  rw [ho.1, ho.2, this]
  rfl
 | false =>
  unfold Bww
  unfold onB at ho
  cases h1 : inR p.1 0 l.2.1 with
  | false => rfl
  | true =>
   rw [h1, Bool.true_and] at ho
   rw [ho]
   rfl
def C63 (l : TCT Bao) (p : TCT cPt) : TCTs [Bc3, cI] := (((Bhx l p).1, (Bhx l p).2.1, (Bhx l p).2.2.1, ()), Bed l p, ())
theorem Cxu {l : TCT Bao} {p : TCT cPt} : (bif Byr l p != 0 then Bpl (Byr l p) else Bww l p : TCe).sat (fun y => y = C63 l p) := by
 unfold C63 Bhx Bed
 cases h1 : Byr l p != 0 with
 | true =>
  have hne : (Byr l p == 0) = false := by
   rw [bne_iff_ne] at h1
   exact beq_eq_false_iff_ne.2 h1
  simp only [cond_true]
  rw [hne]
  exact rfl
 | false =>
  have hl : Bc1 l = 0 := by
   unfold Byr at h1
   cases h2 : Bc1 l != 0 with
   | true => rw [h2, cond_true] at h1; rw [h2] at h1; cases h1
   | false => exact bne_eq_false_iff_eq.1 h2
  simp only [cond_false]
  rw [Cil hl]
  cases onB l p <;> exact rfl
theorem C9i (x y : Int) : (Bfr x y != 0) = !fpt x y := by unfold Bfr; cases fpt x y <;> rfl
def plCe : List (Nat × PureT) := (43, Bhz) :: (105, s_inR) :: plPs
theorem puCe : Bc7 Tryz.prog plCe := puOk_cons is_tChk.plain Bjg (puOk_cons is_between2.plain q_between2 puPs)
theorem Cq5 {l : TCT Bao} {p : TCT cPt} (hs : (l.1.size : Int) ≤ Bb2 .i64) : (Cq3 l p).sat (fun y => y = C63 l p) := by
 have key := Cxu (l := l) (p := p)
 unfold Cq3
 rw [Bco hs, C9i]
 unfold Byr at key
 cases h : Bc1 l != 0 with
 | true =>
  rw [h] at key
  simp only [cond_true] at key ⊢
  rw [h] at key
  exact key
 | false =>
  rw [h] at key
  simp only [cond_false] at key ⊢
  cases hf : fpt p.1 p.2.1 with
  | true => rw [hf] at key; exact key
  | false => rw [hf] at key; exact key
theorem Cim : Bai Tryz.prog 18 C1t := Bbd (Bp5 (u := 2) Ban puCe (fns_cons is_CellAt (fns_cons is_lchk (fns_cons is_lon Fq)))) 7 (fun x => Cq3 x.1 x.2.1) Cq4 fun x hok _ => Cq5 (of_decide_eq_true hok)
end St
end V
end Go.Proofs.YtcfanlgpkefogaaGreat
namespace Go.Proofs.YtcfanlgpkefogaaGreat
open Go.RowKit
namespace V
namespace St
theorem is_cGround : FnIs Tryz.prog (78, Tryz.f78) := ⟨Tryz.func78, by kernel_rfl, by kernel_rfl⟩
def V1 (g : TCT cGr) : List (TCT No) := g.2.1
def okG (g : TCT cGr) : Bool := (V1 g).all Bfn && Bfi g.2.2.1.1 g.2.2.1.2.1
def groE (g : TCT cGr) : Int := bif Bc1 g.1 != 0 then Bc1 g.1 else bif decide (((V1 g).length : Int) < 1) || decide (((V1 g).length : Int) > 8) then 6 else bif okG g then 0 else 2
abbrev Cq6 : PureT := Bbb [cGr] [cI] (fun x => decide ((x.1.1.1.size : Int) ≤ Bb2 .i64)) (fun x => (groE x.1, ()))
def plG : List (Nat × PureT) := [(75, Bqm), (126, Bdr), (123, C19)]
theorem puG : Bc7 Tryz.prog plG := puOk_cons is_lCheck.plain Bnw (puOk_cons is_CheckBounce.plain Bik (puOk_cons is_cfBall.plain Ch2 (puOk_nil)))
def Cin (g : TCT cGr) : TEr := bif okE (Bfi g.2.2.1.1 g.2.2.1.2.1) != 0 then .leaf (2, ()) else .leaf (0, ())
def T_G (g : TCT cGr) : TEr := szT g.1 (bif Bc1 g.1 != 0 then .leaf (Bc1 g.1, ()) else er (decide (((V1 g).length : Int) < 1)) 6 (er (decide (((V1 g).length : Int) > 8)) 6 (er ((V1 g).any (Bcz ())) 2 (Cin g))))
theorem Cxv (x : TCTs [cGr]) : Bcv (ctx Tryz.prog plG [(78, Tryz.f78)]) 7 (.fn 78) (Bde [cGr] x) Bbv 0 (Bgq Tryz.prog [cI]) = T_G x.1 := by kernel_rfl
theorem Cxw {g : TCT cGr} (hs : (g.1.1.size : Int) ≤ Bb2 .i64) : (T_G g).sat (fun y => y = (groE g, ())) := by
 unfold T_G groE okG Cin
 have hq : (V1 g).any (Bcz ()) = !(V1 g).all Bfn := Bhw Bfn _
 rw [Bco hs, hq, Bse, ← Bk4]
 cases Bc1 g.1 != 0 with
 | true => exact rfl
 | false =>
  simp only [cond_false]
  cases decide (((V1 g).length : Int) < 1) || decide (((V1 g).length : Int) > 8) with
  | true => exact rfl
  | false => cases (V1 g).all Bfn <;> cases Bfi g.2.2.1.1 g.2.2.1.2.1 <;> exact rfl
theorem D67 : Bai Tryz.prog 78 Cq6 := Bbd (Bap Ban puG (fns_cons is_cGround Fq)) 7 (fun x => T_G x.1) Cxv fun x hok _ => Cxw (of_decide_eq_true hok)
abbrev kGr : List SK := [.d .s, .d cI, .d cI, .d cI, .d (.sl Bbj), .d cI, .d cI, .d cI, .d cI, .d cI, .d (.sl Bc3), .d (.sl No), .d cI, .d cI]
def Ccy (x : SKTs kGr) : TCT cGr := ((x.1, x.2.1, x.2.2.1, x.2.2.2.1, x.2.2.2.2.1, ((x.2.2.2.2.2.1, x.2.2.2.2.2.2.1, ()), x.2.2.2.2.2.2.2.1, ()), x.2.2.2.2.2.2.2.2.1, x.2.2.2.2.2.2.2.2.2.1, x.2.2.2.2.2.2.2.2.2.2.1, ()), x.2.2.2.2.2.2.2.2.2.2.2.1, (x.2.2.2.2.2.2.2.2.2.2.2.2.1, x.2.2.2.2.2.2.2.2.2.2.2.2.2.1, ()), ())
def Bd7 (g : TCT cGr) : SKTs kGr := (g.1.1, g.1.2.1, g.1.2.2.1, g.1.2.2.2.1, g.1.2.2.2.2.1, g.1.2.2.2.2.2.1.1.1, g.1.2.2.2.2.2.1.1.2.1, g.1.2.2.2.2.2.1.2.1, g.1.2.2.2.2.2.2.1, g.1.2.2.2.2.2.2.2.1, g.1.2.2.2.2.2.2.2.2.1, g.2.1, g.2.2.1.1, g.2.2.1.2.1, ())
def C64 : Lay := { keys := [1, 3], ks := [.p 0 0 0 0, .d cI], bs := [(0, 41, kGr)], n := 39, nx := 1000, marks := [] }
def D68 : Lay := { keys := [1], ks := [.p 0 0 0 0], bs := [(0, 41, kGr)], n := 39, nx := 1000, marks := [] }
def D2o : Lay := { keys := [2], ks := [.d cI], bs := [], n := 39, nx := 1000, marks := [] }
def C65 : XE → Lay := fun e => match e with | .ret => D2o | _ => D68
def Cio (x : SKTs kGr) (i : Int) : C64.T := (((), i, ()), (x, ()))
def Cip : Fp C65 := ⟨.ret, ((2, ()), ())⟩
def Ciq (x : SKTs kGr) : Fp C65 := ⟨.exit 0, (((), ()), (x, ()))⟩
def blX (x : SKTs kGr) : List (TCT No) := x.2.2.2.2.2.2.2.2.2.2.2.1
def C9j (b : TCT No) : Bool := okE (Bgr b.1 b.2.1) != 0
def C9k (g : C64.T) : Tree (C64.T ⊕ Fp C65) := bif decide (g.1.2.1 < ((blX g.2.1).length : Int)) then bif decide (0 ≤ g.1.2.1 ∧ g.1.2.1 < ((blX g.2.1).length : Int)) then
 bif C9j (Bat (blX g.2.1) (Int.toNat g.1.2.1) (Bar No)) then .leaf (.inr Cip) else .leaf (.inl (Cio g.2.1 (W64 (g.1.2.1 + 1)))) else .fail else .leaf (.inr (Ciq g.2.1))
def Cir (g : C64.T) : Nat := (blX g.2.1).length + 1
def Cis (x : SKTs kGr) : Option (Fp C65) := iter C9k ((blX x).length + 1) (Cio x 0)
def Cq8 (g : TCT cGr) : TEr := szT g.1 (bif Bc1 g.1 != 0 then szT g.1 (.leaf (Bc1 g.1, ())) else er (decide (((V1 g).length : Int) < 1)) 6 (er (decide (((V1 g).length : Int) > 8)) 6 (
 bif isE .ret (Cis (Bd7 g)) then .leaf ((Bc4 .ret (Cis (Bd7 g))).1.1, ()) else bif isE (.exit 0) (Cis (Bd7 g)) then Cin (Ccy (Bc4 (.exit 0) (Cis (Bd7 g))).2.1) else .fail)))
theorem Cqa {g : TCT cGr} (hs : (g.1.1.size : Int) ≤ Bb2 .i64) (hb : ((V1 g).length : Int) ≤ Bb2 .i64) : (Cq8 g).sat (fun y => y = (groE g, ())) := by
 have hy : Cis (Bd7 g) = some (bif (blX (Bd7 g)).any C9j then Cip else Ciq (Bd7 g)) := Bkk (blX (Bd7 g)) (Bar No) (Cio (Bd7 g)) C9j Cip (Ciq (Bd7 g)) hb (fun _ => rfl)
 have hq : (blX (Bd7 g)).any C9j = !(V1 g).all Bfn := by
  rw [← Bhw Bfn]
  exact Bli fun b _ => Bse _
 rw [hq] at hy
 unfold Cq8 groE okG
 rw [Bco hs, Bco hs, hy, ← Bk4]
 cases Bc1 g.1 != 0 with
 | true => exact rfl
 | false =>
  simp only [cond_false]
  cases decide (((V1 g).length : Int) < 1) || decide (((V1 g).length : Int) > 8) with
  | true => exact rfl
  | false =>
   cases (V1 g).all Bfn with
   | false => exact rfl
   | true =>
    show (Cin g).sat _
    unfold Cin
    rw [Bse]
    cases Bfi g.2.2.1.1 g.2.2.1.2.1 <;> exact rfl
end St
end V
end Go.Proofs.YtcfanlgpkefogaaGreat
namespace Go.Proofs.YtcfanlgpkefogaaGreat
open Go.RowKit
namespace V
namespace St
theorem is_sOn : FnIs Tryz.prog (79, Tryz.f79) := ⟨Tryz.func79, by kernel_rfl, by kernel_rfl⟩
abbrev C1v : PureT := Bbb [Bao, cPt] [.b] (fun _ => true) (fun x => (onB x.1 x.2.1, ()))
def D2r (l : TCT Bao) (p : TCT cPt) : TBo := Bnn (decide (0 ≤ p.1)) (Bnn (decide (p.1 ≤ l.2.1)) (Bnn (decide (0 ≤ p.2.1)) (.leaf (decide (p.2.1 ≤ l.2.2.1), ()))))
theorem Cxx (l : TCT Bao) (p : TCT cPt) : onB l p = (decide (0 ≤ p.1) && (decide (p.1 ≤ l.2.1) && (decide (0 ≤ p.2.1) && decide (p.2.1 ≤ l.2.2.1)))) := by
 unfold onB inR
 simp only [Bool.and_assoc]
theorem Cvg : Bai Tryz.prog 79 C1v := Bbd (Bap Ban puOk_nil (fns_cons is_sOn Fq)) 4 (fun x => D2r x.1 x.2.1) (fun x => by kernel_rfl) fun x _ _ => by
 show (D2r x.1 x.2.1).sat (fun y => y = (onB x.1 x.2.1, ()))
 rw [Cxx]
 exact Ber (Ber (Ber (Bwg _)))
end St
end V
end Go.Proofs.YtcfanlgpkefogaaGreat
namespace Go.Proofs.YtcfanlgpkefogaaGreat
open Go.RowKit
namespace V
namespace St
theorem is_cState : FnIs Tryz.prog (42, Tryz.f42) := ⟨Tryz.func42, by kernel_rfl, by kernel_rfl⟩
abbrev kSt : List SK := [.d (.sl Bau), .d (.sl .b), .d cI, .d cI, .d cI]
abbrev bsS : List BK := [(0, 41, kGr), (1, 45, kSt)]
def plS1 : List (Nat × PureT) := [(78, Cq6), (55, Bel), (79, C1v)]
theorem puS1 : Bc7 Tryz.prog plS1 := puOk_cons is_cGround.plain D67 (puOk_cons is_CheckMotion.plain Bmd (puOk_cons is_sOn.plain Cvg (puOk_nil)))
def inN {β : Type} (n : Nat) (i : Int) (k : Tree β) : Tree β := bif decide (0 ≤ i ∧ i < (n : Int)) then k else .fail
theorem Bdb {β : Type} {n : Nat} {i : Int} {k : Tree β} (h : 0 ≤ i ∧ i < (n : Int)) : inN n i k = k := by unfold inN; rw [decide_eq_true h]; rfl
def Bjd (b : TCT No) (m : TCT Bau) : Bool := Bn1 b.1 b.2.1 m.1.1 m.1.2.1 m.2.1.1 m.2.1.2.1 m.2.2.1.1 m.2.2.1.2.1
def atM (m : TCT Bau) : TCT cPt := (m.1.1, m.1.2.1, ())
def C66 {β : Type} (no : Nat) (i : Int) (o : Bool) (m : TCT Bau) (rt nx : Tree β) : Tree β := inN no i (bif o then bif !(m.2.1.1 == 0 && (m.2.1.2.1 == 0 && true)) then rt else nx else nx)
def Bsp {β : Type} (nb no : Nat) (i : Int) (l : TCT Bao) (b : TCT No) (o : Bool) (m : TCT Bau) (rt nx : Tree β) : Tree β :=
 inN nb i (bif okE (Bjd b m) != 0 then rt else inN no i (bif !o then bif !onB l (atM m) then rt else C66 no i o m rt nx else C66 no i o m rt nx))
def lwG (x : SKTs kGr) : TCT Bao := (Ccy x).1
noncomputable def D2t : Code := (Bak (bodyOf Tryz.f42)).getD 0 .skip
def C1w : Lay := { keys := [2, 3, 30, 31, 32], ks := [.p 0 0 0 0, .p 1 0 0 0, .d (.sl Bau), .d cI, .d cI], bs := bsS, n := 106, nx := 1000, marks := [] }
def D6a : Lay := { keys := [2, 3], ks := [.p 0 0 0 0, .p 1 0 0 0], bs := bsS, n := 106, nx := 1000, marks := [] }
def D2u : Lay := { keys := [4], ks := [.d cI], bs := [], n := 106, nx := 1000, marks := [] }
def Bys : XE → Lay := fun e => match e with | .ret => D2u | _ => D6a
def C9l (x : SKTs kGr) (s : SKTs kSt) (m : List (TCT Bau)) (n i : Int) : C1w.T := (((), (), m, n, i, ()), (x, s, ()))
def C9m : Fp Bys := ⟨.ret, ((2, ()), ())⟩
def Cit (x : SKTs kGr) (s : SKTs kSt) : Fp Bys := ⟨.exit 0, (((), (), ()), (x, s, ()))⟩
def otS (s : SKTs kSt) : List Bool := s.2.1
def C9n (g : C1w.T) : Tree (C1w.T ⊕ Fp Bys) := bif decide (g.1.2.2.2.2.1 < g.1.2.2.2.1) then bif decide (0 ≤ g.1.2.2.2.2.1 ∧ g.1.2.2.2.2.1 < ((g.1.2.2.1 : List (TCT Bau)).length : Int)) then
 Bsp (blX g.2.1).length (otS g.2.2.1).length g.1.2.2.2.2.1 (lwG g.2.1) (Bat (blX g.2.1) (Int.toNat g.1.2.2.2.2.1) (Bar No)) (Bat (otS g.2.2.1) (Int.toNat g.1.2.2.2.2.1) (Bar .b)) (Bat g.1.2.2.1 (Int.toNat g.1.2.2.2.2.1) (Bar Bau))
  (.leaf (.inr C9m)) (.leaf (.inl (C9l g.2.1 g.2.2.1 g.1.2.2.1 g.1.2.2.2.1 (W64 (g.1.2.2.2.2.1 + 1))))) else .fail else .leaf (.inr (Cit g.2.1 g.2.2.1))
def Ciu (g : C1w.T) : Nat := (g.1.2.2.1 : List (TCT Bau)).length + 1
theorem D6b : Baz Tryz.prog 42 D2t (Bav C1w Bys (Bcn [.ret, .exit 0] C9n Ciu)) := Bbc (Bap Ban puS1 Fq) 7 _ C1w Bys (fun e => by cases e <;> exact Nat.le_refl _) [.ret, .exit 0] C9n Ciu (fun g => by kernel_rfl)
end St
end V
end Go.Proofs.YtcfanlgpkefogaaGreat
namespace Go.Proofs.YtcfanlgpkefogaaGreat
open Go.RowKit
namespace V
namespace St
def Byt : Lay := { keys := [2, 3, 5], ks := [.p 0 0 0 0, .p 1 0 0 0, .d cI], bs := bsS, n := 103, nx := 1000, marks := [] }
def D6c : Lay := { keys := [2, 3], ks := [.p 0 0 0 0, .p 1 0 0 0], bs := bsS, n := 103, nx := 1000, marks := [] }
def D2w : Lay := { keys := [4], ks := [.d cI], bs := [], n := 103, nx := 1000, marks := [] }
def Bvx : XE → Lay := fun e => match e with | .ret => D2w | _ => D6c
def C1x (x : SKTs kGr) (s : SKTs kSt) (i : Int) : Byt.T := (((), (), i, ()), (x, s, ()))
def C1y : Fp Bvx := ⟨.ret, ((2, ()), ())⟩
def C9o (x : SKTs kGr) (s : SKTs kSt) : Fp Bvx := ⟨.exit 0, (((), (), ()), (x, s, ()))⟩
def msS (s : SKTs kSt) : List (TCT Bau) := s.1
def C9p (g : Byt.T) : Tree (Byt.T ⊕ Fp Bvx) := bif decide (g.1.2.2.1 < ((blX g.2.1).length : Int)) then inN (msS g.2.2.1).length g.1.2.2.1 (
 Bsp (blX g.2.1).length (otS g.2.2.1).length g.1.2.2.1 (lwG g.2.1) (Bat (blX g.2.1) (Int.toNat g.1.2.2.1) (Bar No)) (Bat (otS g.2.2.1) (Int.toNat g.1.2.2.1) (Bar .b)) (Bat (msS g.2.2.1) (Int.toNat g.1.2.2.1) (Bar Bau))
  (.leaf (.inr C1y)) (.leaf (.inl (C1x g.2.1 g.2.2.1 (W64 (g.1.2.2.1 + 1)))))) else .leaf (.inr (C9o g.2.1 g.2.2.1))
def Civ (g : Byt.T) : Nat := (blX g.2.1).length + 1
end St
end V
end Go.Proofs.YtcfanlgpkefogaaGreat
namespace Go.Proofs.YtcfanlgpkefogaaGreat
open Go.RowKit
namespace V
namespace St
def Bnz (s : TCT cSt) : SKTs kSt := (s.1, s.2.1, s.2.2.1, s.2.2.2.1, s.2.2.2.2.1, ())
def C1z (s : SKTs kSt) : TCT cSt := (s.1, s.2.1, s.2.2.1, s.2.2.2.1, s.2.2.2.2.1, ())
def msT (s : TCT cSt) : List (TCT Bau) := s.1
def osT (s : TCT cSt) : List Bool := s.2.1
def okO (l : TCT Bao) (b : TCT No) (o : Bool) (m : TCT Bau) : Bool := Bjd b m && (bif o then m.2.1.1 == 0 && (m.2.1.2.1 == 0 && true) else onB l (atM m))
def okS (g : TCT cGr) (os : List Bool) (i : Nat) (m : TCT Bau) : Bool := okO g.1 (Bat (V1 g) i (Bar No)) (Bat os i (Bar .b)) m
theorem Bwx {G E : Type} {nb no : Nat} {i : Int} {l : TCT Bao} {b : TCT No} {o : Bool} {m : TCT Bau} {rt : E} {nx : G} (h1 : 0 ≤ i ∧ i < (nb : Int)) (h2 : 0 ≤ i ∧ i < (no : Int)) :
  (Bsp nb no i l b o m (.leaf (.inr rt)) (.leaf (.inl nx)) : Tree (G ⊕ E)).run = some (bif okO l b o m then .inl nx else .inr rt) := by
 unfold Bsp C66 okO
 rw [Bdb h1, Bse, Bdb h2, Bdb h2]
 cases Bjd b m with
 | false => rfl
 | true =>
  cases o with
  | false => cases onB l (atM m) <;> rfl
  | true => cases m.2.1.1 == 0 && (m.2.1.2.1 == 0 && true) <;> rfl
def D2x (g : TCT cGr) (s : TCT cSt) : Option (Fp Bys) := iter C9n ((msT s).length + 1) (C9l (Bd7 g) (Bnz s) s.1 (msT s).length 0)
def Cxy (g : TCT cGr) (s : TCT cSt) : Option (Fp Bvx) := iter C9p ((V1 g).length + 1) (C1x (Bd7 g) (Bnz s) 0)
theorem Cqb {g : TCT cGr} {s : TCT cSt} (h1 : (msT s).length = (V1 g).length) (h2 : (osT s).length = (V1 g).length) (hm : ((msT s).length : Int) ≤ Bb2 .i64) :
  D2x g s = some (bif Bfo (okS g (osT s)) 0 (msT s) then Cit (Bd7 g) (Bnz s) else C9m) := by
 refine Bsn (msT s) (Bar Bau) (fun i => C9l (Bd7 g) (Bnz s) s.1 (msT s).length i) (okS g (osT s))
  (fun i m => Bsp (V1 g).length (osT s).length i g.1 (Bat (V1 g) (Int.toNat i) (Bar No)) (Bat (osT s) (Int.toNat i) (Bar .b)) m (.leaf (.inr C9m)) (.leaf (.inl (C9l (Bd7 g) (Bnz s) s.1 (msT s).length (W64 (i + 1))))) : Int → TCT Bau → Tree (C1w.T ⊕ Fp Bys)) C9m (Cit (Bd7 g) (Bnz s)) hm (fun i => rfl) fun i hi => ?_
 rw [Bwx (by omega) (by omega), show Int.toNat (i : Int) = i from rfl, Bct hi hm]
 rfl
theorem Cqc {g : TCT cGr} {s : TCT cSt} (h1 : (msT s).length = (V1 g).length) (h2 : (osT s).length = (V1 g).length) (hm : ((msT s).length : Int) ≤ Bb2 .i64) :
  Cxy g s = some (bif Bfo (okS g (osT s)) 0 (msT s) then C9o (Bd7 g) (Bnz s) else C1y) := by
 unfold Cxy
 rw [← h1]
 refine Bsn (msT s) (Bar Bau) (fun i => C1x (Bd7 g) (Bnz s) i) (okS g (osT s))
  (fun i m => Bsp (V1 g).length (osT s).length i g.1 (Bat (V1 g) (Int.toNat i) (Bar No)) (Bat (osT s) (Int.toNat i) (Bar .b)) m (.leaf (.inr C1y)) (.leaf (.inl (C1x (Bd7 g) (Bnz s) (W64 (i + 1))))) : Int → TCT Bau → Tree (Byt.T ⊕ Fp Bvx)) C1y (C9o (Bd7 g) (Bnz s)) hm (fun i => ?_) fun i hi => ?_
 ·show (bif decide (i < ((V1 g).length : Int)) then inN (msT s).length i (Bsp (V1 g).length (osT s).length i g.1 (Bat (V1 g) (Int.toNat i) (Bar No)) (Bat (osT s) (Int.toNat i) (Bar .b)) (Bat (msT s) (Int.toNat i) (Bar Bau)) (.leaf (.inr C1y)) (.leaf (.inl (C1x (Bd7 g) (Bnz s) (W64 (i + 1)))))) else .leaf (.inr (C9o (Bd7 g) (Bnz s))) : Tree (Byt.T ⊕ Fp Bvx)) = _
  rw [← h1]
  rfl
 ·rw [Bwx (by omega) (by omega), show Int.toNat (i : Int) = i from rfl, Bct hi hm]
  rfl
def Byu (n : Int) (s : TCT cSt) : Bool := decide (s.2.2.1 < 0) || (decide (s.2.2.1 ≥ n) || (decide (s.2.2.2.1 < 0) || (decide (s.2.2.2.1 > 8) || (decide (s.2.2.2.2.1 < 0) || decide (s.2.2.2.2.1 > 4000)))))
def Bvy (g : TCT cGr) (s : TCT cSt) : Bool := (((msT s).length : Int) == ((V1 g).length : Int)) && (((osT s).length : Int) == ((V1 g).length : Int))
def vaE (g : TCT cGr) (s : TCT cSt) : Int := bif Bvy g s then bif Bfo (okS g (osT s)) 0 (msT s) then bif Byu (V1 g).length s then 2 else 0 else 2 else 17
def Be4 (g : TCT cGr) (s : TCT cSt) : Int := bif groE g != 0 then groE g else vaE g s
abbrev D2y : PureT := Bbb [cGr, cSt] [cI] (fun _ => true) (fun x => (vaE x.1 x.2.1, ()))
abbrev C9q : PureT := Bbb [cGr, cSt] [cI] (fun x => decide ((x.1.1.1.size : Int) ≤ Bb2 .i64)) (fun x => (Be4 x.1 x.2.1, ()))
end St
end V
end Go.Proofs.YtcfanlgpkefogaaGreat
namespace Go.Proofs.YtcfanlgpkefogaaGreat
open Go.RowKit
namespace V
namespace St
def Ciw (n : Int) (s : TCT cSt) : TEr := er (decide (s.2.2.1 < 0)) 2 (er (decide (s.2.2.1 ≥ n)) 2 (er (decide (s.2.2.2.1 < 0)) 2 (er (decide (s.2.2.2.1 > 8)) 2 (er (decide (s.2.2.2.2.1 < 0)) 2 (er (decide (s.2.2.2.2.1 > 4000)) 2 (.leaf (0, ())))))))
theorem Cqd (n : Int) (s : TCT cSt) : Ciw n s = er (Byu n s) 2 (.leaf (0, ())) := by
 unfold Ciw Byu
 rw [Bk4, Bk4, Bk4, Bk4, Bk4]
def Cix (g : TCT cGr) (s : TCT cSt) (k : TEr) : TEr := er (((msT s).length : Int) != ((V1 g).length : Int)) 17 (er (((osT s).length : Int) != ((V1 g).length : Int)) 17 k)
theorem Cqe (g : TCT cGr) (s : TCT cSt) (k : TEr) : Cix g s k = er (!Bvy g s) 17 k := by
 unfold Cix Bvy
 rw [← Bk4]
 congr 1
 cases h1 : ((msT s).length : Int) == ((V1 g).length : Int) <;> cases h2 : ((osT s).length : Int) == ((V1 g).length : Int) <;> simp [bne, h1, h2]
theorem Bsq {g : TCT cGr} {s : TCT cSt} (h : Bvy g s = true) : (msT s).length = (V1 g).length ∧ (osT s).length = (V1 g).length := by
 unfold Bvy at h
 simp only [Bool.and_eq_true, beq_iff_eq] at h
 omega
def D6e (g : TCT cGr) (y : Option (Fp Bys)) : TEr := bif isE .ret y then .leaf ((Bc4 .ret y).1.1, ()) else bif isE (.exit 0) y then Ciw (blX (Bc4 (.exit 0) y).2.1).length (C1z (Bc4 (.exit 0) y).2.2.1) else .fail
def D6f (g : TCT cGr) (y : Option (Fp Bvx)) : TEr := bif isE .ret y then .leaf ((Bc4 .ret y).1.1, ()) else bif isE (.exit 0) y then Ciw (blX (Bc4 (.exit 0) y).2.1).length (C1z (Bc4 (.exit 0) y).2.2.1) else .fail
def Cxz (g : TCT cGr) (s : TCT cSt) : TEr := szT g.1 (bif groE g != 0 then .leaf (groE g, ()) else Cix g s (D6e g (D2x g s)))
def Cy0 (g : TCT cGr) (s : TCT cSt) : TEr := Cix g s (D6f g (Cxy g s))
theorem Ciy {g : TCT cGr} {s : TCT cSt} {k : TEr} (h : Bvy g s = true → k = bif Bfo (okS g (osT s)) 0 (msT s) then Ciw (V1 g).length s else .leaf (2, ())) : (Cix g s k).sat (fun y => y = (vaE g s, ())) := by
 rw [Cqe]
 unfold vaE
 cases he : Bvy g s with
 | false => exact rfl
 | true =>
  rw [h he]
  cases Bfo (okS g (osT s)) 0 (msT s) with
  | false => exact rfl
  | true =>
   simp only [Bool.not_true, cond_true]
   rw [Cqd]
   cases Byu (V1 g).length s <;> exact rfl
theorem Cqf {g : TCT cGr} {s : TCT cSt} (hs : (g.1.1.size : Int) ≤ Bb2 .i64) (hm : ((msT s).length : Int) ≤ Bb2 .i64) : (Cxz g s).sat (fun y => y = (Be4 g s, ())) := by
 unfold Cxz Be4
 rw [Bco hs]
 cases groE g != 0 with
 | true => exact rfl
 | false =>
  simp only [cond_false]
  refine Ciy fun he => ?_
  obtain ⟨h1, h2⟩ := Bsq he
  rw [Cqb h1 h2 hm]
  cases Bfo (okS g (osT s)) 0 (msT s) <;> rfl
theorem Cqg {g : TCT cGr} {s : TCT cSt} (hm : ((msT s).length : Int) ≤ Bb2 .i64) : (Cy0 g s).sat (fun y => y = (vaE g s, ())) := by
 unfold Cy0
 refine Ciy fun he => ?_
 obtain ⟨h1, h2⟩ := Bsq he
 rw [Cqc h1 h2 hm]
 cases Bfo (okS g (osT s)) 0 (msT s) <;> rfl
noncomputable def D6g : Ctx := Bgo Tryz.prog plS1 [(42, Tryz.f42)] [((42, 7), Bav C1w Bys (Bcn [.ret, .exit 0] C9n Ciu))]
theorem Cqh : CtxOk D6g := Bc8 Ban puS1 (fns_cons is_cState Fq) (Bbt (by kernel_rfl) (by kernel_rfl) D6b)
theorem Cqi : Bai Tryz.prog 42 C9q := Bbd Cqh 7 (fun x => Cxz x.1 x.2.1) (fun x => by kernel_rfl) fun x hok hw => Cqf (of_decide_eq_true hok) (Beb hw.2.1.1)
def plS2 : List (Nat × PureT) := plS1
theorem puS2 : Bc7 Tryz.prog plS2 := puS1
end St
end V
end Go.Proofs.YtcfanlgpkefogaaGreat
namespace Go.Proofs.YtcfanlgpkefogaaGreat
open Go.RowKit
namespace V
def Baw {S B : Type} (f : Nat → S → S ⊕ B) : Nat → Nat → S → S ⊕ B
 | _, 0, s => .inl s
 | i, k + 1, s => match f i s with
  | .inl s' => Baw f (i + 1) k s'
  | .inr b => .inr b
def Cj1 {G E S B : Type} (hd : Nat → S → G) (res : S ⊕ B → E) (i : Nat) : S ⊕ B → G ⊕ E
 | .inl s => .inl (hd (i + 1) s)
 | .inr b => .inr (res (.inr b))
theorem Bf9 {G E S B : Type} {st : G → Tree (G ⊕ E)} (n : Nat) (hd : Nat → S → G) (f : Nat → S → S ⊕ B) (res : S ⊕ B → E) (Inv : Nat → S → Prop)
  (h1 : ∀ i s, i < n → Inv i s → (st (hd i s)).run = some (Cj1 hd res i (f i s)))
  (h2 : ∀ i s s', i < n → Inv i s → f i s = .inl s' → Inv (i + 1) s')
  (h3 : ∀ s, Inv n s → (st (hd n s)).run = some (.inr (res (.inl s)))) :
  ∀ (k i : Nat) (s : S), i + k = n → Inv i s → iter st (k + 1) (hd i s) = some (res (Baw f i k s))
 | 0, i, s, hk, hi => by
  have e : i = n := by omega
  subst e
  exact Bho (h3 s hi)
 | k + 1, i, s, hk, hi => by
  have hlt : i < n := by omega
  have hr := h1 i s hlt hi
  unfold Baw
  cases hf : f i s with
  | inl s' =>
   rw [hf] at hr
   rw [Bs4 hr]
   exact Bf9 n hd f res Inv h1 h2 h3 k (i + 1) s' (by omega) (h2 i s s' hlt hi hf)
  | inr b =>
   rw [hf] at hr
   exact Bho hr
theorem Bb1 {S B : Type} {f : Nat → S → S ⊕ B} {Inv : Nat → S → Prop} {n : Nat} (h2 : ∀ i s s', i < n → Inv i s → f i s = .inl s' → Inv (i + 1) s') : ∀ (k i : Nat) (s s' : S), i + k = n → Inv i s → Baw f i k s = .inl s' → Inv n s'
 | 0, i, s, s', hk, hi, h => by
  have e : i = n := by omega
  subst e
  cases h
  exact hi
 | k + 1, i, s, s', hk, hi, h => by
  unfold Baw at h
  cases hf : f i s with
  | inl t => rw [hf] at h; exact Bb1 h2 k (i + 1) t s' (by omega) (h2 i s t (by omega) hi hf) h
  | inr b => rw [hf] at h; cases h
theorem Bkm {β : Type} {h w : List β} {b : Nat} (k : h.length + w.length ≤ 1000000) (hb : b ≤ 48) : Bd8 h w b = true := by
 rw [Be0, decide_eq_true_iff]
 have h1 : ((h.length + w.length : Nat) : Int) ≤ 1000000 := by omega
 have h2 : (b : Int) ≤ 48 := by omega
 calc ((h.length + w.length : Nat) : Int) * b ≤ 1000000 * 48 := Int.mul_le_mul h1 h2 (by omega) (by decide)
  _ ≤ 140737488355328 := by decide
namespace St
theorem is_sLie : FnIs Tryz.prog (28, Tryz.f28) := ⟨Tryz.func28, by kernel_rfl, by kernel_rfl⟩
theorem is_sstill : FnIs Tryz.prog (44, Tryz.f44) := ⟨Tryz.func44, by kernel_rfl, by kernel_rfl⟩
theorem is_sTotal : FnIs Tryz.prog (13, Tryz.f13) := ⟨Tryz.func13, by kernel_rfl, by kernel_rfl⟩
abbrev kSo : List SK := [.o 60 Bau, .o 4 .b, .d cI, .d cI, .d cI]
noncomputable def D2z : Code := (Bak (bodyOf Tryz.f28)).getD 0 .skip
abbrev D30 : List BK := [(0, 41, kGr), (1, 45, kSt), (3, 45, kSo)]
def C67 : Lay := { keys := [2, 4, 7, 27, 28, 29], ks := [.p 0 0 0 0, .p 1 0 0 0, .p 3 0 0 0, .d (.sl cPt), .d cI, .d cI], bs := D30, n := 48, nx := 1000, marks := [] }
def D6i : Lay := { keys := [4, 7], ks := [.p 1 0 0 0, .p 3 0 0 0], bs := [(1, 45, kSt), (3, 45, kSo)], n := 48, nx := 1000, marks := [] }
def D31 : Lay := { keys := [4, 5], ks := [.p 1 0 0 0, .d cI], bs := [(1, 45, kSt)], n := 48, nx := 1000, marks := [] }
def Byv : XE → Lay := fun e => match e with | .ret => D31 | _ => D6i
def Ccz (p : TCT cPt) : TCT Bau := ((p.1, p.2.1, ()), (0, 0, ()), (0, 0, ()), ())
def Cj2 (p : TCT cPt) : TCT cPt := (p.1, p.2.1, ())
def Cvh {β : Type} (p : TCT cPt) (ms : List (TCT Bau)) (nx : List (TCT Bau) → Tree β) : Tree β := bif Bd8 ms [Ccz p] 48 then nx (ms ++ [Ccz p]) else .fail
def C9r (x : SKTs kGr) (r q : SKTs kSt) (p : List (TCT cPt)) (n i : Int) (ms : List (TCT Bau)) : C67.T := (((), (), (), p, n, i, ()), (x, r, (ms, q.2), ()))
def Cvi : Fp Byv := ⟨.ret, (((), 2, ()), (([], [], 0, 0, 0, ()), ()))⟩
def Cvj (r q : SKTs kSt) (ms : List (TCT Bau)) : Fp Byv := ⟨.exit 0, (((), (), ()), (r, (ms, q.2), ()))⟩
abbrev TLi := Tree (C67.T ⊕ Fp Byv)
def Bsr (x : SKTs kGr) (r q : SKTs kSt) (p : List (TCT cPt)) (n i : Int) (ms : List (TCT Bau)) : TLi := bif decide (i < n) then inN p.length i (
 bif !onB (lwG x) (Cj2 (Bat p (Int.toNat i) (Bar cPt))) then .leaf (.inr Cvi) else Cvh (Bat p (Int.toNat i) (Bar cPt)) ms fun ms' => .leaf (.inl (C9r x r q p n (W64 (i + 1)) ms'))) else .leaf (.inr (Cvj r q ms))
def C20 (g : C67.T) : TLi := Bsr g.2.1 g.2.2.1 g.2.2.2.1 g.1.2.2.2.1 g.1.2.2.2.2.1 g.1.2.2.2.2.2.1 g.2.2.2.1.1
def Cj3 (g : C67.T) : Nat := (g.1.2.2.2.1 : List (TCT cPt)).length + 1
theorem D6j : Baz Tryz.prog 28 D2z (Bav C67 Byv (Bcn [.ret, .exit 0] C20 Cj3)) := Bbc (Bap Ban puS1 Fq) 7 _ C67 Byv (fun e => by cases e <;> exact Nat.le_refl _) [.ret, .exit 0] C20 Cj3 (fun g => by kernel_rfl)
def Cqk (l : TCT Bao) (p : List (TCT cPt)) (i : Nat) : Bool := onB l (Cj2 (Bat p i (Bar cPt)))
def f_li (l : TCT Bao) (p : List (TCT cPt)) (i : Nat) (ms : List (TCT Bau)) : List (TCT Bau) ⊕ Unit := bif Cqk l p i then .inl (ms ++ [Ccz (Bat p i (Bar cPt))]) else .inr ()
def C68 (r q : SKTs kSt) : List (TCT Bau) ⊕ Unit → Fp Byv
 | .inl ms => Cvj r q ms
 | .inr _ => Cvi
theorem Cy1 {l : TCT Bao} {p : List (TCT cPt)} (i : Nat) (s s' : List (TCT Bau)) (_ : i < p.length) (hi : s.length = i) (h : f_li l p i s = .inl s') : s'.length = i + 1 := by
 unfold f_li at h
 cases ho : Cqk l p i with
 | true => rw [ho] at h; cases h; simp [hi]
 | false => rw [ho] at h; cases h
theorem D32 {x : SKTs kGr} {r q : SKTs kSt} {p : List (TCT cPt)} (hp : p.length ≤ 100) : iter C20 (p.length + 1) (C9r x r q p p.length 0 []) = some (C68 r q (Baw (f_li (lwG x) p) 0 p.length [])) := by
 have hp' : (p.length : Int) ≤ Bb2 .i64 := by show (p.length : Int) ≤ 9223372036854775807; omega
 refine Bf9 p.length (fun i ms => C9r x r q p p.length i ms) (f_li (lwG x) p) (C68 r q) (fun i ms => ms.length = i) (fun i ms hi hl => ?_) Cy1 (fun ms hl => ?_) p.length 0 [] (by omega) rfl
 ·show (Bsr x r q p p.length (i : Int) ms).run = _
  unfold Bsr f_li Cqk Cvh
  rw [decide_eq_true (show (i : Int) < (p.length : Int) by omega), Bdb (by omega), show Int.toNat (i : Int) = i from rfl, Bkm (by simp; omega) (by decide), Bct hi hp']
  cases onB (lwG x) (Cj2 (Bat p i (Bar cPt))) <;> rfl
 ·show (Bsr x r q p p.length (p.length : Int) ms).run = _
  unfold Bsr
  rw [decide_eq_false (show ¬ (p.length : Int) < (p.length : Int) by omega)]
  rfl
end St
end V
end Go.Proofs.YtcfanlgpkefogaaGreat
namespace Go.Proofs.YtcfanlgpkefogaaGreat
open Go.RowKit
namespace V
namespace St
abbrev plS3 : List (Nat × PureT) := (42, C9q) :: (93, C91) :: plS2
theorem puS3 : Bc7 Tryz.prog plS3 := puOk_cons is_cState.plain Cqi (puOk_cons is_cfMot.plain Cp6 puS2)
def r0 : SKTs kSt := ([], [], 0, 0, 0, ())
def q0 (p : List (TCT cPt)) : SKTs kSt := ([], List.replicate (Int.toNat (p.length : Int)) false, 0, 0, 0, ())
def zS : TCT cSt := ([], [], 0, 0, 0, ())
abbrev TLs := Tree (TCTs [cSt, cI])
def erS (c : Bool) (e : Int) (k : TLs) : TLs := bif c then .leaf (zS, e, ()) else k
def D33 (g : TCT cGr) (p : List (TCT cPt)) : Option (Fp Byv) := iter C20 (p.length + 1) (C9r (Bd7 g) r0 (q0 p) p p.length 0 [])
def mkT {β : Type} (n : Int) (k : Tree β) : Tree β := bif decide (0 ≤ n ∧ n ≤ n ∧ n ≤ 65536 ∧ ((1 : Nat) : Int) * n ≤ 281474976710656) then k else .fail
theorem Cy2 {β : Type} {n : Int} {k : Tree β} (h0 : 0 ≤ n) (h : n ≤ 65536) : mkT n k = k := by
 unfold mkT
 rw [decide_eq_true (by omega)]; rfl
def stO (s : SKTs kSo) : TCT cSt := (s.1, s.2.1, s.2.2.1, s.2.2.2.1, s.2.2.2.2.1, ())
def D6k (y : Option (Fp Byv)) : TLs := bif isE .ret y then .leaf (C1z (Bc4 .ret y).2.1, (Bc4 .ret y).1.2.1, ()) else bif isE (.exit 0) y then .leaf (stO (Bc4 (.exit 0) y).2.2.1, 0, ()) else .fail
def C21 (a b : Nat) : Bool := (a : Int) != (b : Int)
def Cy3 (g : TCT cGr) (p : List (TCT cPt)) : TLs := szT g.1 (erS (groE g != 0) (groE g) (erS (C21 p.length (V1 g).length) 17 (mkT p.length (D6k (D33 g p)))))
def D34 (p : List (TCT cPt)) : List (TCT Bau) ⊕ Unit → TCTs [cSt, cI]
 | .inl ms => ((ms, List.replicate p.length false, 0, 0, 0, ()), 0, ())
 | .inr _ => (zS, 2, ())
def Bf6 (g : TCT cGr) (p : List (TCT cPt)) : TCTs [cSt, cI] := bif groE g != 0 then (zS, groE g, ()) else bif C21 p.length (V1 g).length then (zS, 17, ()) else D34 p (Baw (f_li g.1 p) 0 p.length [])
def etaS (s : TCT cSt) : TCT cSt := (s.1, s.2.1, s.2.2.1, s.2.2.2.1, s.2.2.2.2.1, ())
abbrev Cvk : PureT := Bbb [cGr, .sl cPt] [cSt, cI] (fun x => decide ((x.1.1.1.size : Int) ≤ Bb2 .i64)) (fun x => (etaS (Bf6 x.1 x.2.1).1, (Bf6 x.1 x.2.1).2.1, ()))
theorem C9s {g : TCT cGr} (h : groE g = 0) : 1 ≤ (V1 g).length ∧ (V1 g).length ≤ 8 := by
 unfold groE at h
 cases h1 : Bc1 g.1 != 0 with
 | true => rw [h1, cond_true] at h; rw [h] at h1; cases h1
 | false =>
  rw [h1, cond_false] at h
  cases h2 : decide (((V1 g).length : Int) < 1) || decide (((V1 g).length : Int) > 8) with
  | true => rw [h2] at h; cases h
  | false =>
   rw [Bool.or_eq_false_iff, decide_eq_false_iff_not, decide_eq_false_iff_not] at h2
   omega
theorem Cy4 {a b : Nat} (h : C21 a b = false) : a = b := by
 unfold C21 at h
 have := bne_eq_false_iff_eq.1 h
 omega
theorem Cql {g : TCT cGr} {p : List (TCT cPt)} {k : TLs} (h : groE g = 0 → p.length = (V1 g).length → p.length ≤ 8 → k = .leaf (D34 p (Baw (f_li g.1 p) 0 p.length []))) :
  (bif groE g != 0 then .leaf (zS, groE g, ()) else erS (C21 p.length (V1 g).length) 17 k : TLs).sat (fun y => y = (etaS (Bf6 g p).1, (Bf6 g p).2.1, ())) := by
 show Tree.sat (fun y => y = Bf6 g p) _
 unfold Bf6
 cases h1 : groE g != 0 with
 | true => exact rfl
 | false =>
  simp only [cond_false]
  unfold erS
  cases h2 : C21 p.length (V1 g).length with
  | true => exact rfl
  | false =>
   have e := Cy4 h2
   have h0 : groE g = 0 := bne_eq_false_iff_eq.1 h1
   have := C9s h0
   rw [h h0 e (by omega)]
   exact rfl
theorem Cqm {g : TCT cGr} {p : List (TCT cPt)} (hs : (g.1.1.size : Int) ≤ Bb2 .i64) : (Cy3 g p).sat (fun y => y = (etaS (Bf6 g p).1, (Bf6 g p).2.1, ())) := by
 unfold Cy3
 rw [Bco hs]
 refine Cql fun _ e hp => ?_
 have hy : D33 g p = some (C68 r0 (q0 p) (Baw (f_li g.1 p) 0 p.length [])) := D32 (by omega)
 rw [Cy2 (by omega) (by omega), hy]
 cases Baw (f_li g.1 p) 0 p.length [] <;> rfl
noncomputable def D6l : Ctx := Bgo Tryz.prog plS3 [(28, Tryz.f28)] [((28, 8), Bav C67 Byv (Bcn [.ret, .exit 0] C20 Cj3))]
theorem Cqn : CtxOk D6l := Bc8 Ban puS3 (fns_cons is_sLie Fq) (Bbt (by kernel_rfl) (by kernel_rfl) D6j)
theorem D35 : Bai Tryz.prog 28 Cvk := Bbd Cqn 7 (fun x => Cy3 x.1 x.2.1) (fun x => by kernel_rfl) fun x hok _ => Cqm (of_decide_eq_true hok)
def Bew (s : TCT cSt) : Bool := (msT s).all Bec
abbrev Byw : PureT := Bbb [cSt] [.b] (fun _ => true) (fun x => (Bew x.1, ()))
theorem Cd0 (s : TCT cSt) : (!(msT s).any (Bdy ())) = Bew s := by
 have : (msT s).any (Bdy ()) = !(msT s).all Bec := Bhw Bec _
 rw [this, Bool.not_not]
 rfl
theorem Cj4 : Bai Tryz.prog 44 Byw := Bbd (Bap Ban puS3 (fns_cons is_sstill (fns_cons is_still1 Fq))) 7 (fun x => .leaf (!(msT x.1).any (Bdy ()), ())) (fun x => by kernel_rfl) fun x _ _ => by
 show _ = _
 rw [Cd0]
def C69 : Lay := { keys := [1, 3], ks := [.p 0 0 0 0, .d cI], bs := [(0, 45, kSt)], n := 19, nx := 1000, marks := [] }
def D6m : Lay := { keys := [], ks := [], bs := [], n := 19, nx := 1000, marks := [] }
def D37 : Lay := { keys := [2], ks := [.d .b], bs := [], n := 19, nx := 1000, marks := [] }
def C6a : XE → Lay := fun e => match e with | .ret => D37 | _ => D6m
def Cj5 (s : SKTs kSt) (i : Int) : C69.T := (((), i, ()), (s, ()))
def Cj6 : Fp C6a := ⟨.ret, ((false, ()), ())⟩
def Cj7 : Fp C6a := ⟨.exit 0, ((), ())⟩
def C22 (m : TCT Bau) : Bool := !(m.2.1.1 == 0 && (m.2.1.2.1 == 0 && true))
theorem C9t (m : TCT Bau) : C22 m = !Bec m := by unfold C22 Bec; rw [Bool.and_true]
def C9u (g : C69.T) : Tree (C69.T ⊕ Fp C6a) := bif decide (g.1.2.1 < ((msS g.2.1).length : Int)) then bif decide (0 ≤ g.1.2.1 ∧ g.1.2.1 < ((msS g.2.1).length : Int)) then
 bif C22 (Bat (msS g.2.1) (Int.toNat g.1.2.1) (Bar Bau)) then .leaf (.inr Cj6) else .leaf (.inl (Cj5 g.2.1 (W64 (g.1.2.1 + 1)))) else .fail else .leaf (.inr Cj7)
def Cj8 (g : C69.T) : Nat := (msS g.2.1).length + 1
def Cqp (s : TCT cSt) : Option (Fp C6a) := iter C9u ((msT s).length + 1) (Cj5 (Bnz s) 0)
def Cy5 (s : TCT cSt) : TBo := bif isE .ret (Cqp s) then .leaf ((Bc4 .ret (Cqp s)).1.1, ()) else bif isE (.exit 0) (Cqp s) then .leaf (true, ()) else .fail
def plS4 : List (Nat × PureT) := (44, Byw) :: plS3
theorem puS4 : Bc7 Tryz.prog plS4 := puOk_cons is_sstill.plain Cj4 (puS3)
end St
end V
end Go.Proofs.YtcfanlgpkefogaaGreat
