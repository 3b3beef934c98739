import Derived.Test.YtcfanlgpkefogaaGreatAb
namespace Go.Proofs.YtcfanlgpkefogaaGreat
open Go.RowKit
namespace V
theorem is_cB1 : FnIs Tryz.prog (111, Tryz.f111) := ⟨Tryz.func111, by kernel_rfl, by kernel_rfl⟩
theorem is_vBall : FnIs Tryz.prog (77, Tryz.f77) := ⟨Tryz.func77, by kernel_rfl, by kernel_rfl⟩
theorem is_ckBall : FnIs Tryz.prog (70, Tryz.f70) := ⟨Tryz.func70, by kernel_rfl, by kernel_rfl⟩
def cbP (d : TCT Baf) : Bool := Bfr d.1.1 d.1.2.1 != 0 || !St.inR d.2.1 1 16384
abbrev Cut : PureT := Bbb [Baf] [.b] (fun _ => true) (fun x => (cbP x.1, ()))
def plCb0 : List (Nat × PureT) := [(43, Bhz), (105, St.s_inR)]
theorem puCb0 : Bc7 Tryz.prog plCb0 := puOk_cons Bhf.plain Bjg (puOk_cons St.is_between2.plain St.q_between2 puOk_nil)
theorem D17 : Bai Tryz.prog 111 Cut := Bbd (Bap Ban puCb0 (fns_cons is_cB1 (fns_cons is_vBall Fq))) 4 (fun x => bif Bfr x.1.1.1 x.1.1.2.1 != 0 then .leaf (true, ()) else .leaf (!St.inR x.1.2.1 1 16384, ())) (fun x => by kernel_rfl) fun x _ _ => by
 show (bif Bfr x.1.1.1 x.1.1.2.1 != 0 then Tree.leaf (true, ()) else Tree.leaf (!St.inR x.1.2.1 1 16384, ())).sat (fun y => y = (Bfr x.1.1.1 x.1.1.2.1 != 0 || !St.inR x.1.2.1 1 16384, ()))
 cases Bfr x.1.1.1 x.1.1.2.1 != 0 <;> exact rfl
def plCb : List (Nat × PureT) := [(111, Cut)]
theorem puCb : Bc7 Tryz.prog plCb := puOk_cons is_cB1.plain D17 puOk_nil
theorem is_ixDsc : FnIs Tryz.prog (131, Tryz.f131) := ⟨Tryz.func131, by kernel_rfl, by kernel_rfl⟩
theorem is_cfDsc : FnIs Tryz.prog (89, Tryz.f89) := ⟨Tryz.func89, by kernel_rfl, by kernel_rfl⟩
abbrev Bid : List SK := []
def Bei (k : SKTs Bid) (x : TCT (Baf)) : Bool := cbP x
noncomputable def C0g : Code := (Bak (bodyOf Tryz.f131)).getD 0 .skip
def Bj4 : Lay := { keys := [0, 1, 7, 8], ks := [.d (.sl (Baf)), .f 111 [] Bid, .d cI, .d cI], bs := [], n := 19, nx := 1000, marks := [] }
def Cfr : Lay := { keys := [4], ks := [.d cI], bs := [], n := 19, nx := 1000, marks := [] }
def Cfs : Lay := { keys := [], ks := [], bs := [], n := 19, nx := 1000, marks := [] }
def Bhq : XE → Lay
 | .ret => Cfr
 | _ => Cfs
def C0h (k : SKTs Bid) (l : List (TCT (Baf))) (n i : Int) : Bj4.T := ((l, ((), k), n, i, ()), ())
def Brl (i : Int) : Fp Bhq := ⟨.ret, ((i, ()), ())⟩
def Brm : Fp Bhq := ⟨.exit 0, ((), ())⟩
def Bj5 (k : SKTs Bid) (l : List (TCT (Baf))) (n : Int) (x : TCT (Baf)) (i : Int) : Tree (Bj4.T ⊕ Fp Bhq) := bif Bei k x then .leaf (.inr (Brl i)) else .leaf (.inl (C0h k l n (W64 (i + 1))))
def Cft (k : SKTs Bid) (l : List (TCT (Baf))) (n i : Int) : Tree (Bj4.T ⊕ Fp Bhq) :=
 bif decide (i < n) then bif decide (0 ≤ i ∧ i < (l.length : Int)) then Bj5 k l n (Bat l i.toNat (Bar (Baf))) i else .fail else .leaf (.inr Brm)
def Bp8 (g : Bj4.T) : Tree (Fp Bhq) :=
 .br (Bio g.1.2.2.1 g.1.2.2.2.1 g.1.1) (.br (g.1.1.any (Bei g.1.2.1.2)) (.leaf (Brl (g.1.1.findIdx (Bei g.1.2.1.2)))) (.leaf Brm)) .fail
theorem Cof : Baz Tryz.prog 131 C0g (Bav Bj4 Bhq Bp8) := by
 refine Be6 (X := ctx Tryz.prog plCb []) (Bap Ban puCb Fq) 7 131 (fun _ => none) (fun _ _ f h => by simp at h) Bj4 Bhq (fun e => by cases e <;> exact Nat.le_refl _) Bp8 (fun g => Cft g.1.2.1.2 g.1.1 g.1.2.2.1 g.1.2.2.2.1) (fun g => by kernel_rfl) ?_
 rintro ⟨⟨l, ⟨⟨⟩, k⟩, n, i, ⟨⟩⟩, ⟨⟩⟩ R hw hf
 obtain ⟨hf, h0⟩ := hf
 by_cases hc : n = (l.length : Int) ∧ i = 0
 ·obtain ⟨rfl, rfl⟩ := hc
  have hf := hf (decide_eq_true ⟨rfl, rfl⟩)
  refine Co2 l (Bar (Baf)) (Beb hw.1.1) (fun n i _ => C0h k l n i) (fun x i (_ : Unit) => bif Bei k x then .inr (Brl i) else .inl ()) (fun _ => Brm) (fun _ => True) (fun x i _ => Bj5 k l l.length x i) (fun i _ => rfl) ?_ () trivial ?_
  ·intro i _ hi Q _ _ hw1 hQ
   show (Bj5 k l l.length l[i] i).sat Q
   unfold Bj5
   rw [hw1]
   cases hp : Bei k l[i] with
   | true => rw [hp] at hQ; exact hQ
   | false => rw [hp] at hQ; exact hQ trivial
  ·rw [Bm4 (Bei k) (fun i => Brl i) Brm l 0, Nat.zero_add]
   cases ha : l.any (Bei k) with
   | true => exact hf.1 ha
   | false => exact hf.2 ha
 ·exact (h0 (decide_eq_false hc)).elim
abbrev Cog : PureT := Bia [.d (.sl (Baf)), .f 111 [] Bid] [cI] (fun _ => true) (fun x => (bif x.1.any (Bei x.2.1.2) then (x.1.findIdx (Bei x.2.1.2) : Int) else -1, ()))
noncomputable def Coh : Ctx := Bgo Tryz.prog plCb [(131, Tryz.f131)] [((131, keyOf C0g), Bav Bj4 Bhq Bp8)]
theorem C57 : CtxOk Coh := Bc8 Ban puCb (fns_cons is_ixDsc Fq) (Bbt rfl (by kernel_rfl) Cof)
def C8q (k : SKTs Bid) (l : List (TCT (Baf))) : Tree (Int × Unit) := bif Bio (l.length : Int) 0 l then bif l.any (Bei k) then .leaf ((l.findIdx (Bei k) : Int), ()) else .leaf (-1, ()) else .fail
theorem C58 (k : SKTs Bid) (l : List (TCT (Baf))) : (C8q k l).sat (fun y => y = (bif l.any (Bei k) then (l.findIdx (Bei k) : Int) else -1, ())) := by
 refine Ble (decide_eq_true ⟨rfl, rfl⟩) ?_
 cases l.any (Bei k) <;> exact rfl
theorem Coi : Bai Tryz.prog 131 Cog := Bmm C57 8 (fun x => C8q x.2.1.2 x.1) (fun x => by kernel_rfl) fun x _ _ => C58 _ _
abbrev C8r : PureT := Bia [.d (.sl (Baf)), .f 111 [] Bid] [.b] (fun _ => true) (fun x => (x.1.any (Bei x.2.1.2), ()))
theorem C59 (k : SKTs Bid) (l : List (TCT (Baf))) : (Tree.leaf (decide ((bif l.any (Bei k) then (l.findIdx (Bei k) : Int) else -1) ≥ 0), ()) : Tree (Bool × Unit)).sat (fun y => y = (l.any (Bei k), ())) := by
 rw [Bp4]; exact rfl
theorem Coj : Bai Tryz.prog 89 C8r := Bmm (Bap Ban (puOk_cons is_ixDsc.plain Coi puOk_nil) (fns_cons is_cfDsc Fq)) 8 (fun x => .leaf (decide ((bif x.1.any (Bei x.2.1.2) then (x.1.findIdx (Bei x.2.1.2) : Int) else -1) ≥ 0), ())) (fun x => by kernel_rfl) fun x _ _ => C59 _ _
def cbE (r : Int) (o : List (TCT Baf)) : Int := bif !St.inR r 1 16384 then 3 else bif decide ((o.length : Int) > 12) then 6 else bif o.any cbP then 2 else 0
abbrev C0i : PureT := Bbb [cI, .sl Baf] [cI] (fun _ => true) (fun x => (cbE x.1 x.2.1, ()))
def plCb2 : List (Nat × PureT) := [(105, St.s_inR), (89, C8r)]
theorem puCb2 : Bc7 Tryz.prog plCb2 := puOk_cons St.is_between2.plain St.q_between2 (puOk_cons is_cfDsc.plain Coj puOk_nil)
def Bs6 (r : Int) (o : List (TCT Baf)) : Tree (TCTs [cI]) := bif !St.inR r 1 16384 then .leaf (3, ()) else bif decide ((o.length : Int) > 12) then .leaf (6, ()) else bif o.any (Bei ()) then .leaf (2, ()) else .leaf (0, ())
theorem C0j (r : Int) (o : List (TCT Baf)) : (Bs6 r o).sat (fun y => y = (cbE r o, ())) := by
 unfold Bs6 cbE
 show (bif !St.inR r 1 16384 then .leaf (3, ()) else bif decide ((o.length : Int) > 12) then .leaf (6, ()) else bif o.any cbP then .leaf (2, ()) else .leaf (0, ()) : Tree (TCTs [cI])).sat _
 cases !St.inR r 1 16384 <;> cases decide ((o.length : Int) > 12) <;> cases o.any cbP <;> exact rfl
theorem Cfu : Bai Tryz.prog 70 C0i := Bbd (Bap Ban puCb2 (fns_cons is_ckBall (fns_cons is_vBall Fq))) 5 (fun x => Bs6 x.1 x.2.1) (fun x => by kernel_rfl) fun _ _ _ => C0j _ _
end V
end Go.Proofs.YtcfanlgpkefogaaGreat
