import Derived.Test.YtcfanlgpkefogaaGreatUb
namespace Go.Proofs.YtcfanlgpkefogaaGreat
open Go.RowKit
namespace V
def Bgr (m r : Int) : Bool := !Bb6 m 400 500 && !Bb6 r 1000 4096
def Bfi (re dr : Int) : Bool := !Bb6 re 0 950 && !Bb6 dr 0 300
def Bn1 (m r px py mx my rx ry : Int) : Bool := Bgr m r && (fpt px py && (Bb3 mx my && (!Bb6 rx (-(32 * m)) (32 * m - 1) && !Bb6 ry (-(32 * m)) (32 * m - 1))))
def okE (b : Bool) : Int := bif b then 0 else 2
theorem is_CheckBall : FnIs Tryz.prog (125, Tryz.f125) := ⟨Tryz.func125, by kernel_rfl, by kernel_rfl⟩
theorem is_CheckBounce : FnIs Tryz.prog (126, Tryz.f126) := ⟨Tryz.func126, by kernel_rfl, by kernel_rfl⟩
theorem is_CheckMotion : FnIs Tryz.prog (55, Tryz.f55) := ⟨Tryz.func55, by kernel_rfl, by kernel_rfl⟩
theorem is_rcheck : FnIs Tryz.prog (104, Tryz.f104) := ⟨Tryz.func104, by kernel_rfl, by kernel_rfl⟩
def plA : List (Nat × PureT) := [(60, Cw9), (59, Boa), (43, Bhz)]
theorem puA : Bc7 Tryz.prog plA := puOk_cons is_coutside.plain Bn0 (puOk_cons is_strong.plain Cml (puOk_cons Bhf.plain Bjg puOk_nil))
def plR : List (Nat × PureT) := []
theorem puR : Bc7 Tryz.prog plR := puOk_nil
abbrev Bi0 : PureT := Bbb [No] [cI] (fun _ => true) (fun x => (okE (Bgr x.1.1 x.1.2.1), ()))
def Bkr (m r : Int) : Tree (Int × Unit) := bif Bb6 m 400 500 then .leaf (2, ()) else bif Bb6 r 1000 4096 then .leaf (2, ()) else .leaf (0, ())
def Bjh (m r : Int) : Tree (Int × Unit) := bif !!Bb6 m 400 500 then .leaf (2, ()) else bif !!Bb6 r 1000 4096 then .leaf (2, ()) else .leaf (0, ())
theorem Btv (m r : Int) : (Bkr m r).sat (fun y => y = (okE (Bgr m r), ())) := by
 unfold Bkr Bgr okE; cases Bb6 m 400 500 <;> cases Bb6 r 1000 4096 <;> exact rfl
theorem Brj (m r : Int) : (Bjh m r).sat (fun y => y = (okE (Bgr m r), ())) := by
 unfold Bjh Bgr okE; cases Bb6 m 400 500 <;> cases Bb6 r 1000 4096 <;> exact rfl
theorem Bqu : Bai Tryz.prog 125 Bi0 := Bbd (Bap Ban puA (fns_cons is_CheckBall Fq)) 2 (fun x => Bkr x.1.1 x.1.2.1) (fun x => by kernel_rfl) fun _ _ _ => Btv _ _
abbrev Bdr : PureT := Bbb [Bbw] [cI] (fun _ => true) (fun x => (okE (Bfi x.1.1 x.1.2.1), ()))
def Bij (m r : Int) : Tree (Int × Unit) := bif Bb6 m 0 950 then .leaf (2, ()) else bif Bb6 r 0 300 then .leaf (2, ()) else .leaf (0, ())
def Bhg (m r : Int) : Tree (Int × Unit) := bif !!Bb6 m 0 950 then .leaf (2, ()) else bif !!Bb6 r 0 300 then .leaf (2, ()) else .leaf (0, ())
theorem Bpv (m r : Int) : (Bij m r).sat (fun y => y = (okE (Bfi m r), ())) := by
 unfold Bij Bfi okE; cases Bb6 m 0 950 <;> cases Bb6 r 0 300 <;> exact rfl
theorem Boc (m r : Int) : (Bhg m r).sat (fun y => y = (okE (Bfi m r), ())) := by
 unfold Bhg Bfi okE; cases Bb6 m 0 950 <;> cases Bb6 r 0 300 <;> exact rfl
theorem Bik : Bai Tryz.prog 126 Bdr := Bbd (Bap Ban puA (fns_cons is_CheckBounce Fq)) 2 (fun x => Bij x.1.1 x.1.2.1) (fun x => by kernel_rfl) fun _ _ _ => Bpv _ _
def Brx (m r px py mx my rx ry : Int) : Tree (Int × Unit) :=
 bif Bb6 m 400 500 then .leaf (2, ()) else bif Bb6 r 1000 4096 then .leaf (2, ()) else bif Bfr px py != 0 then .leaf (2, ()) else bif !Bb3 mx my then .leaf (2, ()) else
 bif Bb6 rx (W64 (0 - W64 (32 * m))) (W64 (W64 (32 * m) - 1)) then .leaf (2, ()) else bif Bb6 ry (W64 (0 - W64 (32 * m))) (W64 (W64 (32 * m) - 1)) then .leaf (2, ()) else .leaf (0, ())
def Btx (m r px py mx my rx ry : Int) : Tree (Int × Unit) :=
 bif !!Bb6 m 400 500 then .leaf (2, ()) else bif !!Bb6 r 1000 4096 then .leaf (2, ()) else bif !fpt px py then .leaf (2, ()) else bif !Bb3 mx my then .leaf (2, ()) else
 bif !!Bb6 rx (W64 (0 - W64 (32 * m))) (W64 (W64 (32 * m) - 1)) then .leaf (2, ()) else bif !!Bb6 ry (W64 (0 - W64 (32 * m))) (W64 (W64 (32 * m) - 1)) then .leaf (2, ()) else .leaf (0, ())
theorem Blr {m : Int} (h : Bb6 m 400 500 = false) : W64 (0 - W64 (32 * m)) = -(32 * m) ∧ W64 (W64 (32 * m) - 1) = 32 * m - 1 := by
 have ⟨h1, h2⟩ := Bdc h
 rw [show W64 (32 * m) = 32 * m from Bag (by omega) (by omega)]
 exact ⟨(Bag (by omega) (by omega)).trans (by omega), Bag (by omega) (by omega)⟩
theorem Bty (m r px py mx my rx ry : Int) : (Brx m r px py mx my rx ry).sat (fun y => y = (okE (Bn1 m r px py mx my rx ry), ())) := by
 unfold Brx Bn1 Bgr okE Bfr
 cases h : Bb6 m 400 500 with
 | true => exact rfl
 | false =>
  rw [(Blr h).1, (Blr h).2]
  cases Bb6 r 1000 4096 <;> cases fpt px py <;> cases Bb3 mx my <;> cases Bb6 rx (-(32 * m)) (32 * m - 1) <;> cases Bb6 ry (-(32 * m)) (32 * m - 1) <;> exact rfl
theorem C3j (m r px py mx my rx ry : Int) : (Btx m r px py mx my rx ry).sat (fun y => y = (okE (Bn1 m r px py mx my rx ry), ())) := by
 unfold Btx Bn1 Bgr okE
 cases h : Bb6 m 400 500 with
 | true => exact rfl
 | false =>
  rw [(Blr h).1, (Blr h).2]
  cases Bb6 r 1000 4096 <;> cases fpt px py <;> cases Bb3 mx my <;> cases Bb6 rx (-(32 * m)) (32 * m - 1) <;> cases Bb6 ry (-(32 * m)) (32 * m - 1) <;> exact rfl
abbrev Bel : PureT := Bbb [No, Bau] [cI] (fun _ => true) (fun x => (okE (Bn1 x.1.1 x.1.2.1 x.2.1.1.1 x.2.1.1.2.1 x.2.1.2.1.1 x.2.1.2.1.2.1 x.2.1.2.2.1.1 x.2.1.2.2.1.2.1), ()))
abbrev C3k : PureT := Bbb [.st [No, Bau]] [cI] (fun _ => true) (fun x => (okE (Bn1 x.1.1.1 x.1.1.2.1 x.1.2.1.1.1 x.1.2.1.1.2.1 x.1.2.1.2.1.1 x.1.2.1.2.1.2.1 x.1.2.1.2.2.1.1 x.1.2.1.2.2.1.2.1), ()))
def plB : List (Nat × PureT) := (125, Bi0) :: plA
theorem puB : Bc7 Tryz.prog plB := puOk_cons is_CheckBall.plain Bqu puA
theorem Cmn : Bai Tryz.prog 104 C3k := Bbd (Bap Ban puA (fns_cons is_rcheck (fns_cons is_CheckBall Fq))) 3
 (fun x => Brx x.1.1.1 x.1.1.2.1 x.1.2.1.1.1 x.1.2.1.1.2.1 x.1.2.1.2.1.1 x.1.2.1.2.1.2.1 x.1.2.1.2.2.1.1 x.1.2.1.2.2.1.2.1) (fun x => by kernel_rfl) fun _ _ _ => Bty _ _ _ _ _ _ _ _
theorem Bmd : Bai Tryz.prog 55 Bel := Bbd (Bap Ban puA (fns_cons is_CheckMotion (fns_cons is_rcheck (fns_cons is_CheckBall Fq)))) 4
 (fun x => Brx x.1.1 x.1.2.1 x.2.1.1.1 x.2.1.1.2.1 x.2.1.2.1.1 x.2.1.2.1.2.1 x.2.1.2.2.1.1 x.2.1.2.2.1.2.1) (fun x => by kernel_rfl) fun _ _ _ => Bty _ _ _ _ _ _ _ _
end V
end Go.Proofs.YtcfanlgpkefogaaGreat
