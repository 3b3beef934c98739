import Derived.Test.YtkiaifmbbnnliaaGreatUb
namespace Go.Proofs.YtkiaifmbbnnliaaGreat
open Go.RowKit
namespace V
def K8 (m r : Int) : Bool := !Az m 400 500 && !Az r 1000 4096
def Hr (re dr : Int) : Bool := !Az re 0 950 && !Az dr 0 300
def Qd (m r px py mx my rx ry : Int) : Bool := K8 m r && (fpt px py && (Ay mx my && (!Az rx (-(32 * m)) (32 * m - 1) && !Az ry (-(32 * m)) (32 * m - 1))))
def okE (b : Bool) : Int := bif b then 0 else 2
theorem is_CheckBall : FnIs Tryz.prog (78, Tryz.f78) := ⟨Tryz.func78, by kernel_rfl, by kernel_rfl⟩
theorem is_rCheckBall : FnIs Tryz.prog (80, Tryz.f80) := ⟨Tryz.func80, by kernel_rfl, by kernel_rfl⟩
theorem is_CheckBounce : FnIs Tryz.prog (79, Tryz.f79) := ⟨Tryz.func79, by kernel_rfl, by kernel_rfl⟩
theorem is_rCheckBounce : FnIs Tryz.prog (81, Tryz.f81) := ⟨Tryz.func81, by kernel_rfl, by kernel_rfl⟩
theorem is_CheckMotion : FnIs Tryz.prog (82, Tryz.f82) := ⟨Tryz.func82, by kernel_rfl, by kernel_rfl⟩
theorem is_rCheckMotion : FnIs Tryz.prog (128, Tryz.f128) := ⟨Tryz.func128, by kernel_rfl, by kernel_rfl⟩
theorem is_rcheck : FnIs Tryz.prog (143, Tryz.f143) := ⟨Tryz.func143, by kernel_rfl, by kernel_rfl⟩
def plA : List (Nat × PureT) := [(142, B3t), (176, Mc), (50, Nh)]
theorem puA : By Tryz.prog plA := A0 is_coutside.plain P5 (A0 is_strong.plain Atf (A0 Wv.plain A3f Aa))
def plR : List (Nat × PureT) := [(121, A80), (65, Mc), (116, Ul)]
theorem puR : By Tryz.prog plR := A0 is_within.plain A82 (A0 is_Strong.plain A83 (A0 is_b3.plain Um Aa))
abbrev Jc : PureT := B9 [A4] [cI] (fun _ => true) (fun x => (okE (K8 x.1.1 x.1.2.1), ()))
def Md (m r : Int) : Tree (Int × Unit) := bif Az m 400 500 then .leaf (2, ()) else bif Az r 1000 4096 then .leaf (2, ()) else .leaf (0, ())
def Kw (m r : Int) : Tree (Int × Unit) := bif !!Az m 400 500 then .leaf (2, ()) else bif !!Az r 1000 4096 then .leaf (2, ()) else .leaf (0, ())
theorem X3 (m r : Int) : (Md m r).sat (fun y => y = (okE (K8 m r), ())) := by
 unfold Md K8 okE; cases Az m 400 500 <;> cases Az r 1000 4096 <;> exact rfl
theorem Tz (m r : Int) : (Kw m r).sat (fun y => y = (okE (K8 m r), ())) := by
 unfold Kw K8 okE; cases Az m 400 500 <;> cases Az r 1000 4096 <;> exact rfl
theorem T6 : A7 Tryz.prog 78 Jc := B6 (Ad Ab puA (fns_cons is_CheckBall A2)) 2 (fun x => Md x.1.1 x.1.2.1) (fun x => by kernel_rfl) fun _ _ _ => X3 _ _
theorem A3k : A7 Tryz.prog 80 Jc := B6 (Ad Ab puR (fns_cons is_rCheckBall A2)) 2 (fun x => Kw x.1.1 x.1.2.1) (fun x => by kernel_rfl) fun _ _ _ => Tz _ _
abbrev E9 : PureT := B9 [D5] [cI] (fun _ => true) (fun x => (okE (Hr x.1.1 x.1.2.1), ()))
def Jx (m r : Int) : Tree (Int × Unit) := bif Az m 0 950 then .leaf (2, ()) else bif Az r 0 300 then .leaf (2, ()) else .leaf (0, ())
def Ix (m r : Int) : Tree (Int × Unit) := bif !!Az m 0 950 then .leaf (2, ()) else bif !!Az r 0 300 then .leaf (2, ()) else .leaf (0, ())
theorem Rw (m r : Int) : (Jx m r).sat (fun y => y = (okE (Hr m r), ())) := by
 unfold Jx Hr okE; cases Az m 0 950 <;> cases Az r 0 300 <;> exact rfl
theorem Qe (m r : Int) : (Ix m r).sat (fun y => y = (okE (Hr m r), ())) := by
 unfold Ix Hr okE; cases Az m 0 950 <;> cases Az r 0 300 <;> exact rfl
theorem Jy : A7 Tryz.prog 79 E9 := B6 (Ad Ab puA (fns_cons is_CheckBounce A2)) 2 (fun x => Jx x.1.1 x.1.2.1) (fun x => by kernel_rfl) fun _ _ _ => Rw _ _
theorem Me : A7 Tryz.prog 81 E9 := B6 (Ad Ab puR (fns_cons is_rCheckBounce A2)) 2 (fun x => Ix x.1.1 x.1.2.1) (fun x => by kernel_rfl) fun _ _ _ => Qe _ _
def Uo (m r px py mx my rx ry : Int) : Tree (Int × Unit) :=
 bif Az m 400 500 then .leaf (2, ()) else bif Az r 1000 4096 then .leaf (2, ()) else bif Lu px py != 0 then .leaf (2, ()) else bif !Ay mx my then .leaf (2, ()) else
 bif Az rx (W64 (0 - W64 (32 * m))) (W64 (W64 (32 * m) - 1)) then .leaf (2, ()) else bif Az ry (W64 (0 - W64 (32 * m))) (W64 (W64 (32 * m) - 1)) then .leaf (2, ()) else .leaf (0, ())
def X4 (m r px py mx my rx ry : Int) : Tree (Int × Unit) :=
 bif !!Az m 400 500 then .leaf (2, ()) else bif !!Az r 1000 4096 then .leaf (2, ()) else bif !fpt px py then .leaf (2, ()) else bif !Ay mx my then .leaf (2, ()) else
 bif !!Az rx (W64 (0 - W64 (32 * m))) (W64 (W64 (32 * m) - 1)) then .leaf (2, ()) else bif !!Az ry (W64 (0 - W64 (32 * m))) (W64 (W64 (32 * m) - 1)) then .leaf (2, ()) else .leaf (0, ())
theorem Nj {m : Int} (h : Az m 400 500 = false) : W64 (0 - W64 (32 * m)) = -(32 * m) ∧ W64 (W64 (32 * m) - 1) = 32 * m - 1 := by
 have ⟨h1, h2⟩ := E8 h
 rw [show W64 (32 * m) = 32 * m from A5 (by omega) (by omega)]
 exact ⟨(A5 (by omega) (by omega)).trans (by omega), A5 (by omega) (by omega)⟩
theorem X5 (m r px py mx my rx ry : Int) : (Uo m r px py mx my rx ry).sat (fun y => y = (okE (Qd m r px py mx my rx ry), ())) := by
 unfold Uo Qd K8 okE Lu
 cases h : Az m 400 500 with
 | true => exact rfl
 | false =>
  rw [(Nj h).1, (Nj h).2]
  cases Az r 1000 4096 <;> cases fpt px py <;> cases Ay mx my <;> cases Az rx (-(32 * m)) (32 * m - 1) <;> cases Az ry (-(32 * m)) (32 * m - 1) <;> exact rfl
theorem A84 (m r px py mx my rx ry : Int) : (X4 m r px py mx my rx ry).sat (fun y => y = (okE (Qd m r px py mx my rx ry), ())) := by
 unfold X4 Qd K8 okE
 cases h : Az m 400 500 with
 | true => exact rfl
 | false =>
  rw [(Nj h).1, (Nj h).2]
  cases Az r 1000 4096 <;> cases fpt px py <;> cases Ay mx my <;> cases Az rx (-(32 * m)) (32 * m - 1) <;> cases Az ry (-(32 * m)) (32 * m - 1) <;> exact rfl
abbrev F0 : PureT := B9 [A4, Aj] [cI] (fun _ => true) (fun x => (okE (Qd x.1.1 x.1.2.1 x.2.1.1.1 x.2.1.1.2.1 x.2.1.2.1.1 x.2.1.2.1.2.1 x.2.1.2.2.1.1 x.2.1.2.2.1.2.1), ()))
abbrev A85 : PureT := B9 [.st [A4, Aj]] [cI] (fun _ => true) (fun x => (okE (Qd x.1.1.1 x.1.1.2.1 x.1.2.1.1.1 x.1.2.1.1.2.1 x.1.2.1.2.1.1 x.1.2.1.2.1.2.1 x.1.2.1.2.2.1.1 x.1.2.1.2.2.1.2.1), ()))
def plB : List (Nat × PureT) := (78, Jc) :: plA
theorem puB : By Tryz.prog plB := A0 is_CheckBall.plain T6 puA
theorem Ati : A7 Tryz.prog 143 A85 := B6 (Ad Ab puA (fns_cons is_rcheck (fns_cons is_CheckBall A2))) 3
 (fun x => Uo x.1.1.1 x.1.1.2.1 x.1.2.1.1.1 x.1.2.1.1.2.1 x.1.2.1.2.1.1 x.1.2.1.2.1.2.1 x.1.2.1.2.2.1.1 x.1.2.1.2.2.1.2.1) (fun x => by kernel_rfl) fun _ _ _ => X5 _ _ _ _ _ _ _ _
theorem Oc : A7 Tryz.prog 82 F0 := B6 (Ad Ab puA (fns_cons is_CheckMotion (fns_cons is_rcheck (fns_cons is_CheckBall A2)))) 4
 (fun x => Uo x.1.1 x.1.2.1 x.2.1.1.1 x.2.1.1.2.1 x.2.1.2.1.1 x.2.1.2.1.2.1 x.2.1.2.2.1.1 x.2.1.2.2.1.2.1) (fun x => by kernel_rfl) fun _ _ _ => X5 _ _ _ _ _ _ _ _
theorem Mf : A7 Tryz.prog 128 F0 := B6 (Ad Ab puR (fns_cons is_rCheckMotion (fns_cons is_rCheckBall A2))) 4
 (fun x => X4 x.1.1 x.1.2.1 x.2.1.1.1 x.2.1.1.2.1 x.2.1.2.1.1 x.2.1.2.1.2.1 x.2.1.2.2.1.1 x.2.1.2.2.1.2.1) (fun x => by kernel_rfl) fun _ _ _ => A84 _ _ _ _ _ _ _ _
end V
end Go.Proofs.YtkiaifmbbnnliaaGreat
