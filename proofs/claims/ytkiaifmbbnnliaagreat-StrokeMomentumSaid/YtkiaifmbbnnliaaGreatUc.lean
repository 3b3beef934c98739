import Derived.Test.YtkiaifmbbnnliaaGreatUb
namespace Go.Proofs.YtkiaifmbbnnliaaGreat
open Go.RowKit
namespace V
def K5 (m r : Int) : Bool := !Aw m 400 500 && !Aw r 1000 4096
def Gh (re dr : Int) : Bool := !Aw re 0 950 && !Aw dr 0 300
def Q9 (m r px py mx my rx ry : Int) : Bool := K5 m r && (fpt px py && (Au mx my && (!Aw rx (-(32 * m)) (32 * m - 1) && !Aw ry (-(32 * m)) (32 * m - 1))))
def okE (b : Bool) : Int := bif b then 0 else 2
theorem is_CheckBall : FnIs Tryz.prog (78, Tryz.f78) := ⟨Tryz.func78, by kernel_rfl, by kernel_rfl⟩
theorem is_rCheckBall : FnIs Tryz.prog (80, Tryz.f80) := ⟨Tryz.func80, by kernel_rfl, by kernel_rfl⟩
theorem is_CheckBounce : FnIs Tryz.prog (79, Tryz.f79) := ⟨Tryz.func79, by kernel_rfl, by kernel_rfl⟩
theorem is_rCheckBounce : FnIs Tryz.prog (81, Tryz.f81) := ⟨Tryz.func81, by kernel_rfl, by kernel_rfl⟩
theorem is_CheckMotion : FnIs Tryz.prog (82, Tryz.f82) := ⟨Tryz.func82, by kernel_rfl, by kernel_rfl⟩
theorem is_rCheckMotion : FnIs Tryz.prog (128, Tryz.f128) := ⟨Tryz.func128, by kernel_rfl, by kernel_rfl⟩
theorem is_rcheck : FnIs Tryz.prog (143, Tryz.f143) := ⟨Tryz.func143, by kernel_rfl, by kernel_rfl⟩
def plA : List (Nat × PureT) := [(142, Axu), (176, Q7), (50, Q2)]
theorem puA : Bu Tryz.prog plA := A0 is_coutside.plain P0 (A0 is_strong.plain Aof (A0 Vx.plain Tu A9))
def plR : List (Nat × PureT) := [(121, A6i), (65, Q7), (116, A2a)]
theorem puR : Bu Tryz.prog plR := A0 is_within.plain A6k (A0 is_Strong.plain Aog (A0 is_bN.plain Adl A9))
abbrev Jc : PureT := B4 [A3] [cI] (fun _ => true) (fun x => (okE (K5 x.1.1 x.1.2.1), ()))
def M7 (m r : Int) : Tree (Int × Unit) := bif Aw m 400 500 then .leaf (2, ()) else bif Aw r 1000 4096 then .leaf (2, ()) else .leaf (0, ())
def Ko (m r : Int) : Tree (Int × Unit) := bif !!Aw m 400 500 then .leaf (2, ()) else bif !!Aw r 1000 4096 then .leaf (2, ()) else .leaf (0, ())
theorem W5 (m r : Int) : (M7 m r).sat (fun y => y = (okE (K5 m r), ())) := by
 unfold M7 K5 okE; cases Aw m 400 500 <;> cases Aw r 1000 4096 <;> exact rfl
theorem Tj (m r : Int) : (Ko m r).sat (fun y => y = (okE (K5 m r), ())) := by
 unfold Ko K5 okE; cases Aw m 400 500 <;> cases Aw r 1000 4096 <;> exact rfl
theorem Su : A7 Tryz.prog 78 Jc := B2 (Ad Ab puA (fns_cons is_CheckBall A2)) 2 (fun x => M7 x.1.1 x.1.2.1) (fun x => by kernel_rfl) fun _ _ _ => W5 _ _
theorem A2f : A7 Tryz.prog 80 Jc := B2 (Ad Ab puR (fns_cons is_rCheckBall A2)) 2 (fun x => Ko x.1.1 x.1.2.1) (fun x => by kernel_rfl) fun _ _ _ => Tj _ _
abbrev Dl : PureT := B4 [Dz] [cI] (fun _ => true) (fun x => (okE (Gh x.1.1 x.1.2.1), ()))
def Jt (m r : Int) : Tree (Int × Unit) := bif Aw m 0 950 then .leaf (2, ()) else bif Aw r 0 300 then .leaf (2, ()) else .leaf (0, ())
def Iw (m r : Int) : Tree (Int × Unit) := bif !!Aw m 0 950 then .leaf (2, ()) else bif !!Aw r 0 300 then .leaf (2, ()) else .leaf (0, ())
theorem Rp (m r : Int) : (Jt m r).sat (fun y => y = (okE (Gh m r), ())) := by
 unfold Jt Gh okE; cases Aw m 0 950 <;> cases Aw r 0 300 <;> exact rfl
theorem Qa (m r : Int) : (Iw m r).sat (fun y => y = (okE (Gh m r), ())) := by
 unfold Iw Gh okE; cases Aw m 0 950 <;> cases Aw r 0 300 <;> exact rfl
theorem Ju : A7 Tryz.prog 79 Dl := B2 (Ad Ab puA (fns_cons is_CheckBounce A2)) 2 (fun x => Jt x.1.1 x.1.2.1) (fun x => by kernel_rfl) fun _ _ _ => Rp _ _
theorem M8 : A7 Tryz.prog 81 Dl := B2 (Ad Ab puR (fns_cons is_rCheckBounce A2)) 2 (fun x => Iw x.1.1 x.1.2.1) (fun x => by kernel_rfl) fun _ _ _ => Qa _ _
def Tw (m r px py mx my rx ry : Int) : Tree (Int × Unit) :=
 bif Aw m 400 500 then .leaf (2, ()) else bif Aw r 1000 4096 then .leaf (2, ()) else bif Q1 px py != 0 then .leaf (2, ()) else bif !Au mx my then .leaf (2, ()) else
 bif Aw rx (W64 (0 - W64 (32 * m))) (W64 (W64 (32 * m) - 1)) then .leaf (2, ()) else bif Aw ry (W64 (0 - W64 (32 * m))) (W64 (W64 (32 * m) - 1)) then .leaf (2, ()) else .leaf (0, ())
def W6 (m r px py mx my rx ry : Int) : Tree (Int × Unit) :=
 bif !!Aw m 400 500 then .leaf (2, ()) else bif !!Aw r 1000 4096 then .leaf (2, ()) else bif !fpt px py then .leaf (2, ()) else bif !Au mx my then .leaf (2, ()) else
 bif !!Aw rx (W64 (0 - W64 (32 * m))) (W64 (W64 (32 * m) - 1)) then .leaf (2, ()) else bif !!Aw ry (W64 (0 - W64 (32 * m))) (W64 (W64 (32 * m) - 1)) then .leaf (2, ()) else .leaf (0, ())
theorem Ng {m : Int} (h : Aw m 400 500 = false) : W64 (0 - W64 (32 * m)) = -(32 * m) ∧ W64 (W64 (32 * m) - 1) = 32 * m - 1 := by
 have ⟨h1, h2⟩ := Dk h
 rw [show W64 (32 * m) = 32 * m from A6 (by omega) (by omega)]
 exact ⟨(A6 (by omega) (by omega)).trans (by omega), A6 (by omega) (by omega)⟩
theorem W7 (m r px py mx my rx ry : Int) : (Tw m r px py mx my rx ry).sat (fun y => y = (okE (Q9 m r px py mx my rx ry), ())) := by
 unfold Tw Q9 K5 okE Q1
 cases h : Aw m 400 500 with
 | true => exact rfl
 | false =>
  rw [(Ng h).1, (Ng h).2]
  cases Aw r 1000 4096 <;> cases fpt px py <;> cases Au mx my <;> cases Aw rx (-(32 * m)) (32 * m - 1) <;> cases Aw ry (-(32 * m)) (32 * m - 1) <;> exact rfl
theorem A6l (m r px py mx my rx ry : Int) : (W6 m r px py mx my rx ry).sat (fun y => y = (okE (Q9 m r px py mx my rx ry), ())) := by
 unfold W6 Q9 K5 okE
 cases h : Aw m 400 500 with
 | true => exact rfl
 | false =>
  rw [(Ng h).1, (Ng h).2]
  cases Aw r 1000 4096 <;> cases fpt px py <;> cases Au mx my <;> cases Aw rx (-(32 * m)) (32 * m - 1) <;> cases Aw ry (-(32 * m)) (32 * m - 1) <;> exact rfl
abbrev E8 : PureT := B4 [A3, Ai] [cI] (fun _ => true) (fun x => (okE (Q9 x.1.1 x.1.2.1 x.2.1.1.1 x.2.1.1.2.1 x.2.1.2.1.1 x.2.1.2.1.2.1 x.2.1.2.2.1.1 x.2.1.2.2.1.2.1), ()))
abbrev A6m : PureT := B4 [.st [A3, Ai]] [cI] (fun _ => true) (fun x => (okE (Q9 x.1.1.1 x.1.1.2.1 x.1.2.1.1.1 x.1.2.1.1.2.1 x.1.2.1.2.1.1 x.1.2.1.2.1.2.1 x.1.2.1.2.2.1.1 x.1.2.1.2.2.1.2.1), ()))
def plB : List (Nat × PureT) := (78, Jc) :: plA
theorem puB : Bu Tryz.prog plB := A0 is_CheckBall.plain Su puA
theorem Aoj : A7 Tryz.prog 143 A6m := B2 (Ad Ab puA (fns_cons is_rcheck (fns_cons is_CheckBall A2))) 3
 (fun x => Tw x.1.1.1 x.1.1.2.1 x.1.2.1.1.1 x.1.2.1.1.2.1 x.1.2.1.2.1.1 x.1.2.1.2.1.2.1 x.1.2.1.2.2.1.1 x.1.2.1.2.2.1.2.1) (fun x => by kernel_rfl) fun _ _ _ => W7 _ _ _ _ _ _ _ _
theorem O7 : A7 Tryz.prog 82 E8 := B2 (Ad Ab puA (fns_cons is_CheckMotion (fns_cons is_rcheck (fns_cons is_CheckBall A2)))) 4
 (fun x => Tw x.1.1 x.1.2.1 x.2.1.1.1 x.2.1.1.2.1 x.2.1.2.1.1 x.2.1.2.1.2.1 x.2.1.2.2.1.1 x.2.1.2.2.1.2.1) (fun x => by kernel_rfl) fun _ _ _ => W7 _ _ _ _ _ _ _ _
theorem M9 : A7 Tryz.prog 128 E8 := B2 (Ad Ab puR (fns_cons is_rCheckMotion (fns_cons is_rCheckBall A2))) 4
 (fun x => W6 x.1.1 x.1.2.1 x.2.1.1.1 x.2.1.1.2.1 x.2.1.2.1.1 x.2.1.2.1.2.1 x.2.1.2.2.1.1 x.2.1.2.2.1.2.1) (fun x => by kernel_rfl) fun _ _ _ => A6l _ _ _ _ _ _ _ _
end V
end Go.Proofs.YtkiaifmbbnnliaaGreat
