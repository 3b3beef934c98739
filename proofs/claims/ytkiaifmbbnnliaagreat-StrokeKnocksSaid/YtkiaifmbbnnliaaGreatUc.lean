import Derived.Test.YtkiaifmbbnnliaaGreatUb
namespace Go.Proofs.YtkiaifmbbnnliaaGreat
open Go.RowKit
namespace V
def ballB (m r : Int) : Bool := !outB m 400 500 && !outB r 1000 4096
def bncB (re dr : Int) : Bool := !outB re 0 950 && !outB dr 0 300
def motB (m r px py mx my rx ry : Int) : Bool := ballB m r && (fpt px py && (strongB mx my && (!outB rx (-(32 * m)) (32 * m - 1) && !outB ry (-(32 * m)) (32 * m - 1))))
def okE (b : Bool) : Int := bif b then 0 else 2
theorem is_CheckBall : FnIs Tryz.prog (78, Tryz.f78) := ⟨Tryz.func78, by kernel_rfl, by kernel_rfl⟩
theorem is_rCheckBall : FnIs Tryz.prog (80, Tryz.f80) := ⟨Tryz.func80, by kernel_rfl, by kernel_rfl⟩
theorem is_CheckBounce : FnIs Tryz.prog (79, Tryz.f79) := ⟨Tryz.func79, by kernel_rfl, by kernel_rfl⟩
theorem is_rCheckBounce : FnIs Tryz.prog (81, Tryz.f81) := ⟨Tryz.func81, by kernel_rfl, by kernel_rfl⟩
theorem is_CheckMotion : FnIs Tryz.prog (82, Tryz.f82) := ⟨Tryz.func82, by kernel_rfl, by kernel_rfl⟩
theorem is_rCheckMotion : FnIs Tryz.prog (128, Tryz.f128) := ⟨Tryz.func128, by kernel_rfl, by kernel_rfl⟩
theorem is_rcheck : FnIs Tryz.prog (143, Tryz.f143) := ⟨Tryz.func143, by kernel_rfl, by kernel_rfl⟩
def plA : List (Nat × PureT) := [(142, s_out), (176, s_strong), (50, s_Check)]
theorem puA : PuOk Tryz.prog plA := puOk_cons is_coutside.plain q_coutside (puOk_cons is_strong.plain q_strong (puOk_cons u_is_Check.plain q_Check puOk_nil))
def plR : List (Nat × PureT) := [(121, s_within), (65, s_strong), (116, s_Valid)]
theorem puR : PuOk Tryz.prog plR := puOk_cons is_within.plain q_within (puOk_cons is_Strong.plain q_Strong (puOk_cons is_Valid.plain q_Valid puOk_nil))
abbrev s_CheckBall : PureT := spec [cBall] [cI] (fun _ => true) (fun x => (okE (ballB x.1.1 x.1.2.1), ()))
def T_CheckBall (m r : Int) : Tree (Int × Unit) := bif outB m 400 500 then .leaf (2, ()) else bif outB r 1000 4096 then .leaf (2, ()) else .leaf (0, ())
def T_rCheckBall (m r : Int) : Tree (Int × Unit) := bif !!outB m 400 500 then .leaf (2, ()) else bif !!outB r 1000 4096 then .leaf (2, ()) else .leaf (0, ())
theorem T_CheckBall_ok (m r : Int) : (T_CheckBall m r).sat (fun y => y = (okE (ballB m r), ())) := by
  unfold T_CheckBall ballB okE; cases outB m 400 500 <;> cases outB r 1000 4096 <;> exact rfl
theorem T_rCheckBall_ok (m r : Int) : (T_rCheckBall m r).sat (fun y => y = (okE (ballB m r), ())) := by
  unfold T_rCheckBall ballB okE; cases outB m 400 500 <;> cases outB r 1000 4096 <;> exact rfl
theorem q_CheckBall : PureOk Tryz.prog 78 s_CheckBall := q_by (ctx_ok mixed puA (fns_cons is_CheckBall fns_nil)) 2 (fun x => T_CheckBall x.1.1 x.1.2.1) (fun x => by kernel_rfl) fun _ _ _ => T_CheckBall_ok _ _
theorem q_rCheckBall : PureOk Tryz.prog 80 s_CheckBall := q_by (ctx_ok mixed puR (fns_cons is_rCheckBall fns_nil)) 2 (fun x => T_rCheckBall x.1.1 x.1.2.1) (fun x => by kernel_rfl) fun _ _ _ => T_rCheckBall_ok _ _
abbrev s_CheckBounce : PureT := spec [cBnc] [cI] (fun _ => true) (fun x => (okE (bncB x.1.1 x.1.2.1), ()))
def T_CheckBounce (m r : Int) : Tree (Int × Unit) := bif outB m 0 950 then .leaf (2, ()) else bif outB r 0 300 then .leaf (2, ()) else .leaf (0, ())
def T_rCheckBounce (m r : Int) : Tree (Int × Unit) := bif !!outB m 0 950 then .leaf (2, ()) else bif !!outB r 0 300 then .leaf (2, ()) else .leaf (0, ())
theorem T_CheckBounce_ok (m r : Int) : (T_CheckBounce m r).sat (fun y => y = (okE (bncB m r), ())) := by
  unfold T_CheckBounce bncB okE; cases outB m 0 950 <;> cases outB r 0 300 <;> exact rfl
theorem T_rCheckBounce_ok (m r : Int) : (T_rCheckBounce m r).sat (fun y => y = (okE (bncB m r), ())) := by
  unfold T_rCheckBounce bncB okE; cases outB m 0 950 <;> cases outB r 0 300 <;> exact rfl
theorem q_CheckBounce : PureOk Tryz.prog 79 s_CheckBounce := q_by (ctx_ok mixed puA (fns_cons is_CheckBounce fns_nil)) 2 (fun x => T_CheckBounce x.1.1 x.1.2.1) (fun x => by kernel_rfl) fun _ _ _ => T_CheckBounce_ok _ _
theorem q_rCheckBounce : PureOk Tryz.prog 81 s_CheckBounce := q_by (ctx_ok mixed puR (fns_cons is_rCheckBounce fns_nil)) 2 (fun x => T_rCheckBounce x.1.1 x.1.2.1) (fun x => by kernel_rfl) fun _ _ _ => T_rCheckBounce_ok _ _
def T_check (m r px py mx my rx ry : Int) : Tree (Int × Unit) :=
  bif outB m 400 500 then .leaf (2, ()) else bif outB r 1000 4096 then .leaf (2, ()) else bif u_ck px py != 0 then .leaf (2, ()) else bif !strongB mx my then .leaf (2, ()) else
  bif outB rx (W64 (0 - W64 (32 * m))) (W64 (W64 (32 * m) - 1)) then .leaf (2, ()) else bif outB ry (W64 (0 - W64 (32 * m))) (W64 (W64 (32 * m) - 1)) then .leaf (2, ()) else .leaf (0, ())
def T_rcheck (m r px py mx my rx ry : Int) : Tree (Int × Unit) :=
  bif !!outB m 400 500 then .leaf (2, ()) else bif !!outB r 1000 4096 then .leaf (2, ()) else bif !fpt px py then .leaf (2, ()) else bif !strongB mx my then .leaf (2, ()) else
  bif !!outB rx (W64 (0 - W64 (32 * m))) (W64 (W64 (32 * m) - 1)) then .leaf (2, ()) else bif !!outB ry (W64 (0 - W64 (32 * m))) (W64 (W64 (32 * m) - 1)) then .leaf (2, ()) else .leaf (0, ())
theorem half_wrap {m : Int} (h : outB m 400 500 = false) : W64 (0 - W64 (32 * m)) = -(32 * m) ∧ W64 (W64 (32 * m) - 1) = 32 * m - 1 := by
  have ⟨h1, h2⟩ := out_no h
  rw [show W64 (32 * m) = 32 * m from wrap_id (by omega) (by omega)]
  exact ⟨(wrap_id (by omega) (by omega)).trans (by omega), wrap_id (by omega) (by omega)⟩
theorem T_check_ok (m r px py mx my rx ry : Int) : (T_check m r px py mx my rx ry).sat (fun y => y = (okE (motB m r px py mx my rx ry), ())) := by
  unfold T_check motB ballB okE u_ck
  cases h : outB m 400 500 with
  | true => exact rfl
  | false =>
    rw [(half_wrap h).1, (half_wrap h).2]
    cases outB r 1000 4096 <;> cases fpt px py <;> cases strongB mx my <;> cases outB rx (-(32 * m)) (32 * m - 1) <;> cases outB ry (-(32 * m)) (32 * m - 1) <;> exact rfl
theorem T_rcheck_ok (m r px py mx my rx ry : Int) : (T_rcheck m r px py mx my rx ry).sat (fun y => y = (okE (motB m r px py mx my rx ry), ())) := by
  unfold T_rcheck motB ballB okE
  cases h : outB m 400 500 with
  | true => exact rfl
  | false =>
    rw [(half_wrap h).1, (half_wrap h).2]
    cases outB r 1000 4096 <;> cases fpt px py <;> cases strongB mx my <;> cases outB rx (-(32 * m)) (32 * m - 1) <;> cases outB ry (-(32 * m)) (32 * m - 1) <;> exact rfl
abbrev s_CheckMotion : PureT := spec [cBall, cMot] [cI] (fun _ => true) (fun x => (okE (motB x.1.1 x.1.2.1 x.2.1.1.1 x.2.1.1.2.1 x.2.1.2.1.1 x.2.1.2.1.2.1 x.2.1.2.2.1.1 x.2.1.2.2.1.2.1), ()))
abbrev s_rcheck : PureT := spec [.st [cBall, cMot]] [cI] (fun _ => true) (fun x => (okE (motB x.1.1.1 x.1.1.2.1 x.1.2.1.1.1 x.1.2.1.1.2.1 x.1.2.1.2.1.1 x.1.2.1.2.1.2.1 x.1.2.1.2.2.1.1 x.1.2.1.2.2.1.2.1), ()))
def plB : List (Nat × PureT) := (78, s_CheckBall) :: plA
theorem puB : PuOk Tryz.prog plB := puOk_cons is_CheckBall.plain q_CheckBall puA
theorem q_rcheck : PureOk Tryz.prog 143 s_rcheck := q_by (ctx_ok mixed puA (fns_cons is_rcheck (fns_cons is_CheckBall fns_nil))) 3
  (fun x => T_check x.1.1.1 x.1.1.2.1 x.1.2.1.1.1 x.1.2.1.1.2.1 x.1.2.1.2.1.1 x.1.2.1.2.1.2.1 x.1.2.1.2.2.1.1 x.1.2.1.2.2.1.2.1) (fun x => by kernel_rfl) fun _ _ _ => T_check_ok _ _ _ _ _ _ _ _
theorem q_CheckMotion : PureOk Tryz.prog 82 s_CheckMotion := q_by (ctx_ok mixed puA (fns_cons is_CheckMotion (fns_cons is_rcheck (fns_cons is_CheckBall fns_nil)))) 4
  (fun x => T_check x.1.1 x.1.2.1 x.2.1.1.1 x.2.1.1.2.1 x.2.1.2.1.1 x.2.1.2.1.2.1 x.2.1.2.2.1.1 x.2.1.2.2.1.2.1) (fun x => by kernel_rfl) fun _ _ _ => T_check_ok _ _ _ _ _ _ _ _
theorem q_rCheckMotion : PureOk Tryz.prog 128 s_CheckMotion := q_by (ctx_ok mixed puR (fns_cons is_rCheckMotion (fns_cons is_rCheckBall fns_nil))) 4
  (fun x => T_rcheck x.1.1 x.1.2.1 x.2.1.1.1 x.2.1.1.2.1 x.2.1.2.1.1 x.2.1.2.1.2.1 x.2.1.2.2.1.1 x.2.1.2.2.1.2.1) (fun x => by kernel_rfl) fun _ _ _ => T_rcheck_ok _ _ _ _ _ _ _ _
end V
end Go.Proofs.YtkiaifmbbnnliaaGreat
