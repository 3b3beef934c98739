/- Contracts of the checks of contact and of its reference. -/
import Derived.Test.YtialgmhhkbdegaaUb
namespace Go.Proofs.Ytialgmhhkbdegaa
open Go.RowKit
namespace V
def ballB (m r : Int) : Bool := !outB m 400 500 && !outB r 1000 4096
def bncB (re dr : Int) : Bool := !outB re 0 950 && !outB dr 0 300
def motB (m r px py mx my rx ry : Int) : Bool := ballB m r && (fpt px py && (strongB mx my && (!outB rx (-(32 * m)) (32 * m - 1) && !outB ry (-(32 * m)) (32 * m - 1))))
def okE (b : Bool) : Int := bif b then 0 else 2
theorem is_CheckBall : FnIs Try.prog (74, Try.f74) := ⟨Try.func74, by kernel_rfl, by kernel_rfl⟩
theorem is_CheckBounce : FnIs Try.prog (37, Try.f37) := ⟨Try.func37, by kernel_rfl, by kernel_rfl⟩
theorem is_CheckMotion : FnIs Try.prog (67, Try.f67) := ⟨Try.func67, by kernel_rfl, by kernel_rfl⟩
theorem is_rcheck : FnIs Try.prog (40, Try.f40) := ⟨Try.func40, by kernel_rfl, by kernel_rfl⟩
def plA : List (Nat × PureT) := [(68, s_out), (73, s_strong), (61, s_Check)]
theorem puA : PuOk Try.prog plA := puOk_cons is_coutside.plain q_coutside (puOk_cons is_strong.plain q_strong (puOk_cons u_is_Check.plain q_Check puOk_nil))
abbrev s_CheckBall : PureT := spec [cBall] [cI] (fun _ => true) (fun x => (okE (ballB x.1.1 x.1.2.1), ()))
def T_CheckBall (m r : Int) : Tree (Int × Unit) := bif outB m 400 500 then .leaf (2, ()) else bif outB r 1000 4096 then .leaf (2, ()) else .leaf (0, ())
def T_rCheckBall (m r : Int) : Tree (Int × Unit) := bif !!outB m 400 500 then .leaf (2, ()) else bif !!outB r 1000 4096 then .leaf (2, ()) else .leaf (0, ())
theorem T_CheckBall_ok (m r : Int) : (T_CheckBall m r).sat (fun y => y = (okE (ballB m r), ())) := by
  unfold T_CheckBall ballB okE; cases outB m 400 500 <;> cases outB r 1000 4096 <;> exact rfl
theorem T_rCheckBall_ok (m r : Int) : (T_rCheckBall m r).sat (fun y => y = (okE (ballB m r), ())) := by
  unfold T_rCheckBall ballB okE; cases outB m 400 500 <;> cases outB r 1000 4096 <;> exact rfl
theorem q_CheckBall : PureOk Try.prog 74 s_CheckBall := q_by (ctx_ok mixed puA (fns_cons is_CheckBall fns_nil)) 2 (fun x => T_CheckBall x.1.1 x.1.2.1) (fun x => by kernel_rfl) fun _ _ _ => T_CheckBall_ok _ _
abbrev s_CheckBounce : PureT := spec [cBnc] [cI] (fun _ => true) (fun x => (okE (bncB x.1.1 x.1.2.1), ()))
def T_CheckBounce (m r : Int) : Tree (Int × Unit) := bif outB m 0 950 then .leaf (2, ()) else bif outB r 0 300 then .leaf (2, ()) else .leaf (0, ())
def T_rCheckBounce (m r : Int) : Tree (Int × Unit) := bif !!outB m 0 950 then .leaf (2, ()) else bif !!outB r 0 300 then .leaf (2, ()) else .leaf (0, ())
theorem T_CheckBounce_ok (m r : Int) : (T_CheckBounce m r).sat (fun y => y = (okE (bncB m r), ())) := by
  unfold T_CheckBounce bncB okE; cases outB m 0 950 <;> cases outB r 0 300 <;> exact rfl
theorem T_rCheckBounce_ok (m r : Int) : (T_rCheckBounce m r).sat (fun y => y = (okE (bncB m r), ())) := by
  unfold T_rCheckBounce bncB okE; cases outB m 0 950 <;> cases outB r 0 300 <;> exact rfl
theorem q_CheckBounce : PureOk Try.prog 37 s_CheckBounce := q_by (ctx_ok mixed puA (fns_cons is_CheckBounce fns_nil)) 2 (fun x => T_CheckBounce x.1.1 x.1.2.1) (fun x => by kernel_rfl) fun _ _ _ => T_CheckBounce_ok _ _
def T_check (m r px py mx my rx ry : Int) : Tree (Int × Unit) :=
  bif outB m 400 500 then .leaf (2, ()) else bif outB r 1000 4096 then .leaf (2, ()) else bif u_ck px py != 0 then .leaf (2, ()) else bif !strongB mx my then .leaf (2, ()) else
  bif outB rx (W64 (0 - W64 (32 * m))) (W64 (W64 (32 * m) - 1)) then .leaf (2, ()) else bif outB ry (W64 (0 - W64 (32 * m))) (W64 (W64 (32 * m) - 1)) then .leaf (2, ()) else .leaf (0, ())
def T_rcheck (m r px py mx my rx ry : Int) : Tree (Int × Unit) :=
  bif !!outB m 400 500 then .leaf (2, ()) else bif !!outB r 1000 4096 then .leaf (2, ()) else bif !fpt px py then .leaf (2, ()) else bif !strongB mx my then .leaf (2, ()) else
  bif !!outB rx (W64 (0 - W64 (32 * m))) (W64 (W64 (32 * m) - 1)) then .leaf (2, ()) else bif !!outB ry (W64 (0 - W64 (32 * m))) (W64 (W64 (32 * m) - 1)) then .leaf (2, ()) else .leaf (0, ())
theorem half_wrap {m : Int} (h : outB m 400 500 = false) : W64 (0 - W64 (32 * m)) = -(32 * m) ∧ W64 (W64 (32 * m) - 1) = 32 * m - 1 := by
  have ⟨h1, h2⟩ := out_no h
  rw [show W64 (32 * m) = 32 * m from wrap_id (by omega) (by omega)]
  exact ⟨(wrap_id (by omega) (by omega)).trans (by omega), wrap_id (by omega) (by omega)⟩
theorem T_check_ok (m r px py mx my rx ry : Int) : (T_check m r px py mx my rx ry).sat (fun y => y = (okE (motB m r px py mx my rx ry), ())) := by
  unfold T_check motB ballB okE u_ck
  cases h : outB m 400 500 with
  | true => exact rfl
  | false =>
    rw [(half_wrap h).1, (half_wrap h).2]
    cases outB r 1000 4096 <;> cases fpt px py <;> cases strongB mx my <;> cases outB rx (-(32 * m)) (32 * m - 1) <;> cases outB ry (-(32 * m)) (32 * m - 1) <;> exact rfl
theorem T_rcheck_ok (m r px py mx my rx ry : Int) : (T_rcheck m r px py mx my rx ry).sat (fun y => y = (okE (motB m r px py mx my rx ry), ())) := by
  unfold T_rcheck motB ballB okE
  cases h : outB m 400 500 with
  | true => exact rfl
  | false =>
    rw [(half_wrap h).1, (half_wrap h).2]
    cases outB r 1000 4096 <;> cases fpt px py <;> cases strongB mx my <;> cases outB rx (-(32 * m)) (32 * m - 1) <;> cases outB ry (-(32 * m)) (32 * m - 1) <;> exact rfl
abbrev s_CheckMotion : PureT := spec [cBall, cMot] [cI] (fun _ => true) (fun x => (okE (motB x.1.1 x.1.2.1 x.2.1.1.1 x.2.1.1.2.1 x.2.1.2.1.1 x.2.1.2.1.2.1 x.2.1.2.2.1.1 x.2.1.2.2.1.2.1), ()))
abbrev s_rcheck : PureT := spec [.st [cBall, cMot]] [cI] (fun _ => true) (fun x => (okE (motB x.1.1.1 x.1.1.2.1 x.1.2.1.1.1 x.1.2.1.1.2.1 x.1.2.1.2.1.1 x.1.2.1.2.1.2.1 x.1.2.1.2.2.1.1 x.1.2.1.2.2.1.2.1), ()))
def plB : List (Nat × PureT) := (74, s_CheckBall) :: plA
theorem puB : PuOk Try.prog plB := puOk_cons is_CheckBall.plain q_CheckBall puA
theorem q_rcheck : PureOk Try.prog 40 s_rcheck := q_by (ctx_ok mixed puA (fns_cons is_rcheck (fns_cons is_CheckBall fns_nil))) 3
  (fun x => T_check x.1.1.1 x.1.1.2.1 x.1.2.1.1.1 x.1.2.1.1.2.1 x.1.2.1.2.1.1 x.1.2.1.2.1.2.1 x.1.2.1.2.2.1.1 x.1.2.1.2.2.1.2.1) (fun x => by kernel_rfl) fun _ _ _ => T_check_ok _ _ _ _ _ _ _ _
theorem q_CheckMotion : PureOk Try.prog 67 s_CheckMotion := q_by (ctx_ok mixed puA (fns_cons is_CheckMotion (fns_cons is_rcheck (fns_cons is_CheckBall fns_nil)))) 4
  (fun x => T_check x.1.1 x.1.2.1 x.2.1.1.1 x.2.1.1.2.1 x.2.1.2.1.1 x.2.1.2.1.2.1 x.2.1.2.2.1.1 x.2.1.2.2.1.2.1) (fun x => by kernel_rfl) fun _ _ _ => T_check_ok _ _ _ _ _ _ _ _
end V
end Go.Proofs.Ytialgmhhkbdegaa
